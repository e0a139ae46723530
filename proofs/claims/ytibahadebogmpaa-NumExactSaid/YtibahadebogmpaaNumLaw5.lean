import Derived.Test.YtibahadebogmpaaNumRf
import Derived.Test.YtibahadebogmpaaNumLaw1
import Derived.Deep.DeepCutAuto
/- NumExact. -/
namespace Cam
open Go Go.RowKit Go.Proofs

theorem sum_all (l : List Int) : (allRight l = false ∧ sumE l = 3 ∧ sumN l = 0) ∨ (allRight l = true ∧ sumE l = 1 ∧ sumN l = 0 ∧ wInt (sumI l) = 0 ∧ rightB (sumI l) = false) ∨ (allRight l = true ∧ sumE l = 0 ∧ rightB (sumI l) = true ∧ sumN l = wInt (sumI l)) := by
  rcases sum_cases l with ⟨a1, a2, a3⟩ | ⟨a1, a2, a3, a4⟩ | ⟨a1, a2, a3, a4⟩
  · exact .inl ⟨a3, a1, a2⟩
  · exact .inr (.inl ⟨a3, a1, a2, by unfold wInt; rw [a4]; rfl, a4⟩)
  · exact .inr (.inr ⟨a3, a1, a4, by rw [a2]; unfold wInt; rw [a4]; rfl⟩)

set_option maxRecDepth 100000 in
set_option maxHeartbeats 6400000 in
theorem NumExact_walk (w : World) (v : Value) (l : List Int) (a b lo hi : Int) (h : Is w v l) (hl : ∀ n ∈ l, -9223372036854775808 ≤ n ∧ n ≤ 9223372036854775807) (ha : -9223372036854775808 ≤ a ∧ a ≤ 9223372036854775807) (hb : -9223372036854775808 ≤ b ∧ b ≤ 9223372036854775807) :
    Calls Try.prog 7 #[v, .int .i64 a, .int .i64 b, .int .i64 lo, .int .i64 hi] w fun e w' => e = .returned (.bool true) ∧ Below w.heap.size w w' := by
  obtain ⟨sa, cap, rfl, hcap, hm⟩ := h.shape
  by_cases hlen : 2000 < l.length
  · go_enter Try.func7, Try.ntmps7
    go_wp2_with fail
    go_ret
    exact ⟨rfl, Below.refl _ _⟩
  have hlen' : decide (2000 < (l.length : Int)) = false := by simp; omega
  have ri := fun w h => Right_any w (.slice sa l.length cap) l h
  have al := fun w h => All_any w (.slice sa l.length cap) l h
  have su := fun w h => Sum_any w (.slice sa l.length cap) l h
  have ad := fun w h => rAdd_any w (.slice sa l.length cap) l h hl (by omega)
  have hX := sum_all l
  generalize allRight l = X at ri al hX
  generalize sumE l = E at su hX
  generalize sumN l = N at su hX
  generalize wInt (sumI l) = A at ad hX
  generalize rightB (sumI l) = B at ad hX
  have HX := Lib.hid hX
  have Ha := Lib.hid ha
  have Hb := Lib.hid hb
  clear hX ha hb hl
  go_enter Try.func7, Try.ntmps7
  go_wp2_with fail
  refine (ri _ h).mono ?_
  rintro e w1 ⟨rfl, rfl⟩
  go_wp2_with fail
  refine (al _ h).mono ?_
  rintro e w1 ⟨rfl, rfl⟩
  go_wp2_with fail
  refine (su _ h).mono ?_
  rintro e w1 ⟨rfl, hb1⟩
  have h1 := h.mono hb1
  go_wp2_with fail
  refine (ad _ h1).mono ?_
  rintro e w2 ⟨rfl, hb2⟩
  have h2 := h1.mono hb2
  have hw2 := hb1.next hb2
  clear su ad ri hb1 hb2 h1
  go_upto_region 7 with fail
  go_cut [71] (fun s71 wx => s71 = .bool false ∧ wx = w2)
  case first =>
    have hX := HX.out
    rcases hX with ⟨rfl, rfl, rfl⟩ | ⟨rfl, rfl, rfl, rfl, rfl⟩ | ⟨rfl, rfl, rfl, hN⟩
    · go_wp2_with fail
      refine (al _ h2).mono ?_
      rintro e w3 ⟨rfl, rfl⟩
      go_wp2_with fail
      refine (al _ h2).mono ?_
      rintro e w3 ⟨rfl, rfl⟩
      go_wp2_with fail
      go_meet
      exact ⟨rfl, rfl⟩
    · go_wp2_with fail
      refine (al _ h2).mono ?_
      rintro e w3 ⟨rfl, rfl⟩
      go_wp2_with fail
      refine (al _ h2).mono ?_
      rintro e w3 ⟨rfl, rfl⟩
      go_wp2_with fail
      go_meet
      exact ⟨rfl, rfl⟩
    · subst hN
      go_wp2_with fail
      refine (al _ h2).mono ?_
      rintro e w3 ⟨rfl, rfl⟩
      go_wp2_with fail
      refine (al _ h2).mono ?_
      rintro e w3 ⟨rfl, rfl⟩
      go_wp2_with fail
      go_meet
      exact ⟨rfl, rfl⟩
  case rest =>
    obtain ⟨rfl, hwc⟩ := hcut
    subst hwc
    clear al HX h2 h
    go_upto_region 9 with fail
    have Mb := Lib.hid (rfl : (rightB a && rightB b) = (rightB a && rightB b))
    obtain ⟨M, hM⟩ : ∃ M, M = (rightB a && rightB b) := ⟨_, rfl⟩
    have HM := Lib.hid hM
    clear Mb hM
    go_cut [15] (fun s15 wx => s15 = .bool M ∧ wx = wc)
    case first =>
      have r1 := fun w => rRight_any w a
      have r2 := fun w => rRight_any w b
      cases hra : rightB a with
      | true =>
        rw [hra] at r1
        have hm1 := Lib.hid (show M = rightB b by rw [HM.out, hra]; rfl)
        clear hra
        go_wp2_with fail
        refine (r1 _).mono ?_
        rintro e w3 ⟨rfl, rfl⟩
        go_wp2_with fail
        refine (r2 _).mono ?_
        rintro e w3 ⟨rfl, rfl⟩
        go_wp2_with fail
        go_meet
        exact ⟨by rw [hm1.out], rfl⟩
      | false =>
        rw [hra] at r1
        have hm1 := Lib.hid (show M = false by rw [HM.out, hra]; rfl)
        clear hra
        go_wp2_with fail
        refine (r1 _).mono ?_
        rintro e w3 ⟨rfl, rfl⟩
        go_wp2_with fail
        go_meet
        exact ⟨by rw [hm1.out], rfl⟩
    case rest =>
      obtain ⟨rfl, hwc⟩ := hcut
      subst hwc
      have le := fun w => Less_any w a b
      have ti := fun w => Times_any w a b Ha.out Hb.out
      have qu := fun w => Quo_any w a b
      cases M with
      | false =>
        have hA : allRight [a, b] = false := by
          have := HM.out
          simp [allRight]
          simpa using this.symm
        have e1 : lessN a b = 0 ∧ lessE a b = 3 := by simp [lessN, lessE, hA]
        have e2 : mulN a b = 0 ∧ mulE a b = 3 := by simp [mulN, mulE, hA]
        have e3 : quoQ a b = 0 ∧ quoR a b = 0 ∧ quoE a b = 3 := by simp [quoQ, quoR, quoE, hA]
        rw [e1.1, e1.2] at le
        rw [e2.1, e2.2] at ti
        rw [e3.1, e3.2.1, e3.2.2] at qu
        clear hA e1 e2 e3 HM
        go_wp2_with fail
        refine (le _).mono ?_
        rintro e w3 ⟨rfl, hb3⟩
        go_wp2_with fail
        refine (ti _).mono ?_
        rintro e w4 ⟨rfl, hb4⟩
        go_wp2_with fail
        refine (qu _).mono ?_
        rintro e w5 ⟨rfl, hb5⟩
        have hw5 := ((hw2.next hb3).next hb4).next hb5
        clear le ti qu hb3 hb4 hb5 hw2
        have pa := fun w => Part_any w a lo hi
        go_wp2_with fail
        refine (pa _).mono ?_
        rintro e w9 ⟨rfl, rfl⟩
        go_wp2_with fail
        all_goals
          first
            | (exfalso; unfold partI at *; omega)
            | (refine (wakes_any _).mono ?_; rintro e w10 ⟨rfl, hb10⟩; go_wp2_with fail; go_ret; exact ⟨rfl, hw5.next hb10⟩)
      | true =>
        have hR : rightB a = true ∧ rightB b = true := by
          have := HM.out
          simpa using this.symm
        have hab := And.intro ((rightB_iff a).1 hR.1) ((rightB_iff b).1 hR.2)
        have hA : allRight [a, b] = true := by simp [allRight, hR.1, hR.2]
        have hnb : wrap64 (-b) = -b := by unfold wrap64; omega
        have ad2 := fun (w : World) => rAdd_any (w.alloc (.cells #[.int .i64 a, .int .i64 (-b)] 3)) _ [a, -b] (Is.lit2' rfl a (-b) _) (by intro n hn; simp at hn; rcases hn with rfl | rfl <;> omega) (by simp)
        have eS : sumI [a, -b] = a - b := by simp [sumI]; omega
        rw [eS] at ad2
        have mu := fun w => rMul_any w a b Ha.out Hb.out
        have hD : (lessE a b = 1 ∧ lessN a b = 0 ∧ wInt (a - b) = 0 ∧ rightB (a - b) = false) ∨ (lessE a b = 0 ∧ lessN a b = wInt (a - b) ∧ rightB (a - b) = true) := by
          rcases less_cases a b with ⟨_, _, c3⟩ | ⟨c1, c2, _, c4⟩ | ⟨c1, c2, _, c4⟩
          · rw [hA] at c3; cases c3
          · exact .inl ⟨c1, c2, by unfold wInt; rw [c4]; rfl, c4⟩
          · exact .inr ⟨c1, by rw [c2]; unfold wInt; rw [c4]; rfl, c4⟩
        have hP : (mulE a b = 1 ∧ mulN a b = 0 ∧ wInt (a * b) = 0 ∧ rightB (a * b) = false) ∨ (mulE a b = 0 ∧ mulN a b = wInt (a * b) ∧ rightB (a * b) = true) := by
          rcases mul_cases a b with ⟨_, _, c3⟩ | ⟨c1, c2, _, c4⟩ | ⟨c1, c2, _, c4⟩
          · rw [hA] at c3; cases c3
          · exact .inl ⟨c1, c2, by unfold wInt; rw [c4]; rfl, c4⟩
          · exact .inr ⟨c1, by rw [c2]; unfold wInt; rw [c4]; rfl, c4⟩
        generalize lessE a b = E1 at le hD
        generalize lessN a b = N1 at le hD
        generalize wInt (a - b) = A1 at ad2 hD
        generalize rightB (a - b) = B1 at ad2 hD
        generalize mulE a b = E2 at ti hP
        generalize mulN a b = N2 at ti hP
        generalize wInt (a * b) = A2 at mu hP
        generalize rightB (a * b) = B2 at mu hP
        have HD := Lib.hid hD
        have HPp := Lib.hid hP
        have HA := Lib.hid hA
        clear hD hP hA hR hab eS HM
        go_wp2_with fail
        refine (le _).mono ?_
        rintro e w3 ⟨rfl, hb3⟩
        have hw3 := hw2.next hb3
        clear hb3 le
        go_wp2_with fail
        refine (ad2 _).mono ?_
        rintro e w4 ⟨rfl, hb4⟩
        have hw4 := hw3.next hb4.un
        clear hb4 ad2
        go_upto_region 14 with fail
        go_cut [111] (fun s111 wx => s111 = .bool false ∧ wx = w4)
        case first =>
          have hD := HD.out
          rcases hD with ⟨rfl, rfl, rfl, rfl⟩ | ⟨rfl, hN, rfl⟩
          · go_wp2_with fail
            go_meet
            exact ⟨rfl, rfl⟩
          · subst hN
            go_wp2_with fail
            go_meet
            exact ⟨rfl, rfl⟩
        case rest =>
          obtain ⟨rfl, hwc⟩ := hcut
          subst hwc
          clear HD
          go_wp2_with fail
          refine (ti _).mono ?_
          rintro e w5 ⟨rfl, hb5⟩
          have hw5 := hw4.next hb5
          clear hb5 ti
          go_wp2_with fail
          refine (mu _).mono ?_
          rintro e w6 ⟨rfl, hb6⟩
          have hw6 := hw5.next hb6
          clear hb6 mu hw5
          go_upto_region 19 with fail
          go_cut [143] (fun s143 wx => s143 = .bool false ∧ wx = w6)
          case first =>
            have hP := HPp.out
            rcases hP with ⟨rfl, rfl, rfl, rfl⟩ | ⟨rfl, hN, rfl⟩
            · go_wp2_with fail
              go_meet
              exact ⟨rfl, rfl⟩
            · subst hN
              go_wp2_with fail
              go_meet
              exact ⟨rfl, rfl⟩
          case rest =>
            obtain ⟨rfl, hwc⟩ := hcut
            subst hwc
            clear HPp
            by_cases hb0 : b = 0
            · have q0 : quoE a b = 2 := by unfold quoE; rw [if_pos HA.out, if_pos hb0]
              have e3 : quoQ a b = 0 ∧ quoR a b = 0 ∧ quoE a b = 2 := ⟨by unfold quoQ; rw [q0]; rfl, by unfold quoR; rw [q0]; rfl, q0⟩
              rw [e3.1, e3.2.1, e3.2.2] at qu
              clear e3 q0
              subst hb0
              go_wp2_with fail
              refine (qu _).mono ?_
              rintro e w7 ⟨rfl, hb7⟩
              have hw5 := hw6.next hb7
              clear hb7 qu
              have pa := fun w => Part_any w a lo hi
              go_wp2_with fail
              refine (pa _).mono ?_
              rintro e w9 ⟨rfl, rfl⟩
              go_wp2_with fail
              all_goals
                first
                  | (exfalso; unfold partI at *; omega)
                  | (refine (wakes_any _).mono ?_; rintro e w10 ⟨rfl, hb10⟩; go_wp2_with fail; go_ret; exact ⟨rfl, hw5.next hb10⟩)
            · have e3 : quoQ a b = floorQ a b ∧ quoR a b = floorR a b ∧ quoE a b = 0 := by simp [quoQ, quoR, quoE, HA.out, hb0]
              rw [e3.1, e3.2.1, e3.2.2] at qu
              have fl := fun w => Floor_any w a b HA.out hb0
              generalize floorQ a b = q at *
              generalize floorR a b = r at *
              have hb0' : (b == 0) = false := by simp [hb0]
              clear e3
              go_wp2_with fail
              refine (qu _).mono ?_
              rintro e w7 ⟨rfl, hb7⟩
              have hw7 := hw6.next hb7
              clear hb7 qu
              go_wp2_with fail
              refine (fl _).mono ?_
              rintro e w8 ⟨rfl, hb8⟩
              have hw5 := hw7.next hb8
              clear hb8 fl
              have pa := fun w => Part_any w a lo hi
              go_wp2_with fail
              refine (pa _).mono ?_
              rintro e w9 ⟨rfl, rfl⟩
              go_wp2_with fail
              all_goals
                first
                  | (exfalso; unfold partI at *; omega)
                  | (refine (wakes_any _).mono ?_; rintro e w10 ⟨rfl, hb10⟩; go_wp2_with fail; go_ret; exact ⟨rfl, hw5.next hb10⟩)

end Cam
