import Derived.Test.YteabnccmomdnpaaClH
/- call.wrong. -/
namespace Cam
open Go Go.RowKit Go.Proofs

theorem keepK3 {w W w1 : World} {p0 p1 p2 : Addr} {x0 x1 x2 : Value} (hb : Below W.heap.size W w1)
    (h : W.cell? p0 = some x0 ∧ W.cell? p1 = some x1 ∧ W.cell? p2 = some x2 ∧ Below w.heap.size w W) :
    w1.cell? p0 = some x0 ∧ w1.cell? p1 = some x1 ∧ w1.cell? p2 = some x2 ∧ Below w.heap.size w w1 := by
  have c : ∀ {p : Addr} {x : Value}, W.cell? p = some x → w1.cell? p = some x := fun h => (hb.cell (World.block_lt_of_cell? W _ h)).trans h
  obtain ⟨h0, h1, h2, h4⟩ := h
  exact ⟨c h0, c h1, c h2, h4.next hb⟩
/-- right to ask for -/
def argB (who cur amt at0 : Int) : Bool := rightC who cur && rightB amt && decide (0 ≤ amt) && decide (0 ≤ at0) && decide (at0 ≤ 1099511627776)
def wrongE (l : List CT) (who cur amt at0 : Int) : Int := if chkE l = 0 then (if argB who cur amt at0 = true then 0 else 3) else chkE l

set_option maxRecDepth 100000 in
set_option maxHeartbeats 3200000 in
theorem wrong_any (w : World) (v : Value) (l : List CT) (who cur amt at0 : Int) (h : Cs w v l) (hl : l.length ≤ 100000) :
    Calls Try.prog 26 #[v, .agg #[.int .i64 who, .int .i64 cur, .int .i64 amt], .int .i64 at0] w fun e w' => e = .returned (.int .i64 (wrongE l who cur amt at0)) ∧ Below w.heap.size w w' := by
  have hbW := (Below.refl w.heap.size w).alloc (Nat.le_refl _) (.cells #[.int .i64 who, .int .i64 cur, .int .i64 amt] 26)
  have hn0 := heap_alloc_new w (.cells #[.int .i64 who, .int .i64 cur, .int .i64 amt] 26)
  have hcl : ∀ j u, #[Value.int .i64 who, .int .i64 cur, .int .i64 amt][j]? = some u → (w.alloc (.cells #[.int .i64 who, .int .i64 cur, .int .i64 amt] 26)).cell? ⟨w.heap.size, j, none⟩ = some u := by
    intro j u hu
    unfold World.cell?
    rw [hn0]
    exact hu
  have hS3 : (w.alloc (.cells #[.int .i64 who, .int .i64 cur, .int .i64 amt] 26)).cell? ⟨w.heap.size, 0, none⟩ = some (.int .i64 who) ∧ (w.alloc (.cells #[.int .i64 who, .int .i64 cur, .int .i64 amt] 26)).cell? ⟨w.heap.size, 1, none⟩ = some (.int .i64 cur) ∧ (w.alloc (.cells #[.int .i64 who, .int .i64 cur, .int .i64 amt] 26)).cell? ⟨w.heap.size, 2, none⟩ = some (.int .i64 amt) ∧ Below w.heap.size w (w.alloc (.cells #[.int .i64 who, .int .i64 cur, .int .i64 amt] 26)) := ⟨hcl 0 _ rfl, hcl 1 _ rfl, hcl 2 _ rfl, hbW⟩
  have HS3 := Lib.hid hS3
  have ck := fun w h => Check_any w v l h hl
  have hv := h.mono hbW
  obtain ⟨E, hE⟩ : ∃ E, E = chkE l := ⟨_, rfl⟩
  rw [← hE] at ck
  obtain ⟨V, hV⟩ : ∃ V, V = wrongE l who cur amt at0 := ⟨_, rfl⟩
  have HV0 : Hid (V = if E = 0 then (if argB who cur amt at0 = true then 0 else 3) else E) := by show _ = _; rw [hV, hE]; rfl
  rw [← hV]
  obtain ⟨av, cap, rfl, hcap, hm⟩ := h.shape
  clear hE hV hcl hn0 hbW hS3 h hcap hm
  go_enter Try.func26, Try.ntmps26
  go_wp2_with fail
  refine (ck _ hv).mono ?_
  clear ck
  rintro e W ⟨rfl, hbk⟩
  have hSW := keepK3 hbk HS3.out
  clear hbk HS3 hv
  by_cases h0 : E = 0
  · rw [if_pos h0] at HV0
    subst h0
    go_wp2_with fail
    have hlit : Is (W.alloc (.cells #[.int .i64 amt] 3)) (.slice (some ⟨W.heap.size, 0, none⟩) 1 1) [amt] := Is.lit1 _ amt 3
    have rg := fun w => rightC_any w who cur
    have nr := fun w h => Right_any w (.slice (some ⟨W.heap.size, 0, none⟩) 1 1) [amt] h
    rw [show allRight [amt] = rightB amt by simp [allRight]] at nr
    have HA : Hid (argB who cur amt at0 = (rightC who cur && rightB amt && decide (0 ≤ amt) && decide (0 ≤ at0) && decide (at0 ≤ 1099511627776))) := rfl
    cases hr : rightC who cur with
    | false =>
      have HV := Lib.hid (HV0.out.trans (if_neg (by rw [HA.out, hr]; simp)))
      rw [hr] at rg
      clear hr HV0 HA
      obtain ⟨c0, c1, c2, hbe⟩ := hSW
      refine (rg _).mono ?_
      clear rg
      rintro e w1 ⟨rfl, rfl⟩
      go_wp2_with fail
      go_ret
      exact ⟨by rw [HV.out]; rfl, hbe⟩
    | true =>
      have Hr := Lib.hid hr
      rw [hr] at rg
      clear hr
      cases hr : rightB amt with
      | false =>
        have HV := Lib.hid (HV0.out.trans (if_neg (by rw [HA.out, hr]; simp)))
        rw [hr] at nr
        clear hr HV0 HA Hr
        obtain ⟨c0, c1, c2, hbe⟩ := hSW
        refine (rg _).mono ?_
        clear rg
        rintro e w1 ⟨rfl, rfl⟩
        go_wp2_with fail
        refine (nr _ hlit).mono ?_
        clear nr hlit
        rintro e w1 ⟨rfl, rfl⟩
        have hb2 := (hbe.alloc hbe.size (.cells #[.int .i64 amt] 3))
        have c2b := (((Below.refl _ W).alloc (Nat.le_refl _) (.cells #[.int .i64 amt] 3)).cell (World.block_lt_of_cell? W _ c2)).trans c2
        go_wp2_with fail
        go_ret
        exact ⟨by rw [HV.out]; rfl, hb2⟩
      | true =>
        have Hr2 := Lib.hid hr
        rw [hr] at nr
        clear hr
        by_cases h1 : amt < 0
        · have HV := Lib.hid (HV0.out.trans (if_neg (by rw [HA.out, decide_eq_false (show ¬ 0 ≤ amt by omega)]; simp)))
          clear HV0 HA Hr Hr2
          obtain ⟨c0, c1, c2, hbe⟩ := hSW
          refine (rg _).mono ?_
          clear rg
          rintro e w1 ⟨rfl, rfl⟩
          go_wp2_with fail
          refine (nr _ hlit).mono ?_
          clear nr hlit
          rintro e w1 ⟨rfl, rfl⟩
          have hb2 := (hbe.alloc hbe.size (.cells #[.int .i64 amt] 3))
          have c2b := (((Below.refl _ W).alloc (Nat.le_refl _) (.cells #[.int .i64 amt] 3)).cell (World.block_lt_of_cell? W _ c2)).trans c2
          go_wp2_with fail
          go_ret
          exact ⟨by rw [HV.out]; rfl, hb2⟩
        · have h1' : decide (amt < 0) = false := by simpa using h1
          by_cases h2 : at0 < 0
          · have HV := Lib.hid (HV0.out.trans (if_neg (by rw [HA.out, decide_eq_false (show ¬ 0 ≤ at0 by omega)]; simp)))
            clear HV0 HA Hr Hr2 h1
            obtain ⟨c0, c1, c2, hbe⟩ := hSW
            refine (rg _).mono ?_
            clear rg
            rintro e w1 ⟨rfl, rfl⟩
            go_wp2_with fail
            refine (nr _ hlit).mono ?_
            clear nr hlit
            rintro e w1 ⟨rfl, rfl⟩
            have hb2 := (hbe.alloc hbe.size (.cells #[.int .i64 amt] 3))
            have c2b := (((Below.refl _ W).alloc (Nat.le_refl _) (.cells #[.int .i64 amt] 3)).cell (World.block_lt_of_cell? W _ c2)).trans c2
            go_wp2_with fail
            go_ret
            exact ⟨by rw [HV.out]; rfl, hb2⟩
          · have h2' : decide (at0 < 0) = false := by simpa using h2
            by_cases h3 : 1099511627776 < at0
            · have HV := Lib.hid (HV0.out.trans (if_neg (by rw [HA.out, decide_eq_false (show ¬ at0 ≤ 1099511627776 by omega)]; simp)))
              clear HV0 HA Hr Hr2 h1 h2
              obtain ⟨c0, c1, c2, hbe⟩ := hSW
              refine (rg _).mono ?_
              clear rg
              rintro e w1 ⟨rfl, rfl⟩
              go_wp2_with fail
              refine (nr _ hlit).mono ?_
              clear nr hlit
              rintro e w1 ⟨rfl, rfl⟩
              have hb2 := (hbe.alloc hbe.size (.cells #[.int .i64 amt] 3))
              have c2b := (((Below.refl _ W).alloc (Nat.le_refl _) (.cells #[.int .i64 amt] 3)).cell (World.block_lt_of_cell? W _ c2)).trans c2
              go_wp2_with fail
              go_ret
              exact ⟨by rw [HV.out]; rfl, hb2⟩
            · have h3' : decide (1099511627776 < at0) = false := by simpa using h3
              have HV := Lib.hid (HV0.out.trans (if_pos (by rw [HA.out, Hr.out, Hr2.out, decide_eq_true (show 0 ≤ amt by omega), decide_eq_true (show 0 ≤ at0 by omega), decide_eq_true (show at0 ≤ 1099511627776 by omega)]; rfl)))
              clear HV0 HA Hr Hr2 h1 h2 h3
              obtain ⟨c0, c1, c2, hbe⟩ := hSW
              refine (rg _).mono ?_
              clear rg
              rintro e w1 ⟨rfl, rfl⟩
              go_wp2_with fail
              refine (nr _ hlit).mono ?_
              clear nr hlit
              rintro e w1 ⟨rfl, rfl⟩
              have hb2 := (hbe.alloc hbe.size (.cells #[.int .i64 amt] 3))
              have c2b := (((Below.refl _ W).alloc (Nat.le_refl _) (.cells #[.int .i64 amt] 3)).cell (World.block_lt_of_cell? W _ c2)).trans c2
              go_wp2_with fail
              go_ret
              exact ⟨by rw [HV.out]; rfl, hb2⟩
  · rw [if_neg h0] at HV0
    go_wp2_with fail
    go_ret
    exact ⟨by rw [HV0.out]; rfl, hSW.2.2.2⟩

end Cam
