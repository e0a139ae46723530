import Derived.Test.YtibahadebogmpaaNumLaw1
import Derived.Deep.DeepCutAuto
/- the laws of num: NumOrder. -/
namespace Cam
open Go Go.RowKit Go.Proofs

theorem order_sum (a b c : Int) (h1 : sumE [a, c] = 0) (h2 : sumE [b, c] = 0) : decide (sumN [a, c] < sumN [b, c]) = decide (a < b) := by
  rcases sum_cases [a, c] with ⟨a1, _⟩ | ⟨a1, _⟩ | ⟨_, a2, _⟩
  · rw [h1] at a1; cases a1
  · rw [h1] at a1; cases a1
  rcases sum_cases [b, c] with ⟨b1, _⟩ | ⟨b1, _⟩ | ⟨_, b2, _⟩
  · rw [h2] at b1; cases b1
  · rw [h2] at b1; cases b1
  rw [a2, b2]
  simp [sumI]

theorem order_mul (a b c : Int) (h1 : mulE a c = 0) (h2 : mulE b c = 0) (hc : 0 < c) : decide (mulN a c < mulN b c) = decide (a < b) := by
  rcases mul_cases a c with ⟨a1, _⟩ | ⟨a1, _⟩ | ⟨_, a2, _⟩
  · rw [h1] at a1; cases a1
  · rw [h1] at a1; cases a1
  rcases mul_cases b c with ⟨b1, _⟩ | ⟨b1, _⟩ | ⟨_, b2, _⟩
  · rw [h2] at b1; cases b1
  · rw [h2] at b1; cases b1
  rw [a2, b2]
  exact decide_eq_decide.2 (Int.mul_lt_mul_right hc)

theorem errs (x : Int) (h : x = 3 ∨ x = 1 ∨ x = 0) : x = 0 ∨ (x == 0) = false := by
  rcases h with h | h | h <;> subst h <;> simp

theorem sumE_errs (l : List Int) : sumE l = 0 ∨ (sumE l == 0) = false := errs _ (by rcases sum_cases l with ⟨h, _⟩ | ⟨h, _⟩ | ⟨h, _⟩ <;> simp [h])
theorem mulE_errs (a b : Int) : mulE a b = 0 ∨ (mulE a b == 0) = false := errs _ (by rcases mul_cases a b with ⟨h, _⟩ | ⟨h, _⟩ | ⟨h, _⟩ <;> simp [h])

set_option maxRecDepth 100000 in
set_option maxHeartbeats 3200000 in
theorem NumOrder_walk (w : World) (a b c lo hi : Int) (ha : -9223372036854775808 ≤ a ∧ a ≤ 9223372036854775807) (hb : -9223372036854775808 ≤ b ∧ b ≤ 9223372036854775807) (hc : -9223372036854775808 ≤ c ∧ c ≤ 9223372036854775807) :
    Calls Try.prog 4 #[.int .i64 a, .int .i64 b, .int .i64 c, .int .i64 lo, .int .i64 hi] w fun e w' => e = .returned (.bool true) ∧ Below w.heap.size w w' := by
  have ta := fun w => Times_any w a c ha hc
  have tb := fun w => Times_any w b c hb hc
  clear ha hb hc
  go_enter Try.func4, Try.ntmps4
  go_wp2_with fail
  refine (Sum_any _ _ [a, c] (Is.lit2' rfl _ _ _)).mono ?_
  rintro e w1 ⟨rfl, hb1⟩
  obtain ⟨x1, hx1⟩ : ∃ x, x = sumN [a, c] := ⟨_, rfl⟩
  obtain ⟨e1, he1⟩ : ∃ x, x = sumE [a, c] := ⟨_, rfl⟩
  rw [← hx1, ← he1]
  have Hx1 := Lib.hid hx1
  have He1 := Lib.hid he1
  clear hx1 he1
  go_wp2_with fail
  refine (Sum_any _ _ [b, c] (Is.lit2' rfl _ _ _)).mono ?_
  rintro e w2 ⟨rfl, hb2⟩
  obtain ⟨x2, hx2⟩ : ∃ x, x = sumN [b, c] := ⟨_, rfl⟩
  obtain ⟨e2, he2⟩ : ∃ x, x = sumE [b, c] := ⟨_, rfl⟩
  rw [← hx2, ← he2]
  have Hx2 := Lib.hid hx2
  have He2 := Lib.hid he2
  clear hx2 he2
  have hb3 : Below w.heap.size w w2 := hb1.un.next hb2.un
  clear hb1 hb2
  go_upto_region 3 with fail
  go_cut [44] (fun s44 wx => s44 = .bool false ∧ Below w.heap.size w wx)
  case first =>
    rcases sumE_errs [a, c] with h1 | h1
    · rcases sumE_errs [b, c] with h2 | h2
      · have h3 := order_sum a b c h1 h2
        rw [← Hx1.out, ← Hx2.out] at h3
        have e3 : e1 = 0 := by rw [He1.out, h1]
        have e4 : e2 = 0 := by rw [He2.out, h2]
        have h4 : (decide (a < b) != decide (x1 < x2)) = false := by rw [h3]; simp
        subst e3
        subst e4
        clear h1 h2 h3
        go_wp2_with fail
        all_goals (go_meet; exact ⟨by first | rfl | exact congrArg Value.bool h4, hb3⟩)
      · have e3 : e1 = 0 := by rw [He1.out, h1]
        rw [← He2.out] at h2
        subst e3
        clear h1
        go_wp2_with fail
        go_meet
        exact ⟨rfl, hb3⟩
    · rw [← He1.out] at h1
      go_wp2_with fail
      go_meet
      exact ⟨rfl, hb3⟩
  case rest =>
    obtain ⟨rfl, hb4⟩ := hcut
    clear hb3
    go_wp2_with fail
    refine (ta _).mono ?_
    rintro e w3 ⟨rfl, hb5⟩
    obtain ⟨y1, hy1⟩ : ∃ x, x = mulN a c := ⟨_, rfl⟩
    obtain ⟨f1, hf1⟩ : ∃ x, x = mulE a c := ⟨_, rfl⟩
    rw [← hy1, ← hf1]
    have Hy1 := Lib.hid hy1
    have Hf1 := Lib.hid hf1
    clear hy1 hf1
    go_wp2_with fail
    refine (tb _).mono ?_
    rintro e w4 ⟨rfl, hb6⟩
    obtain ⟨y2, hy2⟩ : ∃ x, x = mulN b c := ⟨_, rfl⟩
    obtain ⟨f2, hf2⟩ : ∃ x, x = mulE b c := ⟨_, rfl⟩
    rw [← hy2, ← hf2]
    have Hy2 := Lib.hid hy2
    have Hf2 := Lib.hid hf2
    clear hy2 hf2
    have hb7 : Below w.heap.size w w4 := (hb4.next hb5).next hb6
    clear hb4 hb5 hb6 ta tb
    go_upto_region 7 with fail
    go_cut [75] (fun s75 wx => s75 = .bool false ∧ Below w.heap.size w wx)
    case first =>
      rcases mulE_errs a c with h1 | h1
      · rcases mulE_errs b c with h2 | h2
        · have e3 : f1 = 0 := by rw [Hf1.out, h1]
          have e4 : f2 = 0 := by rw [Hf2.out, h2]
          by_cases hc : 0 < c
          · have h3 := order_mul a b c h1 h2 hc
            rw [← Hy1.out, ← Hy2.out] at h3
            have h4 : (decide (a < b) != decide (y1 < y2)) = false := by rw [h3]; simp
            subst e3
            subst e4
            clear h1 h2 h3
            go_wp2_with fail
            all_goals (go_meet; exact ⟨by first | rfl | exact congrArg Value.bool h4, hb7⟩)
          · have hc' : decide (0 < c) = false := by simp; omega
            subst e3
            subst e4
            clear h1 h2
            go_wp2_with fail
            go_meet
            exact ⟨rfl, hb7⟩
        · have e3 : f1 = 0 := by rw [Hf1.out, h1]
          rw [← Hf2.out] at h2
          subst e3
          clear h1
          go_wp2_with fail
          go_meet
          exact ⟨rfl, hb7⟩
      · rw [← Hf1.out] at h1
        go_wp2_with fail
        go_meet
        exact ⟨rfl, hb7⟩
    case rest =>
      obtain ⟨rfl, hb8⟩ := hcut
      clear hb7
      go_wp2_with fail
      refine (Part_any _ _ _ _).mono ?_
      rintro e w5 ⟨rfl, rfl⟩
      have hp : (lo ≤ hi → ¬ partI a lo hi < lo ∧ ¬ hi < partI a lo hi ∧ (lo ≤ a ∧ a ≤ hi → partI a lo hi = a)) := by unfold partI; omega
      have hpp : partI (partI a lo hi) lo hi = partI a lo hi := by unfold partI; omega
      generalize partI a lo hi = p at *
      have Hp := Lib.hid hp
      have Hpp := Lib.hid hpp
      clear hp hpp
      go_upto_region 10 with fail
      go_cut [107] (fun s107 wx => s107 = .bool false ∧ Below w.heap.size w wx)
      case first =>
        by_cases hl : lo ≤ hi
        · obtain ⟨h1, h2, h3⟩ := Hp.out hl
          have h1' : decide (p < lo) = false := by simp; omega
          have h2' : decide (hi < p) = false := by simp; omega
          by_cases h4 : lo ≤ a
          · by_cases h5 : a ≤ hi
            · have h6 := h3 ⟨h4, h5⟩
              subst h6
              clear h3
              go_wp2_with fail
              all_goals (go_meet; exact ⟨by first | rfl | simp, hb8⟩)
            · have h5' : decide (a ≤ hi) = false := by simp; omega
              clear h3
              go_wp2_with fail
              go_meet
              exact ⟨rfl, hb8⟩
          · have h5' : decide (lo ≤ a) = false := by simp; omega
            clear h3
            go_wp2_with fail
            go_meet
            exact ⟨rfl, hb8⟩
        · have hl' : decide (lo ≤ hi) = false := by simp; omega
          go_wp2_with fail
          go_meet
          exact ⟨rfl, hb8⟩
      case rest =>
        obtain ⟨rfl, hb9⟩ := hcut
        go_wp2_with fail
        refine (Part_any _ _ _ _).mono ?_
        rintro e w6 ⟨rfl, rfl⟩
        rw [Hpp.out]
        go_wp2_with fail
        refine (wakes_any _).mono ?_
        rintro e w7 ⟨rfl, hb10⟩
        go_wp2_with fail
        go_ret
        exact ⟨rfl, hb9.next hb10⟩

end Cam
