import Derived.Test.YtgjiphgehohooaaWdZ
import Derived.Test.YtgjiphgehohooaaWdLaw2
import Derived.Deep.DeepCutAuto
/- WideBack, WideShares. -/
namespace Cam
open Go Go.RowKit Go.Proofs

theorem shares_sum (a b c : Int) (ha : 0 ≤ a) (hc : 1 ≤ c) (hb : 0 ≤ b ∧ b ≤ c) :
    0 ≤ a * b / c ∧ 0 ≤ a * (c - b) / c ∧ a * b / c + a * (c - b) / c ≤ a ∧ a - 1 ≤ a * b / c + a * (c - b) / c := by
  have hcp : 0 < c := by omega
  have n1 : 0 ≤ a * b := Int.mul_nonneg ha hb.1
  have n2 : 0 ≤ a * (c - b) := Int.mul_nonneg ha (by omega)
  have e1 := Int.mul_ediv_add_emod (a * b) c
  have e2 := Int.mul_ediv_add_emod (a * (c - b)) c
  have m1 := Int.emod_nonneg (a * b) (by omega : c ≠ 0)
  have m2 := Int.emod_nonneg (a * (c - b)) (by omega : c ≠ 0)
  have l1 := Int.emod_lt_of_pos (a * b) hcp
  have l2 := Int.emod_lt_of_pos (a * (c - b)) hcp
  have h1 : 0 ≤ a * b / c := Int.ediv_nonneg n1 (by omega)
  have h2 : 0 ≤ a * (c - b) / c := Int.ediv_nonneg n2 (by omega)
  have hs : a * b + a * (c - b) = c * a := by rw [← Int.mul_add, Int.mul_comm c a]; congr 1; omega
  generalize a * b / c = x at *
  generalize a * (c - b) / c = y at *
  refine ⟨h1, h2, ?_, ?_⟩
  · refine Int.le_of_mul_le_mul_left (a := c) ?_ hcp
    rw [Int.mul_add]
    omega
  · have h3 : a < x + y + 2 := by
      refine Int.lt_of_mul_lt_mul_left (a := c) ?_ (by omega)
      rw [Int.mul_add, Int.mul_add]
      omega
    omega

set_option maxRecDepth 100000 in
set_option maxHeartbeats 1600000 in
theorem WideShares_walk (w : World) (a b c : Int) (ha : -9223372036854775808 ≤ a ∧ a ≤ 9223372036854775807) (hb : -9223372036854775808 ≤ b ∧ b ≤ 9223372036854775807) (hc : -9223372036854775808 ≤ c ∧ c ≤ 9223372036854775807) :
    Calls Try.prog 3 #[.int .i64 a, .int .i64 b, .int .i64 c] w fun e w' => e = .returned (.bool true) ∧ Below w.heap.size w w' := by
  have Ha := Lib.hid ha
  have Hb := Lib.hid hb
  have Hc := Lib.hid hc
  clear ha hb hc
  go_enter Try.func3, Try.ntmps3
  go_upto_region 1 with fail
  obtain ⟨P, hP⟩ : ∃ P : Bool, P = (decide (a < 0) || decide (4611686018427387904 < a) || decide (c < 1) || decide (4611686018427387904 < c) || decide (b < 0) || decide (c < b)) := ⟨_, rfl⟩
  have HP := Lib.hid hP
  clear hP
  go_cut [33] (fun s33 wx => s33 = .bool P ∧ wx = w)
  case first =>
    go_wp2_with fail
    all_goals (go_meet; exact ⟨congrArg Value.bool (by first | (rw [HP.out]; simp; omega) | (rw [HP.out]; simp; done) | rw [HP.out]), rfl⟩)
  case rest =>
    obtain ⟨rfl, rfl⟩ := hcut
    cases P with
    | true =>
      go_wp2_with fail
      refine (wakes_any _).mono ?_
      rintro e w1 ⟨rfl, hb1⟩
      go_wp2_with fail
      go_ret
      exact ⟨rfl, hb1⟩
    | false =>
      have hx : (0 ≤ a ∧ a ≤ 4611686018427387904) ∧ (1 ≤ c ∧ c ≤ 4611686018427387904) ∧ 0 ≤ b ∧ b ≤ c := by
        have := HP.out
        simp at this
        omega
      have ss := shares_sum a b c hx.1.1 hx.2.1.1 hx.2.2
      have s1 := fun w => Share_any w a b c Ha.out Hb.out Hc.out
      have s2 := fun w => Share_any w a (c - b) c Ha.out (by omega) Hc.out
      have q1 : wQuoE (a * b) c = 0 ∧ wQuo (a * b) c = a * b / c := by
        have h : wQuoE (a * b) c = 0 := by
          unfold wQuoE
          rw [if_neg (by omega), if_pos (by rw [rightB_iff]; omega)]
        exact ⟨h, by unfold wQuo; rw [if_pos h]⟩
      have q2 : wQuoE (a * (c - b)) c = 0 ∧ wQuo (a * (c - b)) c = a * (c - b) / c := by
        have h : wQuoE (a * (c - b)) c = 0 := by
          unfold wQuoE
          rw [if_neg (by omega), if_pos (by rw [rightB_iff]; omega)]
        exact ⟨h, by unfold wQuo; rw [if_pos h]⟩
      rw [q1.1, q1.2] at s1
      rw [q2.1, q2.2] at s2
      clear q1 q2
      generalize a * b / c = x at *
      generalize a * (c - b) / c = y at *
      obtain ⟨x0, y0, t1, t2⟩ := ss
      go_wp2_with fail
      refine (s1 _).mono ?_
      rintro e w1 ⟨rfl, hb1⟩
      go_wp2_with fail
      refine (s2 _).mono ?_
      rintro e w2 ⟨rfl, hb2⟩
      go_wp2_with fail
      refine (wakes_any _).mono ?_
      rintro e w3 ⟨rfl, hb3⟩
      go_wp2_with fail
      go_ret
      exact ⟨rfl, (hb1.next hb2).next hb3⟩

theorem quo_parts (v n : Int) : (wQuoE v n = 2 ∧ wQuo v n = 0 ∧ wRem v n = 0) ∨ (wQuoE v n = 1 ∧ wQuo v n = 0 ∧ wRem v n = 0) ∨
    (wQuoE v n = 0 ∧ wQuo v n * n + wRem v n = v ∧ (0 ≤ wRem v n ∧ wRem v n < n) ∧ -4611686018427387904 ≤ wQuo v n ∧ wQuo v n ≤ 4611686018427387904) := by
  unfold wQuo wRem
  by_cases h0 : n ≤ 0
  · have h : wQuoE v n = 2 := by unfold wQuoE; rw [if_pos h0]
    rw [h]
    exact .inl ⟨rfl, rfl, rfl⟩
  · cases hr : rightB (v / n) with
    | true =>
      have h : wQuoE v n = 0 := by unfold wQuoE; rw [if_neg h0, hr]; rfl
      rw [h]
      have h3 := Int.ediv_mul_add_emod v n
      exact .inr (.inr ⟨rfl, h3, ⟨Int.emod_nonneg _ (by omega), Int.emod_lt_of_pos _ (by omega)⟩, (rightB_iff _).1 hr⟩)
    | false =>
      have h : wQuoE v n = 1 := by unfold wQuoE; rw [if_neg h0, hr]; rfl
      rw [h]
      exact .inr (.inl ⟨rfl, rfl, rfl⟩)

theorem keepL2 {W : World} {x : Value} {p : Addr} (o : Obj) (h : W.cell? p = some x) : (W.alloc o).cell? p = some x := keepL ((Below.refl _ _).alloc (Nat.le_refl _) o) h

set_option maxRecDepth 100000 in
set_option maxHeartbeats 1600000 in
theorem WideBack_walk (w : World) (hi lo v n : Int) (h : IsW hi lo v) (hn : -9223372036854775808 ≤ n ∧ n ≤ 9223372036854775807) :
    Calls Try.prog 8 #[.agg #[.int .i64 hi, .int .u64 lo], .int .i64 n] w fun e w' => e = .returned (.bool true) ∧ Below w.heap.size w w' := by
  have qr := fun w => Quo_run w hi lo v n h hn
  have qp := quo_parts v n
  generalize wQuo v n = q at *
  generalize wRem v n = r at *
  generalize wQuoE v n = E at *
  rcases qp with ⟨rfl, rfl, rfl⟩ | ⟨rfl, rfl, rfl⟩ | ⟨rfl, hv, hr, hq⟩
  · clear h hn
    go_enter Try.func8, Try.ntmps8
    go_wp2_with fail
    refine (qr _).mono ?_
    rintro e w1 ⟨rfl, hb1⟩
    go_wp2_with fail
    refine (wakes_any _).mono ?_
    rintro e w2 ⟨rfl, hb2⟩
    go_wp2_with fail
    go_ret
    exact ⟨rfl, hb1.un.next hb2⟩
  · clear h hn
    go_enter Try.func8, Try.ntmps8
    go_wp2_with fail
    refine (qr _).mono ?_
    rintro e w1 ⟨rfl, hb1⟩
    go_wp2_with fail
    refine (wakes_any _).mono ?_
    rintro e w2 ⟨rfl, hb2⟩
    go_wp2_with fail
    go_ret
    exact ⟨rfl, hb1.un.next hb2⟩
  · obtain ⟨p1, q1, h1, t1⟩ := times_form q n (by omega) hn
    obtain ⟨p2, q2, h2, e2⟩ := wideV_form (v := r) (by rw [isWide_iff]; omega)
    have of := fun w => Of_any w r (by omega)
    rw [e2] at of
    obtain ⟨m, k, h3, su⟩ := sum2_form _ _ p1 q1 p2 q2 h1 h2 (by rw [hv]; exact h.wide)
    rw [hv] at h3
    have e3 := (h.eq h3).1 rfl
    obtain ⟨rfl, rfl⟩ := e3
    have sm := fun w => same_run w _ _ hi lo hi lo h h
    rw [decide_eq_true (rfl : v = v)] at sm
    have Hh := Lib.hid h
    obtain ⟨r0, r1⟩ := hr
    clear h h1 h2 h3 e2 hv hq
    go_enter Try.func8, Try.ntmps8
    go_wp2_with fail
    have hw1 : Below w.heap.size w (w.alloc (.cells #[.int .i64 hi, .int .u64 lo] 29)) := (Below.refl _ _).alloc (Nat.le_refl _) _
    have hc0 : (w.alloc (.cells #[.int .i64 hi, .int .u64 lo] 29)).cell? ⟨w.heap.size, 0, none⟩ = some (.int .i64 hi) := by rw [World.cell?_alloc_new]; rfl
    have hc1 : (w.alloc (.cells #[.int .i64 hi, .int .u64 lo] 29)).cell? ⟨w.heap.size, 1, none⟩ = some (.int .u64 lo) := by rw [World.cell?_alloc_new]; rfl
    generalize w.alloc (.cells #[.int .i64 hi, .int .u64 lo] 29) = w1 at *
    refine (qr _).mono ?_
    rintro e w2 ⟨rfl, hb2⟩
    go_wp2_with fail
    refine (t1 _).mono ?_
    rintro e w3 ⟨rfl, hb3⟩
    go_wp2_with fail
    refine (of _).mono ?_
    rintro e w4 ⟨rfl, hb4⟩
    go_wp2_with fail
    refine (su _).mono ?_
    rintro e w5 ⟨rfl, hb5⟩
    have hw5 : Below w.heap.size w w5 := (((hw1.next hb2).next hb3).next hb4).next hb5
    have hd0 := keepL2 (.cells #[.int .i64 hi, .int .u64 lo] 29) (keepL hb5 (keepL hb4 (keepL hb3 (keepL hb2 hc0))))
    have hd1 := keepL2 (.cells #[.int .i64 hi, .int .u64 lo] 29) (keepL hb5 (keepL hb4 (keepL hb3 (keepL hb2 hc1))))
    have hf0 : (w5.alloc (.cells #[.int .i64 hi, .int .u64 lo] 29)).cell? ⟨w5.heap.size, 0, none⟩ = some (.int .i64 hi) := by rw [World.cell?_alloc_new]; rfl
    have hf1 : (w5.alloc (.cells #[.int .i64 hi, .int .u64 lo] 29)).cell? ⟨w5.heap.size, 1, none⟩ = some (.int .u64 lo) := by rw [World.cell?_alloc_new]; rfl
    clear hc0 hc1 hb2 hb3 hb4 hb5 su of t1 qr hw1
    go_wp2_with fail
    refine (sm _).mono ?_
    rintro e w6 ⟨rfl, hb6⟩
    go_wp2_with fail
    refine (wakes_any _).mono ?_
    rintro e w7 ⟨rfl, hb7⟩
    go_wp2_with fail
    go_ret
    exact ⟨rfl, ((hw5.alloc hw5.size _).next hb6).next hb7⟩

end Cam
