import Derived.Test.YtgjiphgehohooaaWdW
/- cambistref01: Less, Right, Int. -/
namespace Cam
open Go Go.RowKit Go.Proofs

/-- cambistref01.Less of any two -/
theorem rLess_run (w : World) (v u hi lo hi' lo' : Int) (h : IsW hi lo v) (h' : IsW hi' lo' u) :
    Calls Try.prog 18 #[.agg #[.int .i64 hi, .int .u64 lo], .agg #[.int .i64 hi', .int .u64 lo']] w fun e w' => e = .returned (.bool (decide (v < u))) ∧ Below w.heap.size w w' := by
  have H := Lib.hid (h.lt h')
  clear h h'
  by_cases h1 : hi < hi'
  · have h2 : Hid (decide (v < u) = true) := by show _ = _; simp; exact H.out.2 (.inl h1)
    go_enter Try.func18, Try.ntmps18
    go_wp2_with fail
    go_ret
    exact ⟨by rw [h2.out]; rfl, ((Below.refl _ _).alloc (Nat.le_refl _) _).alloc (by simp) _⟩
  · have h1' : decide (hi < hi') = false := by simp; omega
    by_cases h3 : hi = hi'
    · subst h3
      by_cases h4 : lo < lo'
      · have h2 : Hid (decide (v < u) = true) := by show _ = _; simp; exact H.out.2 (.inr ⟨rfl, h4⟩)
        go_enter Try.func18, Try.ntmps18
        go_wp2_with fail
        go_ret
        exact ⟨by rw [h2.out]; rfl, ((Below.refl _ _).alloc (Nat.le_refl _) _).alloc (by simp) _⟩
      · have h2 : Hid (decide (v < u) = false) := by show _ = _; rw [decide_eq_false_iff_not, H.out]; omega
        have h4' : decide (lo < lo') = false := by simp; omega
        go_enter Try.func18, Try.ntmps18
        go_wp2_with fail
        go_ret
        exact ⟨by rw [h2.out]; rfl, ((Below.refl _ _).alloc (Nat.le_refl _) _).alloc (by simp) _⟩
    · have h2 : Hid (decide (v < u) = false) := by show _ = _; rw [decide_eq_false_iff_not, H.out]; omega
      go_enter Try.func18, Try.ntmps18
      go_wp2_with fail
      go_ret
      exact ⟨by rw [h2.out]; rfl, ((Below.refl _ _).alloc (Nat.le_refl _) _).alloc (by simp) _⟩


theorem rRight_any (w : World) (n : Int) : Calls Try.prog 25 #[.int .i64 n] w fun e w' => e = .returned (.bool (rightB n)) ∧ w = w' := by
  by_cases h1 : n < -4611686018427387904
  · have H : Hid (rightB n = false) := by show _ = _; rw [Bool.eq_false_iff, Ne, rightB_iff]; omega
    have h1' : decide (-4611686018427387904 ≤ n) = false := by simp; omega
    go_enter Try.func25, Try.ntmps25
    go_wp2_with fail
    go_ret
    exact ⟨by rw [H.out]; rfl, rfl⟩
  · by_cases h2 : 4611686018427387904 < n
    · have H : Hid (rightB n = false) := by show _ = _; rw [Bool.eq_false_iff, Ne, rightB_iff]; omega
      have h2' : decide (n ≤ 4611686018427387904) = false := by simp; omega
      go_enter Try.func25, Try.ntmps25
      go_wp2_with fail
      go_ret
      exact ⟨by rw [H.out]; rfl, rfl⟩
    · have H : Hid (rightB n = true) := by show _ = _; rw [rightB_iff]; omega
      go_enter Try.func25, Try.ntmps25
      go_wp2_with fail
      go_ret
      exact ⟨by rw [H.out]; rfl, rfl⟩

set_option maxHeartbeats 1000000 in
/-- cambistref01.Int -/
theorem rInt_run (w : World) (v hi lo : Int) (h : IsW hi lo v) :
    Calls Try.prog 20 #[.agg #[.int .i64 hi, .int .u64 lo]] w fun e w' => e = .returned (.tuple #[.int .i64 (wInt v), .bool (rightB v)]) ∧ Below w.heap.size w w' := by
  obtain ⟨n, hn⟩ : ∃ n, wrap64 lo = n := ⟨_, rfl⟩
  have hb : -9223372036854775808 ≤ n ∧ n ≤ 9223372036854775807 := by rw [← hn]; unfold wrap64; omega
  have of := fun w => rOf_any w n hb
  obtain ⟨hi', lo', hw⟩ : ∃ hi' lo', IsW hi' lo' n := ⟨_, _, IsW.num' n hb⟩
  rw [hw.val] at of
  have hR : v ≠ n → rightB v = false := by
    intro hne
    rw [Bool.eq_false_iff, Ne, rightB_iff]
    intro hr
    apply hne
    unfold IsW at h
    unfold wrap64 at hn
    omega
  have HR := Lib.hid hR
  have HE := Lib.hid (h.eq hw)
  clear h hb hw hR
  by_cases h1 : hi = hi'
  · by_cases h2 : lo = lo'
    · subst h1
      subst h2
      have hv : v = n := HE.out.2 ⟨rfl, rfl⟩
      subst hv
      have rr := fun w => rRight_any w v
      cases hr : rightB v with
      | true =>
        rw [hr] at rr
        have H1 := Lib.hid hr
        clear hr
        go_enter Try.func20, Try.ntmps20
        go_wp2_with fail
        obtain ⟨w2, hw2⟩ : ∃ w2, w.alloc (.cells #[.int .i64 hi, .int .u64 lo] 29) = w2 := ⟨_, rfl⟩
        have hb2 : Below w.heap.size w w2 := by rw [← hw2]; exact (Below.refl _ _).alloc (Nat.le_refl _) _
        have hc0 : w2.cell? ⟨w.heap.size, 0, none⟩ = some (.int .i64 hi) := by rw [← hw2, World.cell?_alloc_new]; rfl
        have hc1 : w2.cell? ⟨w.heap.size, 1, none⟩ = some (.int .u64 lo) := by rw [← hw2, World.cell?_alloc_new]; rfl
        have hsz : w.heap.size ≤ w2.heap.size := hb2.size
        rw [hw2]

        clear hw2
        go_region_held3 (fun w' => w'.cell? ⟨w.heap.size, 0, none⟩ = some (.int .i64 hi) ∧ w'.cell? ⟨w.heap.size, 1, none⟩ = some (.int .u64 lo)) (first | go_keep | exact keep2 (by assumption) (by assumption))
          (first
            | (go_at_call 14; refine (of _).mono ?_; rintro e w1 ⟨rfl, hb1⟩)
            | (go_at_call 25; refine (rr _).mono ?_; rintro e w3 ⟨rfl, rfl⟩))
        go_wp2_with fail
        go_ret2
        exact ⟨by simp [wInt, H1.out], nextB hb2.drew hb1 hsz⟩
      | false =>
        rw [hr] at rr
        have H1 := Lib.hid hr
        clear hr
        go_enter Try.func20, Try.ntmps20
        go_wp2_with fail
        obtain ⟨w2, hw2⟩ : ∃ w2, w.alloc (.cells #[.int .i64 hi, .int .u64 lo] 29) = w2 := ⟨_, rfl⟩
        have hb2 : Below w.heap.size w w2 := by rw [← hw2]; exact (Below.refl _ _).alloc (Nat.le_refl _) _
        have hc0 : w2.cell? ⟨w.heap.size, 0, none⟩ = some (.int .i64 hi) := by rw [← hw2, World.cell?_alloc_new]; rfl
        have hc1 : w2.cell? ⟨w.heap.size, 1, none⟩ = some (.int .u64 lo) := by rw [← hw2, World.cell?_alloc_new]; rfl
        have hsz : w.heap.size ≤ w2.heap.size := hb2.size
        rw [hw2]

        clear hw2
        go_region_held3 (fun w' => w'.cell? ⟨w.heap.size, 0, none⟩ = some (.int .i64 hi) ∧ w'.cell? ⟨w.heap.size, 1, none⟩ = some (.int .u64 lo)) (first | go_keep | exact keep2 (by assumption) (by assumption))
          (first
            | (go_at_call 14; refine (of _).mono ?_; rintro e w1 ⟨rfl, hb1⟩)
            | (go_at_call 25; refine (rr _).mono ?_; rintro e w3 ⟨rfl, rfl⟩))
        go_wp2_with fail
        go_ret2
        exact ⟨by simp [wInt, H1.out], nextB hb2.drew hb1 hsz⟩
    · have H1 : Hid (rightB v = false) := by show _ = _; exact HR.out (fun e => h2 (HE.out.1 e).2)
      subst h1
      have hx : (lo == lo') = false := by simp [h2]
      go_enter Try.func20, Try.ntmps20
      go_wp2_with fail
      obtain ⟨w2, hw2⟩ : ∃ w2, w.alloc (.cells #[.int .i64 hi, .int .u64 lo] 29) = w2 := ⟨_, rfl⟩
      have hb2 : Below w.heap.size w w2 := by rw [← hw2]; exact (Below.refl _ _).alloc (Nat.le_refl _) _
      have hc0 : w2.cell? ⟨w.heap.size, 0, none⟩ = some (.int .i64 hi) := by rw [← hw2, World.cell?_alloc_new]; rfl
      have hc1 : w2.cell? ⟨w.heap.size, 1, none⟩ = some (.int .u64 lo) := by rw [← hw2, World.cell?_alloc_new]; rfl
      have hsz : w.heap.size ≤ w2.heap.size := hb2.size
      rw [hw2]

      clear hw2
      first
        | (go_region_with (go_at_call 14; refine (of _).mono ?_; rintro e w1 ⟨rfl, hb1⟩; have hk0 := keepL hb1 hc0; have hk1 := keepL hb1 hc1))
        | fail
      all_goals
        go_wp2_with fail
        go_ret2
        exact ⟨by simp [wInt, H1.out], nextB hb2.drew hb1 hsz⟩
  · have H1 : Hid (rightB v = false) := by show _ = _; exact HR.out (fun e => h1 (HE.out.1 e).1)
    have hx : (hi == hi') = false := by simp [h1]
    go_enter Try.func20, Try.ntmps20
    go_wp2_with fail
    obtain ⟨w2, hw2⟩ : ∃ w2, w.alloc (.cells #[.int .i64 hi, .int .u64 lo] 29) = w2 := ⟨_, rfl⟩
    have hb2 : Below w.heap.size w w2 := by rw [← hw2]; exact (Below.refl _ _).alloc (Nat.le_refl _) _
    have hc0 : w2.cell? ⟨w.heap.size, 0, none⟩ = some (.int .i64 hi) := by rw [← hw2, World.cell?_alloc_new]; rfl
    have hc1 : w2.cell? ⟨w.heap.size, 1, none⟩ = some (.int .u64 lo) := by rw [← hw2, World.cell?_alloc_new]; rfl
    have hsz : w.heap.size ≤ w2.heap.size := hb2.size
    rw [hw2]

    clear hw2
    first
      | (go_region_with (go_at_call 14; refine (of _).mono ?_; rintro e w1 ⟨rfl, hb1⟩; have hk0 := keepL hb1 hc0; have hk1 := keepL hb1 hc1))
      | fail
    all_goals
      go_wp2_with fail
      go_ret2
      exact ⟨by simp [wInt, H1.out], nextB hb2.drew hb1 hsz⟩


end Cam
