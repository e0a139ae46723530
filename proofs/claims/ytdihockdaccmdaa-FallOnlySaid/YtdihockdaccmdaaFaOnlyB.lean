import Derived.Test.YtdihockdaccmdaaFaOnlyA
/- FallOnly: the change of the currency. -/
namespace Cam
open Go Go.RowKit Go.Proofs

set_option maxRecDepth 100000 in
set_option maxHeartbeats 1600000 in
theorem FallOnly_7 (w : World) (cur loss c0 c1 c2 c3 c4 at_ by_ : Int) (he : shareE cur loss [c0, c1, c2, c3, c4] = 0) (hby : ¬ by_ = 0) (hb64 : -9223372036854775808 ≤ by_ ∧ by_ ≤ 9223372036854775807) (hk : (IntKind.u64.wrap at_).tmod 8 = 7) :
    Calls Try.prog 4 #[.int .i64 cur, .int .i64 loss, .agg #[.int .i64 c0, .int .i64 c1, .int .i64 c2, .int .i64 c3, .int .i64 c4], .int .i64 at_, .int .i64 by_] w fun e w' => e = .returned (.bool true) ∧ Below w.heap.size w w' := by
  have sh := fun w v h => Share_ok w cur loss v [c0, c1, c2, c3, c4] h he
  have He := Lib.hid he
  have Hby := Lib.hid hby
  have Hb64 := Lib.hid hb64
  have hby' : (by_ == 0) = false := by simp [hby]
  clear he hby hb64
  go_enter Try.func4, Try.ntmps4
  go_wp2_with fail
  refine (sh _ _ (Is.lit5 rfl _ _ _ _ _ _)).mono ?_
  rintro e w1 ⟨q0, q1, q2, q3, q4, hq, rfl, hb⟩
  unfold fallV
  generalize hr : greedyR loss [c0, c1, c2, c3, c4] = r at *
  have Hr := Lib.hid hr
  have Hq := Lib.hid hq
  clear hq sh hr
  obtain ⟨y, hy⟩ : ∃ y, wrap64 (cur + by_) = y := ⟨_, rfl⟩
  have hf : fitsB y loss [q0, q1, q2, q3, q4] r [c0, c1, c2, c3, c4] = decide (0 ≤ y ∧ y < 3) := fits_cur He.out Hq.out Hr.out
  have fi := fun w' (h : Is w' (.slice (some ⟨w.heap.size, 0, none⟩) 5 5) [c0, c1, c2, c3, c4]) => Fits_any w' y loss q0 q1 q2 q3 q4 r _ _ h
  rw [hf] at fi
  clear hf
  go_wp2_with fail
  have hw0 : Below w.heap.size w ((w1.alloc (.cells #[.int .i64 cur, .int .i64 loss, .int .i64 q0, .int .i64 q1, .int .i64 q2, .int .i64 q3, .int .i64 q4, .int .i64 r] 24)).alloc (.cells #[.int .i64 y, .int .i64 loss, .int .i64 q0, .int .i64 q1, .int .i64 q2, .int .i64 q3, .int .i64 q4, .int .i64 r] 24)) := (hb.un.alloc hb.un.size _).alloc (Nat.le_trans hb.un.size (by simp)) _
  have hcf : FH w.heap.size (w1.heap.size + 1) ((w1.alloc (.cells #[.int .i64 cur, .int .i64 loss, .int .i64 q0, .int .i64 q1, .int .i64 q2, .int .i64 q3, .int .i64 q4, .int .i64 r] 24)).alloc (.cells #[.int .i64 y, .int .i64 loss, .int .i64 q0, .int .i64 q1, .int .i64 q2, .int .i64 q3, .int .i64 q4, .int .i64 r] 24)) y loss q0 q1 q2 q3 q4 r c0 c1 c2 c3 c4 := by
    have hs := hb.size
    refine ⟨by rw [heap_at, if_pos (by simp)], ?_⟩
    rw [heap_at, if_neg (by simp at hs ⊢; omega), heap_at, if_neg (by simp at hs; omega), hb.block _ (by simp)]
    exact heap_alloc_new _ _
  generalize ((w1.alloc (.cells #[.int .i64 cur, .int .i64 loss, .int .i64 q0, .int .i64 q1, .int .i64 q2, .int .i64 q3, .int .i64 q4, .int .i64 r] 24)).alloc (.cells #[.int .i64 y, .int .i64 loss, .int .i64 q0, .int .i64 q1, .int .i64 q2, .int .i64 q3, .int .i64 q4, .int .i64 r] 24)) = w4 at *
  generalize w1.heap.size + 1 = g at *
  clear hb
  have hc0 : w4.cell? ⟨g, 0, none⟩ = some (.int .i64 y) := hcf.g 0 _ rfl
  have hc1 : w4.cell? ⟨g, 1, none⟩ = some (.int .i64 loss) := hcf.g 1 _ rfl
  have hc2 : w4.cell? ⟨g, 2, none⟩ = some (.int .i64 q0) := hcf.g 2 _ rfl
  have hc3 : w4.cell? ⟨g, 3, none⟩ = some (.int .i64 q1) := hcf.g 3 _ rfl
  have hc4 : w4.cell? ⟨g, 4, none⟩ = some (.int .i64 q2) := hcf.g 4 _ rfl
  have hc5 : w4.cell? ⟨g, 5, none⟩ = some (.int .i64 q3) := hcf.g 5 _ rfl
  have hc6 : w4.cell? ⟨g, 6, none⟩ = some (.int .i64 q4) := hcf.g 6 _ rfl
  have hc7 : w4.cell? ⟨g, 7, none⟩ = some (.int .i64 r) := hcf.g 7 _ rfl
  have hcd : FH w.heap.size g w4.drew y loss q0 q1 q2 q3 q4 r c0 c1 c2 c3 c4 := hcf
  have hsz := hw0.size
  have keep := fun (w6 : World) (hb6 : Below w4.drew.heap.size w4.drew w6) => keepL (p := ⟨g, 0, none⟩) hb6 hc0
  by_cases hy0 : y < 0
  · have e1 : decide (0 ≤ y ∧ y < 3) = false := by simp; omega
    have e2 : decide (0 ≤ y) = false := by simp; omega
    rw [e1] at fi
    clear e1
    first
      | (go_region_with (first | (go_at_call 10; refine (fi _ hcd.is).mono ?_; rintro e w6 ⟨rfl, hb6⟩; have hk0 := keep _ hb6) | (go_at_call 9; refine (wakes_any _).mono ?_; rintro e w7 ⟨rfl, hb7⟩)))
      | fail
    all_goals
      go_wp2_with fail
      go_ret
      exact ⟨rfl, (hw0.drew.next hb6).next hb7⟩
  · by_cases hy3 : y < 3
    · have e1 : decide (0 ≤ y ∧ y < 3) = true := by simp; omega
      have e2 : 0 ≤ y := by omega
      rw [e1] at fi
      clear e1
      first
        | (go_region_with (first | (go_at_call 10; refine (fi _ hcd.is).mono ?_; rintro e w6 ⟨rfl, hb6⟩; have hk0 := keep _ hb6) | (go_at_call 9; refine (wakes_any _).mono ?_; rintro e w7 ⟨rfl, hb7⟩)))
        | fail
      all_goals
        go_wp2_with fail
        go_ret
        exact ⟨rfl, (hw0.drew.next hb6).next hb7⟩
    · have e1 : decide (0 ≤ y ∧ y < 3) = false := by simp; omega
      have e2 : 0 ≤ y := by omega
      have e3 : decide (y < 3) = false := by simp; omega
      rw [e1] at fi
      clear e1
      first
        | (go_region_with (first | (go_at_call 10; refine (fi _ hcd.is).mono ?_; rintro e w6 ⟨rfl, hb6⟩; have hk0 := keep _ hb6) | (go_at_call 9; refine (wakes_any _).mono ?_; rintro e w7 ⟨rfl, hb7⟩)))
        | fail
      all_goals
        go_wp2_with fail
        go_ret
        exact ⟨rfl, (hw0.drew.next hb6).next hb7⟩

set_option maxRecDepth 100000 in
set_option maxHeartbeats 1600000 in
theorem FallOnly_walk (w : World) (cur loss c0 c1 c2 c3 c4 at_ by_ : Int) (hb64 : -9223372036854775808 ≤ by_ ∧ by_ ≤ 9223372036854775807) :
    Calls Try.prog 4 #[.int .i64 cur, .int .i64 loss, .agg #[.int .i64 c0, .int .i64 c1, .int .i64 c2, .int .i64 c3, .int .i64 c4], .int .i64 at_, .int .i64 by_] w fun e w' => e = .returned (.bool true) ∧ Below w.heap.size w w' := by
  rcases shareE_cases cur loss [c0, c1, c2, c3, c4] with he | he
  · have sh := fun w v h => Share_no w cur loss v [c0, c1, c2, c3, c4] h he
    clear he
    go_enter Try.func4, Try.ntmps4
    go_wp2_with fail
    refine (sh _ _ (Is.lit5 rfl _ _ _ _ _ _)).mono ?_
    rintro e w1 ⟨rfl, hb⟩
    unfold fallV
    go_wp2_with fail
    refine (wakes_any _).mono ?_
    rintro e w2 ⟨rfl, hb2⟩
    go_wp2_with fail
    go_ret
    exact ⟨rfl, (hb.un.alloc hb.un.size _).next hb2⟩
  · by_cases hby : by_ = 0
    · have sh := fun w v h => Share_ok w cur loss v [c0, c1, c2, c3, c4] h he
      subst hby
      clear he
      go_enter Try.func4, Try.ntmps4
      go_wp2_with fail
      refine (sh _ _ (Is.lit5 rfl _ _ _ _ _ _)).mono ?_
      rintro e w1 ⟨q0, q1, q2, q3, q4, hq, rfl, hb⟩
      unfold fallV
      clear hq sh
      go_wp2_with fail
      refine (wakes_any _).mono ?_
      rintro e w2 ⟨rfl, hb2⟩
      go_wp2_with fail
      go_ret
      exact ⟨rfl, (hb.un.alloc hb.un.size _).next hb2⟩
    · have hk : (IntKind.u64.wrap at_).tmod 8 = 0 ∨ (IntKind.u64.wrap at_).tmod 8 = 1 ∨ (IntKind.u64.wrap at_).tmod 8 = 2 ∨ (IntKind.u64.wrap at_).tmod 8 = 3 ∨ (IntKind.u64.wrap at_).tmod 8 = 4 ∨ (IntKind.u64.wrap at_).tmod 8 = 5 ∨ (IntKind.u64.wrap at_).tmod 8 = 6 ∨ (IntKind.u64.wrap at_).tmod 8 = 7 := by
        rw [IntKind.wrap_u64, Int.tmod_eq_emod_of_nonneg (by omega)]
        omega
      rcases hk with hk | hk | hk | hk | hk | hk | hk | hk
      · exact FallOnly_0 w cur loss c0 c1 c2 c3 c4 at_ by_ he hby hb64 hk
      · exact FallOnly_1 w cur loss c0 c1 c2 c3 c4 at_ by_ he hby hb64 hk
      · exact FallOnly_2 w cur loss c0 c1 c2 c3 c4 at_ by_ he hby hb64 hk
      · exact FallOnly_3 w cur loss c0 c1 c2 c3 c4 at_ by_ he hby hb64 hk
      · exact FallOnly_4 w cur loss c0 c1 c2 c3 c4 at_ by_ he hby hb64 hk
      · exact FallOnly_5 w cur loss c0 c1 c2 c3 c4 at_ by_ he hby hb64 hk
      · exact FallOnly_6 w cur loss c0 c1 c2 c3 c4 at_ by_ he hby hb64 hk
      · exact FallOnly_7 w cur loss c0 c1 c2 c3 c4 at_ by_ he hby hb64 hk

end Cam
