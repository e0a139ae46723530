import Derived.Test.YtdihockdaccmdaaFaH
import Derived.StillTailTactics
import Derived.Deep.RegionHeld3
import Derived.Deep.RegionWith
/- FallOnly: each place of the change. -/
namespace Cam
open Go Go.RowKit Go.Proofs

theorem keepL {W w1 : World} {x : Value} {p : Addr} (hb : Below W.heap.size W w1) (h : W.cell? p = some x) : w1.cell? p = some x := (hb.cell (World.block_lt_of_cell? W _ h)).trans h

theorem fits_no_p {cur loss r : Int} {p l : List Int} (h : p ≠ greedyP loss l) : fitsB cur loss p r l = false := by simp [fitsB, h]
theorem fits_no_r {cur loss r : Int} {p l : List Int} (h : r ≠ greedyR loss l) : fitsB cur loss p r l = false := by simp [fitsB, h]
theorem fits_no_loss {cur loss loss' r : Int} {p l : List Int} (hp : greedyP loss l = p) (hr : greedyR loss l = r) (h : loss' ≠ loss) : fitsB cur loss' p r l = false := by
  unfold fitsB
  rw [decide_eq_false_iff_not]
  rintro ⟨_, h2, h3⟩
  have h4 := greedy_sum loss l
  have h5 := greedy_sum loss' l
  rw [hp, hr] at h4
  rw [← h2, ← h3] at h5
  omega
theorem fits_cur {cur cur' loss r : Int} {p l : List Int} (he : shareE cur loss l = 0) (hp : greedyP loss l = p) (hr : greedyR loss l = r) : fitsB cur' loss p r l = decide (0 ≤ cur' ∧ cur' < 3) := by
  have h := shareE_zero _ _ _ he
  unfold fitsB shareE
  by_cases hc : 0 ≤ cur' ∧ cur' < 3
  · simp [hc, h.2.1, h.2.2, hp, hr]
  · simp [hc]
theorem wrap_ne (q y : Int) (hy : -9223372036854775808 ≤ y ∧ y ≤ 9223372036854775807) (h : ¬ y = 0) : wrap64 (q + y) ≠ q := by
  unfold wrap64
  omega
theorem share_bounds {cur loss : Int} {l : List Int} (he : shareE cur loss l = 0) : (0 ≤ cur ∧ cur < 3) ∧ (0 ≤ loss ∧ loss ≤ 4611686018427387904) ∧ (0 ≤ greedyR loss l ∧ greedyR loss l ≤ 4611686018427387904) ∧ ∀ k, k < l.length → 0 ≤ (greedyP loss l).getD k 0 ∧ (greedyP loss l).getD k 0 ≤ 4611686018427387904 := by
  have h := shareE_zero _ _ _ he
  have hb := rightE_zero _ _ h.2.2
  have hr := greedyR_bounds loss l hb.1.1 hb.2.1
  refine ⟨h.1, hb.1, by omega, fun k hk => ?_⟩
  rw [greedyP_getD _ _ _ hk]
  have h1 := greedyR_bounds loss (l.take k) hb.1.1 (fun n hn => hb.2.1 n (List.mem_of_mem_take hn))
  have h2 := hb.2.1 (l.getD k 0) (by rw [List.getD_eq_getElem?_getD, List.getElem?_eq_getElem hk]; exact List.getElem_mem _)
  omega

set_option maxRecDepth 100000 in
set_option maxHeartbeats 1600000 in
theorem FallOnly_0 (w : World) (cur loss c0 c1 c2 c3 c4 at_ by_ : Int) (he : shareE cur loss [c0, c1, c2, c3, c4] = 0) (hby : ¬ by_ = 0) (hb64 : -9223372036854775808 ≤ by_ ∧ by_ ≤ 9223372036854775807) (hk : (IntKind.u64.wrap at_).tmod 8 = 0) :
    Calls Try.prog 4 #[.int .i64 cur, .int .i64 loss, .agg #[.int .i64 c0, .int .i64 c1, .int .i64 c2, .int .i64 c3, .int .i64 c4], .int .i64 at_, .int .i64 by_] w fun e w' => e = .returned (.bool true) ∧ Below w.heap.size w w' := by
  have sh := fun w v h => Share_ok w cur loss v [c0, c1, c2, c3, c4] h he
  have He := Lib.hid he
  have Hby := Lib.hid hby
  have Hb64 := Lib.hid hb64
  have hby' : (by_ == 0) = false := by simp [hby]
  clear he hby hb64
  go_enter Try.func4, Try.ntmps4
  go_wp2_with fail
  refine (sh _ _ (Is.lit5 rfl _ _ _ _ _ _)).mono ?_
  rintro e w1 ⟨q0, q1, q2, q3, q4, hq, rfl, hb⟩
  unfold fallV
  generalize hr : greedyR loss [c0, c1, c2, c3, c4] = r at *
  have Hr := Lib.hid hr
  have Hq := Lib.hid hq
  clear hq sh hr
  obtain ⟨y, hy⟩ : ∃ y, wrap64 (q0 + by_) = y := ⟨_, rfl⟩
  have hne : y ≠ q0 := by
    rw [← hy]
    exact wrap_ne _ _ Hb64.out Hby.out
  have hf : fitsB cur loss [y, q1, q2, q3, q4] r [c0, c1, c2, c3, c4] = false := fits_no_p (by rw [Hq.out]; simp [hne])
  have fi := fun w' (h : Is w' (.slice (some ⟨w.heap.size, 0, none⟩) 5 5) [c0, c1, c2, c3, c4]) => Fits_any w' cur loss y q1 q2 q3 q4 r _ _ h
  rw [hf] at fi
  clear hf hne
  go_wp2_with fail
  have hw0 : Below w.heap.size w ((w1.alloc (.cells #[.int .i64 cur, .int .i64 loss, .int .i64 q0, .int .i64 q1, .int .i64 q2, .int .i64 q3, .int .i64 q4, .int .i64 r] 24)).alloc (.cells #[.int .i64 cur, .int .i64 loss, .int .i64 y, .int .i64 q1, .int .i64 q2, .int .i64 q3, .int .i64 q4, .int .i64 r] 24)) := (hb.un.alloc hb.un.size _).alloc (Nat.le_trans hb.un.size (by simp)) _
  have hcf : FH w.heap.size (w1.heap.size + 1) ((w1.alloc (.cells #[.int .i64 cur, .int .i64 loss, .int .i64 q0, .int .i64 q1, .int .i64 q2, .int .i64 q3, .int .i64 q4, .int .i64 r] 24)).alloc (.cells #[.int .i64 cur, .int .i64 loss, .int .i64 y, .int .i64 q1, .int .i64 q2, .int .i64 q3, .int .i64 q4, .int .i64 r] 24)) cur loss y q1 q2 q3 q4 r c0 c1 c2 c3 c4 := by
    have hs := hb.size
    refine ⟨by rw [heap_at, if_pos (by simp)], ?_⟩
    rw [heap_at, if_neg (by simp at hs ⊢; omega), heap_at, if_neg (by simp at hs; omega), hb.block _ (by simp)]
    exact heap_alloc_new _ _
  generalize ((w1.alloc (.cells #[.int .i64 cur, .int .i64 loss, .int .i64 q0, .int .i64 q1, .int .i64 q2, .int .i64 q3, .int .i64 q4, .int .i64 r] 24)).alloc (.cells #[.int .i64 cur, .int .i64 loss, .int .i64 y, .int .i64 q1, .int .i64 q2, .int .i64 q3, .int .i64 q4, .int .i64 r] 24)) = w4 at *
  generalize w1.heap.size + 1 = g at *
  clear hb
  have hc0 : w4.cell? ⟨g, 0, none⟩ = some (.int .i64 cur) := hcf.g 0 _ rfl
  have hc1 : w4.cell? ⟨g, 1, none⟩ = some (.int .i64 loss) := hcf.g 1 _ rfl
  have hc2 : w4.cell? ⟨g, 2, none⟩ = some (.int .i64 y) := hcf.g 2 _ rfl
  have hc3 : w4.cell? ⟨g, 3, none⟩ = some (.int .i64 q1) := hcf.g 3 _ rfl
  have hc4 : w4.cell? ⟨g, 4, none⟩ = some (.int .i64 q2) := hcf.g 4 _ rfl
  have hc5 : w4.cell? ⟨g, 5, none⟩ = some (.int .i64 q3) := hcf.g 5 _ rfl
  have hc6 : w4.cell? ⟨g, 6, none⟩ = some (.int .i64 q4) := hcf.g 6 _ rfl
  have hc7 : w4.cell? ⟨g, 7, none⟩ = some (.int .i64 r) := hcf.g 7 _ rfl
  go_still_tail 2, (by kernel_rfl)
  change wpList _ _ _ _ _ w4.drew
  have hbd : Below w.heap.size w w4.drew := hw0.drew
  have hcd : FH w.heap.size g w4.drew cur loss y q1 q2 q3 q4 r c0 c1 c2 c3 c4 := hcf
  generalize w4.drew = w5 at *
  go_wp2_with fail
  refine (fi _ hcd.is).mono ?_
  rintro e w6 ⟨rfl, hb6⟩
  go_wp2_with fail
  refine (wakes_any _).mono ?_
  rintro e w7 ⟨rfl, hb7⟩
  go_wp2_with fail
  go_ret
  exact ⟨rfl, (hbd.next hb6).next hb7⟩

set_option maxRecDepth 100000 in
set_option maxHeartbeats 1600000 in
theorem FallOnly_1 (w : World) (cur loss c0 c1 c2 c3 c4 at_ by_ : Int) (he : shareE cur loss [c0, c1, c2, c3, c4] = 0) (hby : ¬ by_ = 0) (hb64 : -9223372036854775808 ≤ by_ ∧ by_ ≤ 9223372036854775807) (hk : (IntKind.u64.wrap at_).tmod 8 = 1) :
    Calls Try.prog 4 #[.int .i64 cur, .int .i64 loss, .agg #[.int .i64 c0, .int .i64 c1, .int .i64 c2, .int .i64 c3, .int .i64 c4], .int .i64 at_, .int .i64 by_] w fun e w' => e = .returned (.bool true) ∧ Below w.heap.size w w' := by
  have sh := fun w v h => Share_ok w cur loss v [c0, c1, c2, c3, c4] h he
  have He := Lib.hid he
  have Hby := Lib.hid hby
  have Hb64 := Lib.hid hb64
  have hby' : (by_ == 0) = false := by simp [hby]
  clear he hby hb64
  go_enter Try.func4, Try.ntmps4
  go_wp2_with fail
  refine (sh _ _ (Is.lit5 rfl _ _ _ _ _ _)).mono ?_
  rintro e w1 ⟨q0, q1, q2, q3, q4, hq, rfl, hb⟩
  unfold fallV
  generalize hr : greedyR loss [c0, c1, c2, c3, c4] = r at *
  have Hr := Lib.hid hr
  have Hq := Lib.hid hq
  clear hq sh hr
  obtain ⟨y, hy⟩ : ∃ y, wrap64 (q1 + by_) = y := ⟨_, rfl⟩
  have hne : y ≠ q1 := by
    rw [← hy]
    exact wrap_ne _ _ Hb64.out Hby.out
  have hf : fitsB cur loss [q0, y, q2, q3, q4] r [c0, c1, c2, c3, c4] = false := fits_no_p (by rw [Hq.out]; simp [hne])
  have fi := fun w' (h : Is w' (.slice (some ⟨w.heap.size, 0, none⟩) 5 5) [c0, c1, c2, c3, c4]) => Fits_any w' cur loss q0 y q2 q3 q4 r _ _ h
  rw [hf] at fi
  clear hf hne
  go_wp2_with fail
  have hw0 : Below w.heap.size w ((w1.alloc (.cells #[.int .i64 cur, .int .i64 loss, .int .i64 q0, .int .i64 q1, .int .i64 q2, .int .i64 q3, .int .i64 q4, .int .i64 r] 24)).alloc (.cells #[.int .i64 cur, .int .i64 loss, .int .i64 q0, .int .i64 y, .int .i64 q2, .int .i64 q3, .int .i64 q4, .int .i64 r] 24)) := (hb.un.alloc hb.un.size _).alloc (Nat.le_trans hb.un.size (by simp)) _
  have hcf : FH w.heap.size (w1.heap.size + 1) ((w1.alloc (.cells #[.int .i64 cur, .int .i64 loss, .int .i64 q0, .int .i64 q1, .int .i64 q2, .int .i64 q3, .int .i64 q4, .int .i64 r] 24)).alloc (.cells #[.int .i64 cur, .int .i64 loss, .int .i64 q0, .int .i64 y, .int .i64 q2, .int .i64 q3, .int .i64 q4, .int .i64 r] 24)) cur loss q0 y q2 q3 q4 r c0 c1 c2 c3 c4 := by
    have hs := hb.size
    refine ⟨by rw [heap_at, if_pos (by simp)], ?_⟩
    rw [heap_at, if_neg (by simp at hs ⊢; omega), heap_at, if_neg (by simp at hs; omega), hb.block _ (by simp)]
    exact heap_alloc_new _ _
  generalize ((w1.alloc (.cells #[.int .i64 cur, .int .i64 loss, .int .i64 q0, .int .i64 q1, .int .i64 q2, .int .i64 q3, .int .i64 q4, .int .i64 r] 24)).alloc (.cells #[.int .i64 cur, .int .i64 loss, .int .i64 q0, .int .i64 y, .int .i64 q2, .int .i64 q3, .int .i64 q4, .int .i64 r] 24)) = w4 at *
  generalize w1.heap.size + 1 = g at *
  clear hb
  have hc0 : w4.cell? ⟨g, 0, none⟩ = some (.int .i64 cur) := hcf.g 0 _ rfl
  have hc1 : w4.cell? ⟨g, 1, none⟩ = some (.int .i64 loss) := hcf.g 1 _ rfl
  have hc2 : w4.cell? ⟨g, 2, none⟩ = some (.int .i64 q0) := hcf.g 2 _ rfl
  have hc3 : w4.cell? ⟨g, 3, none⟩ = some (.int .i64 y) := hcf.g 3 _ rfl
  have hc4 : w4.cell? ⟨g, 4, none⟩ = some (.int .i64 q2) := hcf.g 4 _ rfl
  have hc5 : w4.cell? ⟨g, 5, none⟩ = some (.int .i64 q3) := hcf.g 5 _ rfl
  have hc6 : w4.cell? ⟨g, 6, none⟩ = some (.int .i64 q4) := hcf.g 6 _ rfl
  have hc7 : w4.cell? ⟨g, 7, none⟩ = some (.int .i64 r) := hcf.g 7 _ rfl
  go_still_tail 2, (by kernel_rfl)
  change wpList _ _ _ _ _ w4.drew
  have hbd : Below w.heap.size w w4.drew := hw0.drew
  have hcd : FH w.heap.size g w4.drew cur loss q0 y q2 q3 q4 r c0 c1 c2 c3 c4 := hcf
  generalize w4.drew = w5 at *
  go_wp2_with fail
  refine (fi _ hcd.is).mono ?_
  rintro e w6 ⟨rfl, hb6⟩
  go_wp2_with fail
  refine (wakes_any _).mono ?_
  rintro e w7 ⟨rfl, hb7⟩
  go_wp2_with fail
  go_ret
  exact ⟨rfl, (hbd.next hb6).next hb7⟩

set_option maxRecDepth 100000 in
set_option maxHeartbeats 1600000 in
theorem FallOnly_2 (w : World) (cur loss c0 c1 c2 c3 c4 at_ by_ : Int) (he : shareE cur loss [c0, c1, c2, c3, c4] = 0) (hby : ¬ by_ = 0) (hb64 : -9223372036854775808 ≤ by_ ∧ by_ ≤ 9223372036854775807) (hk : (IntKind.u64.wrap at_).tmod 8 = 2) :
    Calls Try.prog 4 #[.int .i64 cur, .int .i64 loss, .agg #[.int .i64 c0, .int .i64 c1, .int .i64 c2, .int .i64 c3, .int .i64 c4], .int .i64 at_, .int .i64 by_] w fun e w' => e = .returned (.bool true) ∧ Below w.heap.size w w' := by
  have sh := fun w v h => Share_ok w cur loss v [c0, c1, c2, c3, c4] h he
  have He := Lib.hid he
  have Hby := Lib.hid hby
  have Hb64 := Lib.hid hb64
  have hby' : (by_ == 0) = false := by simp [hby]
  clear he hby hb64
  go_enter Try.func4, Try.ntmps4
  go_wp2_with fail
  refine (sh _ _ (Is.lit5 rfl _ _ _ _ _ _)).mono ?_
  rintro e w1 ⟨q0, q1, q2, q3, q4, hq, rfl, hb⟩
  unfold fallV
  generalize hr : greedyR loss [c0, c1, c2, c3, c4] = r at *
  have Hr := Lib.hid hr
  have Hq := Lib.hid hq
  clear hq sh hr
  obtain ⟨y, hy⟩ : ∃ y, wrap64 (q2 + by_) = y := ⟨_, rfl⟩
  have hne : y ≠ q2 := by
    rw [← hy]
    exact wrap_ne _ _ Hb64.out Hby.out
  have hf : fitsB cur loss [q0, q1, y, q3, q4] r [c0, c1, c2, c3, c4] = false := fits_no_p (by rw [Hq.out]; simp [hne])
  have fi := fun w' (h : Is w' (.slice (some ⟨w.heap.size, 0, none⟩) 5 5) [c0, c1, c2, c3, c4]) => Fits_any w' cur loss q0 q1 y q3 q4 r _ _ h
  rw [hf] at fi
  clear hf hne
  go_wp2_with fail
  have hw0 : Below w.heap.size w ((w1.alloc (.cells #[.int .i64 cur, .int .i64 loss, .int .i64 q0, .int .i64 q1, .int .i64 q2, .int .i64 q3, .int .i64 q4, .int .i64 r] 24)).alloc (.cells #[.int .i64 cur, .int .i64 loss, .int .i64 q0, .int .i64 q1, .int .i64 y, .int .i64 q3, .int .i64 q4, .int .i64 r] 24)) := (hb.un.alloc hb.un.size _).alloc (Nat.le_trans hb.un.size (by simp)) _
  have hcf : FH w.heap.size (w1.heap.size + 1) ((w1.alloc (.cells #[.int .i64 cur, .int .i64 loss, .int .i64 q0, .int .i64 q1, .int .i64 q2, .int .i64 q3, .int .i64 q4, .int .i64 r] 24)).alloc (.cells #[.int .i64 cur, .int .i64 loss, .int .i64 q0, .int .i64 q1, .int .i64 y, .int .i64 q3, .int .i64 q4, .int .i64 r] 24)) cur loss q0 q1 y q3 q4 r c0 c1 c2 c3 c4 := by
    have hs := hb.size
    refine ⟨by rw [heap_at, if_pos (by simp)], ?_⟩
    rw [heap_at, if_neg (by simp at hs ⊢; omega), heap_at, if_neg (by simp at hs; omega), hb.block _ (by simp)]
    exact heap_alloc_new _ _
  generalize ((w1.alloc (.cells #[.int .i64 cur, .int .i64 loss, .int .i64 q0, .int .i64 q1, .int .i64 q2, .int .i64 q3, .int .i64 q4, .int .i64 r] 24)).alloc (.cells #[.int .i64 cur, .int .i64 loss, .int .i64 q0, .int .i64 q1, .int .i64 y, .int .i64 q3, .int .i64 q4, .int .i64 r] 24)) = w4 at *
  generalize w1.heap.size + 1 = g at *
  clear hb
  have hc0 : w4.cell? ⟨g, 0, none⟩ = some (.int .i64 cur) := hcf.g 0 _ rfl
  have hc1 : w4.cell? ⟨g, 1, none⟩ = some (.int .i64 loss) := hcf.g 1 _ rfl
  have hc2 : w4.cell? ⟨g, 2, none⟩ = some (.int .i64 q0) := hcf.g 2 _ rfl
  have hc3 : w4.cell? ⟨g, 3, none⟩ = some (.int .i64 q1) := hcf.g 3 _ rfl
  have hc4 : w4.cell? ⟨g, 4, none⟩ = some (.int .i64 y) := hcf.g 4 _ rfl
  have hc5 : w4.cell? ⟨g, 5, none⟩ = some (.int .i64 q3) := hcf.g 5 _ rfl
  have hc6 : w4.cell? ⟨g, 6, none⟩ = some (.int .i64 q4) := hcf.g 6 _ rfl
  have hc7 : w4.cell? ⟨g, 7, none⟩ = some (.int .i64 r) := hcf.g 7 _ rfl
  go_still_tail 2, (by kernel_rfl)
  change wpList _ _ _ _ _ w4.drew
  have hbd : Below w.heap.size w w4.drew := hw0.drew
  have hcd : FH w.heap.size g w4.drew cur loss q0 q1 y q3 q4 r c0 c1 c2 c3 c4 := hcf
  generalize w4.drew = w5 at *
  go_wp2_with fail
  refine (fi _ hcd.is).mono ?_
  rintro e w6 ⟨rfl, hb6⟩
  go_wp2_with fail
  refine (wakes_any _).mono ?_
  rintro e w7 ⟨rfl, hb7⟩
  go_wp2_with fail
  go_ret
  exact ⟨rfl, (hbd.next hb6).next hb7⟩

set_option maxRecDepth 100000 in
set_option maxHeartbeats 1600000 in
theorem FallOnly_3 (w : World) (cur loss c0 c1 c2 c3 c4 at_ by_ : Int) (he : shareE cur loss [c0, c1, c2, c3, c4] = 0) (hby : ¬ by_ = 0) (hb64 : -9223372036854775808 ≤ by_ ∧ by_ ≤ 9223372036854775807) (hk : (IntKind.u64.wrap at_).tmod 8 = 3) :
    Calls Try.prog 4 #[.int .i64 cur, .int .i64 loss, .agg #[.int .i64 c0, .int .i64 c1, .int .i64 c2, .int .i64 c3, .int .i64 c4], .int .i64 at_, .int .i64 by_] w fun e w' => e = .returned (.bool true) ∧ Below w.heap.size w w' := by
  have sh := fun w v h => Share_ok w cur loss v [c0, c1, c2, c3, c4] h he
  have He := Lib.hid he
  have Hby := Lib.hid hby
  have Hb64 := Lib.hid hb64
  have hby' : (by_ == 0) = false := by simp [hby]
  clear he hby hb64
  go_enter Try.func4, Try.ntmps4
  go_wp2_with fail
  refine (sh _ _ (Is.lit5 rfl _ _ _ _ _ _)).mono ?_
  rintro e w1 ⟨q0, q1, q2, q3, q4, hq, rfl, hb⟩
  unfold fallV
  generalize hr : greedyR loss [c0, c1, c2, c3, c4] = r at *
  have Hr := Lib.hid hr
  have Hq := Lib.hid hq
  clear hq sh hr
  obtain ⟨y, hy⟩ : ∃ y, wrap64 (q3 + by_) = y := ⟨_, rfl⟩
  have hne : y ≠ q3 := by
    rw [← hy]
    exact wrap_ne _ _ Hb64.out Hby.out
  have hf : fitsB cur loss [q0, q1, q2, y, q4] r [c0, c1, c2, c3, c4] = false := fits_no_p (by rw [Hq.out]; simp [hne])
  have fi := fun w' (h : Is w' (.slice (some ⟨w.heap.size, 0, none⟩) 5 5) [c0, c1, c2, c3, c4]) => Fits_any w' cur loss q0 q1 q2 y q4 r _ _ h
  rw [hf] at fi
  clear hf hne
  go_wp2_with fail
  have hw0 : Below w.heap.size w ((w1.alloc (.cells #[.int .i64 cur, .int .i64 loss, .int .i64 q0, .int .i64 q1, .int .i64 q2, .int .i64 q3, .int .i64 q4, .int .i64 r] 24)).alloc (.cells #[.int .i64 cur, .int .i64 loss, .int .i64 q0, .int .i64 q1, .int .i64 q2, .int .i64 y, .int .i64 q4, .int .i64 r] 24)) := (hb.un.alloc hb.un.size _).alloc (Nat.le_trans hb.un.size (by simp)) _
  have hcf : FH w.heap.size (w1.heap.size + 1) ((w1.alloc (.cells #[.int .i64 cur, .int .i64 loss, .int .i64 q0, .int .i64 q1, .int .i64 q2, .int .i64 q3, .int .i64 q4, .int .i64 r] 24)).alloc (.cells #[.int .i64 cur, .int .i64 loss, .int .i64 q0, .int .i64 q1, .int .i64 q2, .int .i64 y, .int .i64 q4, .int .i64 r] 24)) cur loss q0 q1 q2 y q4 r c0 c1 c2 c3 c4 := by
    have hs := hb.size
    refine ⟨by rw [heap_at, if_pos (by simp)], ?_⟩
    rw [heap_at, if_neg (by simp at hs ⊢; omega), heap_at, if_neg (by simp at hs; omega), hb.block _ (by simp)]
    exact heap_alloc_new _ _
  generalize ((w1.alloc (.cells #[.int .i64 cur, .int .i64 loss, .int .i64 q0, .int .i64 q1, .int .i64 q2, .int .i64 q3, .int .i64 q4, .int .i64 r] 24)).alloc (.cells #[.int .i64 cur, .int .i64 loss, .int .i64 q0, .int .i64 q1, .int .i64 q2, .int .i64 y, .int .i64 q4, .int .i64 r] 24)) = w4 at *
  generalize w1.heap.size + 1 = g at *
  clear hb
  have hc0 : w4.cell? ⟨g, 0, none⟩ = some (.int .i64 cur) := hcf.g 0 _ rfl
  have hc1 : w4.cell? ⟨g, 1, none⟩ = some (.int .i64 loss) := hcf.g 1 _ rfl
  have hc2 : w4.cell? ⟨g, 2, none⟩ = some (.int .i64 q0) := hcf.g 2 _ rfl
  have hc3 : w4.cell? ⟨g, 3, none⟩ = some (.int .i64 q1) := hcf.g 3 _ rfl
  have hc4 : w4.cell? ⟨g, 4, none⟩ = some (.int .i64 q2) := hcf.g 4 _ rfl
  have hc5 : w4.cell? ⟨g, 5, none⟩ = some (.int .i64 y) := hcf.g 5 _ rfl
  have hc6 : w4.cell? ⟨g, 6, none⟩ = some (.int .i64 q4) := hcf.g 6 _ rfl
  have hc7 : w4.cell? ⟨g, 7, none⟩ = some (.int .i64 r) := hcf.g 7 _ rfl
  go_still_tail 2, (by kernel_rfl)
  change wpList _ _ _ _ _ w4.drew
  have hbd : Below w.heap.size w w4.drew := hw0.drew
  have hcd : FH w.heap.size g w4.drew cur loss q0 q1 q2 y q4 r c0 c1 c2 c3 c4 := hcf
  generalize w4.drew = w5 at *
  go_wp2_with fail
  refine (fi _ hcd.is).mono ?_
  rintro e w6 ⟨rfl, hb6⟩
  go_wp2_with fail
  refine (wakes_any _).mono ?_
  rintro e w7 ⟨rfl, hb7⟩
  go_wp2_with fail
  go_ret
  exact ⟨rfl, (hbd.next hb6).next hb7⟩

set_option maxRecDepth 100000 in
set_option maxHeartbeats 1600000 in
theorem FallOnly_4 (w : World) (cur loss c0 c1 c2 c3 c4 at_ by_ : Int) (he : shareE cur loss [c0, c1, c2, c3, c4] = 0) (hby : ¬ by_ = 0) (hb64 : -9223372036854775808 ≤ by_ ∧ by_ ≤ 9223372036854775807) (hk : (IntKind.u64.wrap at_).tmod 8 = 4) :
    Calls Try.prog 4 #[.int .i64 cur, .int .i64 loss, .agg #[.int .i64 c0, .int .i64 c1, .int .i64 c2, .int .i64 c3, .int .i64 c4], .int .i64 at_, .int .i64 by_] w fun e w' => e = .returned (.bool true) ∧ Below w.heap.size w w' := by
  have sh := fun w v h => Share_ok w cur loss v [c0, c1, c2, c3, c4] h he
  have He := Lib.hid he
  have Hby := Lib.hid hby
  have Hb64 := Lib.hid hb64
  have hby' : (by_ == 0) = false := by simp [hby]
  clear he hby hb64
  go_enter Try.func4, Try.ntmps4
  go_wp2_with fail
  refine (sh _ _ (Is.lit5 rfl _ _ _ _ _ _)).mono ?_
  rintro e w1 ⟨q0, q1, q2, q3, q4, hq, rfl, hb⟩
  unfold fallV
  generalize hr : greedyR loss [c0, c1, c2, c3, c4] = r at *
  have Hr := Lib.hid hr
  have Hq := Lib.hid hq
  clear hq sh hr
  obtain ⟨y, hy⟩ : ∃ y, wrap64 (q4 + by_) = y := ⟨_, rfl⟩
  have hne : y ≠ q4 := by
    rw [← hy]
    exact wrap_ne _ _ Hb64.out Hby.out
  have hf : fitsB cur loss [q0, q1, q2, q3, y] r [c0, c1, c2, c3, c4] = false := fits_no_p (by rw [Hq.out]; simp [hne])
  have fi := fun w' (h : Is w' (.slice (some ⟨w.heap.size, 0, none⟩) 5 5) [c0, c1, c2, c3, c4]) => Fits_any w' cur loss q0 q1 q2 q3 y r _ _ h
  rw [hf] at fi
  clear hf hne
  go_wp2_with fail
  have hw0 : Below w.heap.size w ((w1.alloc (.cells #[.int .i64 cur, .int .i64 loss, .int .i64 q0, .int .i64 q1, .int .i64 q2, .int .i64 q3, .int .i64 q4, .int .i64 r] 24)).alloc (.cells #[.int .i64 cur, .int .i64 loss, .int .i64 q0, .int .i64 q1, .int .i64 q2, .int .i64 q3, .int .i64 y, .int .i64 r] 24)) := (hb.un.alloc hb.un.size _).alloc (Nat.le_trans hb.un.size (by simp)) _
  have hcf : FH w.heap.size (w1.heap.size + 1) ((w1.alloc (.cells #[.int .i64 cur, .int .i64 loss, .int .i64 q0, .int .i64 q1, .int .i64 q2, .int .i64 q3, .int .i64 q4, .int .i64 r] 24)).alloc (.cells #[.int .i64 cur, .int .i64 loss, .int .i64 q0, .int .i64 q1, .int .i64 q2, .int .i64 q3, .int .i64 y, .int .i64 r] 24)) cur loss q0 q1 q2 q3 y r c0 c1 c2 c3 c4 := by
    have hs := hb.size
    refine ⟨by rw [heap_at, if_pos (by simp)], ?_⟩
    rw [heap_at, if_neg (by simp at hs ⊢; omega), heap_at, if_neg (by simp at hs; omega), hb.block _ (by simp)]
    exact heap_alloc_new _ _
  generalize ((w1.alloc (.cells #[.int .i64 cur, .int .i64 loss, .int .i64 q0, .int .i64 q1, .int .i64 q2, .int .i64 q3, .int .i64 q4, .int .i64 r] 24)).alloc (.cells #[.int .i64 cur, .int .i64 loss, .int .i64 q0, .int .i64 q1, .int .i64 q2, .int .i64 q3, .int .i64 y, .int .i64 r] 24)) = w4 at *
  generalize w1.heap.size + 1 = g at *
  clear hb
  have hc0 : w4.cell? ⟨g, 0, none⟩ = some (.int .i64 cur) := hcf.g 0 _ rfl
  have hc1 : w4.cell? ⟨g, 1, none⟩ = some (.int .i64 loss) := hcf.g 1 _ rfl
  have hc2 : w4.cell? ⟨g, 2, none⟩ = some (.int .i64 q0) := hcf.g 2 _ rfl
  have hc3 : w4.cell? ⟨g, 3, none⟩ = some (.int .i64 q1) := hcf.g 3 _ rfl
  have hc4 : w4.cell? ⟨g, 4, none⟩ = some (.int .i64 q2) := hcf.g 4 _ rfl
  have hc5 : w4.cell? ⟨g, 5, none⟩ = some (.int .i64 q3) := hcf.g 5 _ rfl
  have hc6 : w4.cell? ⟨g, 6, none⟩ = some (.int .i64 y) := hcf.g 6 _ rfl
  have hc7 : w4.cell? ⟨g, 7, none⟩ = some (.int .i64 r) := hcf.g 7 _ rfl
  go_still_tail 2, (by kernel_rfl)
  change wpList _ _ _ _ _ w4.drew
  have hbd : Below w.heap.size w w4.drew := hw0.drew
  have hcd : FH w.heap.size g w4.drew cur loss q0 q1 q2 q3 y r c0 c1 c2 c3 c4 := hcf
  generalize w4.drew = w5 at *
  go_wp2_with fail
  refine (fi _ hcd.is).mono ?_
  rintro e w6 ⟨rfl, hb6⟩
  go_wp2_with fail
  refine (wakes_any _).mono ?_
  rintro e w7 ⟨rfl, hb7⟩
  go_wp2_with fail
  go_ret
  exact ⟨rfl, (hbd.next hb6).next hb7⟩

set_option maxRecDepth 100000 in
set_option maxHeartbeats 1600000 in
theorem FallOnly_5 (w : World) (cur loss c0 c1 c2 c3 c4 at_ by_ : Int) (he : shareE cur loss [c0, c1, c2, c3, c4] = 0) (hby : ¬ by_ = 0) (hb64 : -9223372036854775808 ≤ by_ ∧ by_ ≤ 9223372036854775807) (hk : (IntKind.u64.wrap at_).tmod 8 = 5) :
    Calls Try.prog 4 #[.int .i64 cur, .int .i64 loss, .agg #[.int .i64 c0, .int .i64 c1, .int .i64 c2, .int .i64 c3, .int .i64 c4], .int .i64 at_, .int .i64 by_] w fun e w' => e = .returned (.bool true) ∧ Below w.heap.size w w' := by
  have sh := fun w v h => Share_ok w cur loss v [c0, c1, c2, c3, c4] h he
  have He := Lib.hid he
  have Hby := Lib.hid hby
  have Hb64 := Lib.hid hb64
  have hby' : (by_ == 0) = false := by simp [hby]
  clear he hby hb64
  go_enter Try.func4, Try.ntmps4
  go_wp2_with fail
  refine (sh _ _ (Is.lit5 rfl _ _ _ _ _ _)).mono ?_
  rintro e w1 ⟨q0, q1, q2, q3, q4, hq, rfl, hb⟩
  unfold fallV
  generalize hr : greedyR loss [c0, c1, c2, c3, c4] = r at *
  have Hr := Lib.hid hr
  have Hq := Lib.hid hq
  clear hq sh hr
  obtain ⟨y, hy⟩ : ∃ y, wrap64 (r + by_) = y := ⟨_, rfl⟩
  have hne : y ≠ r := by
    rw [← hy]
    exact wrap_ne _ _ Hb64.out Hby.out
  have hf : fitsB cur loss [q0, q1, q2, q3, q4] y [c0, c1, c2, c3, c4] = false := fits_no_r (by rw [Hr.out]; exact hne)
  have fi := fun w' (h : Is w' (.slice (some ⟨w.heap.size, 0, none⟩) 5 5) [c0, c1, c2, c3, c4]) => Fits_any w' cur loss q0 q1 q2 q3 q4 y _ _ h
  rw [hf] at fi
  clear hf hne
  go_wp2_with fail
  have hw0 : Below w.heap.size w ((w1.alloc (.cells #[.int .i64 cur, .int .i64 loss, .int .i64 q0, .int .i64 q1, .int .i64 q2, .int .i64 q3, .int .i64 q4, .int .i64 r] 24)).alloc (.cells #[.int .i64 cur, .int .i64 loss, .int .i64 q0, .int .i64 q1, .int .i64 q2, .int .i64 q3, .int .i64 q4, .int .i64 y] 24)) := (hb.un.alloc hb.un.size _).alloc (Nat.le_trans hb.un.size (by simp)) _
  have hcf : FH w.heap.size (w1.heap.size + 1) ((w1.alloc (.cells #[.int .i64 cur, .int .i64 loss, .int .i64 q0, .int .i64 q1, .int .i64 q2, .int .i64 q3, .int .i64 q4, .int .i64 r] 24)).alloc (.cells #[.int .i64 cur, .int .i64 loss, .int .i64 q0, .int .i64 q1, .int .i64 q2, .int .i64 q3, .int .i64 q4, .int .i64 y] 24)) cur loss q0 q1 q2 q3 q4 y c0 c1 c2 c3 c4 := by
    have hs := hb.size
    refine ⟨by rw [heap_at, if_pos (by simp)], ?_⟩
    rw [heap_at, if_neg (by simp at hs ⊢; omega), heap_at, if_neg (by simp at hs; omega), hb.block _ (by simp)]
    exact heap_alloc_new _ _
  generalize ((w1.alloc (.cells #[.int .i64 cur, .int .i64 loss, .int .i64 q0, .int .i64 q1, .int .i64 q2, .int .i64 q3, .int .i64 q4, .int .i64 r] 24)).alloc (.cells #[.int .i64 cur, .int .i64 loss, .int .i64 q0, .int .i64 q1, .int .i64 q2, .int .i64 q3, .int .i64 q4, .int .i64 y] 24)) = w4 at *
  generalize w1.heap.size + 1 = g at *
  clear hb
  have hc0 : w4.cell? ⟨g, 0, none⟩ = some (.int .i64 cur) := hcf.g 0 _ rfl
  have hc1 : w4.cell? ⟨g, 1, none⟩ = some (.int .i64 loss) := hcf.g 1 _ rfl
  have hc2 : w4.cell? ⟨g, 2, none⟩ = some (.int .i64 q0) := hcf.g 2 _ rfl
  have hc3 : w4.cell? ⟨g, 3, none⟩ = some (.int .i64 q1) := hcf.g 3 _ rfl
  have hc4 : w4.cell? ⟨g, 4, none⟩ = some (.int .i64 q2) := hcf.g 4 _ rfl
  have hc5 : w4.cell? ⟨g, 5, none⟩ = some (.int .i64 q3) := hcf.g 5 _ rfl
  have hc6 : w4.cell? ⟨g, 6, none⟩ = some (.int .i64 q4) := hcf.g 6 _ rfl
  have hc7 : w4.cell? ⟨g, 7, none⟩ = some (.int .i64 y) := hcf.g 7 _ rfl
  go_still_tail 2, (by kernel_rfl)
  change wpList _ _ _ _ _ w4.drew
  have hbd : Below w.heap.size w w4.drew := hw0.drew
  have hcd : FH w.heap.size g w4.drew cur loss q0 q1 q2 q3 q4 y c0 c1 c2 c3 c4 := hcf
  generalize w4.drew = w5 at *
  go_wp2_with fail
  refine (fi _ hcd.is).mono ?_
  rintro e w6 ⟨rfl, hb6⟩
  go_wp2_with fail
  refine (wakes_any _).mono ?_
  rintro e w7 ⟨rfl, hb7⟩
  go_wp2_with fail
  go_ret
  exact ⟨rfl, (hbd.next hb6).next hb7⟩

set_option maxRecDepth 100000 in
set_option maxHeartbeats 1600000 in
theorem FallOnly_6 (w : World) (cur loss c0 c1 c2 c3 c4 at_ by_ : Int) (he : shareE cur loss [c0, c1, c2, c3, c4] = 0) (hby : ¬ by_ = 0) (hb64 : -9223372036854775808 ≤ by_ ∧ by_ ≤ 9223372036854775807) (hk : (IntKind.u64.wrap at_).tmod 8 = 6) :
    Calls Try.prog 4 #[.int .i64 cur, .int .i64 loss, .agg #[.int .i64 c0, .int .i64 c1, .int .i64 c2, .int .i64 c3, .int .i64 c4], .int .i64 at_, .int .i64 by_] w fun e w' => e = .returned (.bool true) ∧ Below w.heap.size w w' := by
  have sh := fun w v h => Share_ok w cur loss v [c0, c1, c2, c3, c4] h he
  have He := Lib.hid he
  have Hby := Lib.hid hby
  have Hb64 := Lib.hid hb64
  have hby' : (by_ == 0) = false := by simp [hby]
  clear he hby hb64
  go_enter Try.func4, Try.ntmps4
  go_wp2_with fail
  refine (sh _ _ (Is.lit5 rfl _ _ _ _ _ _)).mono ?_
  rintro e w1 ⟨q0, q1, q2, q3, q4, hq, rfl, hb⟩
  unfold fallV
  generalize hr : greedyR loss [c0, c1, c2, c3, c4] = r at *
  have Hr := Lib.hid hr
  have Hq := Lib.hid hq
  clear hq sh hr
  obtain ⟨y, hy⟩ : ∃ y, wrap64 (loss + by_) = y := ⟨_, rfl⟩
  have hne : y ≠ loss := by
    rw [← hy]
    exact wrap_ne _ _ Hb64.out Hby.out
  have hf : fitsB cur y [q0, q1, q2, q3, q4] r [c0, c1, c2, c3, c4] = false := fits_no_loss Hq.out Hr.out hne
  have fi := fun w' (h : Is w' (.slice (some ⟨w.heap.size, 0, none⟩) 5 5) [c0, c1, c2, c3, c4]) => Fits_any w' cur y q0 q1 q2 q3 q4 r _ _ h
  rw [hf] at fi
  clear hf hne
  go_wp2_with fail
  have hw0 : Below w.heap.size w ((w1.alloc (.cells #[.int .i64 cur, .int .i64 loss, .int .i64 q0, .int .i64 q1, .int .i64 q2, .int .i64 q3, .int .i64 q4, .int .i64 r] 24)).alloc (.cells #[.int .i64 cur, .int .i64 y, .int .i64 q0, .int .i64 q1, .int .i64 q2, .int .i64 q3, .int .i64 q4, .int .i64 r] 24)) := (hb.un.alloc hb.un.size _).alloc (Nat.le_trans hb.un.size (by simp)) _
  have hcf : FH w.heap.size (w1.heap.size + 1) ((w1.alloc (.cells #[.int .i64 cur, .int .i64 loss, .int .i64 q0, .int .i64 q1, .int .i64 q2, .int .i64 q3, .int .i64 q4, .int .i64 r] 24)).alloc (.cells #[.int .i64 cur, .int .i64 y, .int .i64 q0, .int .i64 q1, .int .i64 q2, .int .i64 q3, .int .i64 q4, .int .i64 r] 24)) cur y q0 q1 q2 q3 q4 r c0 c1 c2 c3 c4 := by
    have hs := hb.size
    refine ⟨by rw [heap_at, if_pos (by simp)], ?_⟩
    rw [heap_at, if_neg (by simp at hs ⊢; omega), heap_at, if_neg (by simp at hs; omega), hb.block _ (by simp)]
    exact heap_alloc_new _ _
  generalize ((w1.alloc (.cells #[.int .i64 cur, .int .i64 loss, .int .i64 q0, .int .i64 q1, .int .i64 q2, .int .i64 q3, .int .i64 q4, .int .i64 r] 24)).alloc (.cells #[.int .i64 cur, .int .i64 y, .int .i64 q0, .int .i64 q1, .int .i64 q2, .int .i64 q3, .int .i64 q4, .int .i64 r] 24)) = w4 at *
  generalize w1.heap.size + 1 = g at *
  clear hb
  have hc0 : w4.cell? ⟨g, 0, none⟩ = some (.int .i64 cur) := hcf.g 0 _ rfl
  have hc1 : w4.cell? ⟨g, 1, none⟩ = some (.int .i64 y) := hcf.g 1 _ rfl
  have hc2 : w4.cell? ⟨g, 2, none⟩ = some (.int .i64 q0) := hcf.g 2 _ rfl
  have hc3 : w4.cell? ⟨g, 3, none⟩ = some (.int .i64 q1) := hcf.g 3 _ rfl
  have hc4 : w4.cell? ⟨g, 4, none⟩ = some (.int .i64 q2) := hcf.g 4 _ rfl
  have hc5 : w4.cell? ⟨g, 5, none⟩ = some (.int .i64 q3) := hcf.g 5 _ rfl
  have hc6 : w4.cell? ⟨g, 6, none⟩ = some (.int .i64 q4) := hcf.g 6 _ rfl
  have hc7 : w4.cell? ⟨g, 7, none⟩ = some (.int .i64 r) := hcf.g 7 _ rfl
  go_still_tail 2, (by kernel_rfl)
  change wpList _ _ _ _ _ w4.drew
  have hbd : Below w.heap.size w w4.drew := hw0.drew
  have hcd : FH w.heap.size g w4.drew cur y q0 q1 q2 q3 q4 r c0 c1 c2 c3 c4 := hcf
  generalize w4.drew = w5 at *
  go_wp2_with fail
  refine (fi _ hcd.is).mono ?_
  rintro e w6 ⟨rfl, hb6⟩
  go_wp2_with fail
  refine (wakes_any _).mono ?_
  rintro e w7 ⟨rfl, hb7⟩
  go_wp2_with fail
  go_ret
  exact ⟨rfl, (hbd.next hb6).next hb7⟩

end Cam
