import Derived.Test.YtibahadebogmpaaNum
/- the laws of num: wakes; NumEnds. -/
namespace Cam
open Go Go.RowKit Go.Proofs

theorem Is.lit3 {w : World} {g : Nat} (hg : g = w.heap.size) (n m k : Int) (e : TypeId) : Is (w.alloc (.cells #[.int .i64 n, .int .i64 m, .int .i64 k] e)) (.slice (some ⟨g, 0, none⟩) 3 3) [n, m, k] := Is.block (l := [n, m, k]) (heap_new hg) (Nat.le_refl _) (by simp [maxLen])
theorem Is.lit2' {w : World} {g : Nat} (hg : g = w.heap.size) (n m : Int) (e : TypeId) : Is (w.alloc (.cells #[.int .i64 n, .int .i64 m] e)) (.slice (some ⟨g, 0, none⟩) 2 2) [n, m] := Is.block (l := [n, m]) (heap_new hg) (Nat.le_refl _) (by simp [maxLen])

theorem Below.un' {w w1 : World} {o : Obj} (h : Below (w.alloc o).heap.size (w.alloc o) w1) : Below w.heap.size w w1 := Below.un h

set_option maxHeartbeats 800000 in
theorem wakes_any (w : World) : Calls Try.prog 10 #[] w fun e w' => e = .returned (.bool true) ∧ Below w.heap.size w w' := by
  go_enter Try.func10, Try.ntmps10
  go_wp2_with fail
  refine (Sum_any _ _ [4611686018427387904, 1, -1] (Is.lit3 rfl _ _ _ _)).mono ?_
  rintro e w1 ⟨rfl, hb⟩
  rw [(by decide : sumN [4611686018427387904, 1, -1] = 4611686018427387904), (by decide : sumE [4611686018427387904, 1, -1] = 0)]
  go_wp2_with fail
  refine (Sum_any _ _ [4611686018427387904, 1] (Is.lit2' rfl _ _ _)).mono ?_
  rintro e w2 ⟨rfl, hb2⟩
  rw [(by decide : sumN [4611686018427387904, 1] = 0), (by decide : sumE [4611686018427387904, 1] = 1)]
  go_wp2_with fail
  go_ret
  exact ⟨rfl, hb.un.next hb2.un⟩

set_option maxHeartbeats 1600000 in
theorem NumEnds_walk (w : World) : Calls Try.prog 6 #[] w fun e w' => e = .returned (.bool true) ∧ Below w.heap.size w w' := by
  go_enter Try.func6, Try.ntmps6
  go_wp2_with fail
  refine (Sum_any _ _ [4611686018427387904, -1, 1] (Is.lit3 rfl _ _ _ _)).mono ?_
  rintro e w1 ⟨rfl, hb1⟩
  rw [(by decide : sumN [4611686018427387904, -1, 1] = 4611686018427387904), (by decide : sumE [4611686018427387904, -1, 1] = 0)]
  go_wp2_with fail
  refine (Sum_any _ _ [4611686018427387904, 1] (Is.lit2' rfl _ _ _)).mono ?_
  rintro e w2 ⟨rfl, hb2⟩
  rw [(by decide : sumN [4611686018427387904, 1] = 0), (by decide : sumE [4611686018427387904, 1] = 1)]
  go_wp2_with fail
  refine (Less_any _ _ _).mono ?_
  rintro e w3 ⟨rfl, hb3⟩
  rw [(by decide : lessN (-4611686018427387904) 0 = -4611686018427387904), (by decide : lessE (-4611686018427387904) 0 = 0)]
  go_wp2_with fail
  refine (Less_any _ _ _).mono ?_
  rintro e w4 ⟨rfl, hb4⟩
  rw [(by decide : lessN (-4611686018427387904) 1 = 0), (by decide : lessE (-4611686018427387904) 1 = 1)]
  go_wp2_with fail
  refine (Times_any _ _ _ (by omega) (by omega)).mono ?_
  rintro e w5 ⟨rfl, hb5⟩
  rw [(by decide : mulN 2147483648 2147483648 = 4611686018427387904), (by decide : mulE 2147483648 2147483648 = 0)]
  go_wp2_with fail
  refine (Times_any _ _ _ (by omega) (by omega)).mono ?_
  rintro e w6 ⟨rfl, hb6⟩
  rw [(by decide : mulN 2147483648 2147483649 = 0), (by decide : mulE 2147483648 2147483649 = 1)]
  go_wp2_with fail
  refine (Times_any _ _ _ (by omega) (by omega)).mono ?_
  rintro e w7 ⟨rfl, hb7⟩
  rw [(by decide : mulN (-2147483648) 2147483648 = -4611686018427387904), (by decide : mulE (-2147483648) 2147483648 = 0)]
  go_wp2_with fail
  refine (Quo_any _ _ _).mono ?_
  rintro e w8 ⟨rfl, hb8⟩
  rw [(by decide : quoQ (-4611686018427387904) (-1) = 4611686018427387904), (by decide : quoR (-4611686018427387904) (-1) = 0), (by decide : quoE (-4611686018427387904) (-1) = 0)]
  go_wp2_with fail
  refine (Quo_any _ _ _).mono ?_
  rintro e w9 ⟨rfl, hb9⟩
  rw [(by decide : quoQ 4611686018427387905 1 = 0), (by decide : quoR 4611686018427387905 1 = 0), (by decide : quoE 4611686018427387905 1 = 3)]
  go_wp2_with fail
  refine (Quo_any _ _ _).mono ?_
  rintro e w10 ⟨rfl, hb10⟩
  rw [(by decide : quoQ 5 0 = 0), (by decide : quoR 5 0 = 0), (by decide : quoE 5 0 = 2)]
  go_wp2_with fail
  refine (Sum_any _ _ [] (Is.nil _)).mono ?_
  rintro e w11 ⟨rfl, hb11⟩
  rw [(by decide : sumN [] = 0), (by decide : sumE [] = 0)]
  go_wp2_with fail
  refine (Right_any _ _ [] (Is.nil _)).mono ?_
  rintro e w12 ⟨rfl, rfl⟩
  rw [(by decide : allRight [] = true)]
  go_wp2_with fail
  refine (wakes_any _).mono ?_
  rintro e w12 ⟨rfl, hb12⟩
  go_wp2_with fail
  go_ret
  exact ⟨rfl, (((((((((((hb1.un.next hb2.un).next hb3).next hb4).next hb5).next hb6).next hb7).next hb8).next hb9).next hb10).next hb11).next hb12)⟩

end Cam
