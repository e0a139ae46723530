import Derived.Test.YtdihockdaccmdaaFits
/- cambistlaw20.wakes. -/
namespace Cam
open Go Go.RowKit Go.Proofs

theorem Is.lit5 {w : World} {g : Nat} (hg : g = w.heap.size) (a b c d f : Int) (e : TypeId) : Is (w.alloc (.cells #[.int .i64 a, .int .i64 b, .int .i64 c, .int .i64 d, .int .i64 f] e)) (.slice (some ⟨g, 0, none⟩) 5 5) [a, b, c, d, f] := Is.block (l := [a, b, c, d, f]) (heap_new hg) (Nat.le_refl _) (by simp [maxLen])

set_option maxHeartbeats 800000 in
theorem wakes_any (w : World) : Calls Try.prog 9 #[] w fun e w' => e = .returned (.bool true) ∧ Below w.heap.size w w' := by
  go_enter Try.func9, Try.ntmps9
  go_wp2_with fail
  refine (Share_ok _ 0 100 _ [30, 20, 10, 25, 50] (Is.lit5 rfl _ _ _ _ _ _) (by decide)).mono ?_
  rintro e w1 ⟨q0, q1, q2, q3, q4, hq, rfl, hb⟩
  have hq2 : q0 = 30 ∧ q1 = 20 ∧ q2 = 10 ∧ q3 = 25 ∧ q4 = 15 := by
    have h : greedyP 100 [30, 20, 10, 25, 50] = [30, 20, 10, 25, 15] := by decide
    rw [h] at hq
    simpa [eq_comm] using hq
  obtain ⟨rfl, rfl, rfl, rfl, rfl⟩ := hq2
  clear hq
  rw [(by decide : greedyR 100 [30, 20, 10, 25, 50] = 0)]
  unfold fallV
  go_wp2_with fail
  refine (Fits_any _ 0 100 30 20 10 25 15 0 _ [30, 20, 10, 25, 50] (Is.lit5 (by simp) _ _ _ _ _ _)).mono ?_
  rintro e w2 ⟨rfl, hb2⟩
  rw [(by decide : fitsB 0 100 [30, 20, 10, 25, 15] 0 [30, 20, 10, 25, 50] = true)]
  go_wp2_with fail
  go_ret
  exact ⟨rfl, (hb.un.alloc hb.un.size _).next hb2.un⟩

end Cam
