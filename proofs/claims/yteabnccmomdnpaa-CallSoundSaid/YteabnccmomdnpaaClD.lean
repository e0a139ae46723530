import Derived.Test.YteabnccmomdnpaaClZ
/- cambistref15.dueLess. -/
namespace Cam
open Go Go.RowKit Go.Proofs

def dLess (aw ac bw bc : Int) : Bool := decide (aw < bw ∨ (aw = bw ∧ ac < bc))
set_option maxHeartbeats 800000 in
theorem dueLess_any (w : World) (aw ac am bw bc bm : Int) : Calls Try.prog 31 #[.agg #[.int .i64 aw, .int .i64 ac, .int .i64 am], .agg #[.int .i64 bw, .int .i64 bc, .int .i64 bm]] w
    fun e w' => e = .returned (.bool (dLess aw ac bw bc)) ∧ Below w.heap.size w w' := by
  have hb : Below w.heap.size w ((w.alloc (.cells #[.int .i64 aw, .int .i64 ac, .int .i64 am] 26)).alloc (.cells #[.int .i64 bw, .int .i64 bc, .int .i64 bm] 26)) := ((Below.refl _ _).alloc (Nat.le_refl _) _).alloc (by simp) _
  have HB := Lib.hid hb
  clear hb
  by_cases h1 : aw < bw
  · have HV : Hid (dLess aw ac bw bc = true) := decide_eq_true (Or.inl h1)
    go_enter Try.func31, Try.ntmps31
    go_wp2_with fail
    go_ret
    exact ⟨by rw [HV.out]; rfl, HB.out⟩
  · by_cases h2 : aw = bw
    · subst h2
      by_cases h3 : ac < bc
      · have HV : Hid (dLess aw ac aw bc = true) := decide_eq_true (Or.inr ⟨rfl, h3⟩)
        clear h1
        go_enter Try.func31, Try.ntmps31
        go_wp2_with fail
        go_ret
        exact ⟨by rw [HV.out]; rfl, HB.out⟩
      · have HV : Hid (dLess aw ac aw bc = false) := decide_eq_false (fun h => by rcases h with h | h <;> omega)
        have h3' : decide (ac < bc) = false := by simpa using h3
        clear h1 h3
        go_enter Try.func31, Try.ntmps31
        go_wp2_with fail
        go_ret
        exact ⟨by rw [HV.out]; rfl, HB.out⟩
    · have HV : Hid (dLess aw ac bw bc = false) := decide_eq_false (fun h => by rcases h with h | h <;> omega)
      have h1' : decide (aw < bw) = false := by simpa using h1
      clear h1
      go_enter Try.func31, Try.ntmps31
      go_wp2_with fail
      go_ret
      exact ⟨by rw [HV.out]; rfl, HB.out⟩

end Cam
