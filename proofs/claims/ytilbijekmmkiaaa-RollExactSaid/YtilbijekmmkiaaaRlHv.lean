import Derived.Test.YtilbijekmmkiaaaRlP
/- ch. 11: Heavy. -/
namespace Cam
open Go Go.RowKit Go.Proofs
theorem d100 (n : Nat) : decide ((100 : Int) < (n : Int)) = decide (100 < n) := decide_eq_decide.2 (by omega)
def heavyR (R : RollT) : Bool := decide (100 < R.M.length) || decide (100 < R.I.length) || decide (100 < R.A.length)
theorem heavyR_few {R : RollT} (h : heavyR R = false) : R.M.length ≤ 100 ∧ R.I.length ≤ 100 ∧ R.A.length ≤ 100 := by
 unfold heavyR at h
 simp only [Bool.or_eq_false_iff, decide_eq_false_iff_not, Nat.not_lt] at h
 exact ⟨h.1.1, h.1.2, h.2⟩
set_option maxHeartbeats 1600000 in
theorem Heavy11_any (w : World) (va vb vc : Value) (R : RollT) (h : RollIn w va vb vc R) :
  Calls Try.prog 9 #[.agg #[va, vb, vc]] w fun e w' => e = .returned (.bool (heavyR R)) ∧ Below w.heap.size w w' := by
 obtain ⟨aM, cM, rfl, _, _⟩ := h.1.shape
 obtain ⟨aI, cI, rfl, _, _⟩ := h.2.1.shape
 obtain ⟨aA, cA, rfl, _, _⟩ := h.2.2.shape
 unfold heavyR
 obtain ⟨nM, hM⟩ : ∃ n, n = R.M.length := ⟨_, rfl⟩
 obtain ⟨nI, hI⟩ : ∃ n, n = R.I.length := ⟨_, rfl⟩
 obtain ⟨nA, hA⟩ : ∃ n, n = R.A.length := ⟨_, rfl⟩
 rw [← hM, ← hI, ← hA]
 clear hM hI hA h
 have HB : Hid (Below w.heap.size w (w.alloc (.cells #[.slice aM nM cM, .slice aI nI cI, .slice aA nA cA] 26))) := (Below.refl _ _).alloc (Nat.le_refl _) _
 by_cases h1 : 100 < nM
 ·
  go_enter Try.func9, Try.ntmps9
  go_wp2_with fail
  go_ret
  exact ⟨rfl, HB.out⟩
 ·
  by_cases h2 : 100 < nI
  ·
   go_enter Try.func9, Try.ntmps9
   go_wp2_with fail
   go_ret
   exact ⟨rfl, HB.out⟩
  ·
   by_cases h3 : 100 < nA
   ·
    go_enter Try.func9, Try.ntmps9
    go_wp2_with fail
    go_ret
    exact ⟨by show Ending.returned (.bool (decide ((100 : Int) < nM) || decide ((100 : Int) < nI) || decide ((100 : Int) < nA))) = _; rw [d100, d100, d100], HB.out⟩
   ·
    go_enter Try.func9, Try.ntmps9
    go_wp2_with fail
    go_ret
    exact ⟨by show Ending.returned (.bool (decide ((100 : Int) < nM) || decide ((100 : Int) < nI) || decide ((100 : Int) < nA))) = _; rw [d100, d100, d100], HB.out⟩
end Cam
