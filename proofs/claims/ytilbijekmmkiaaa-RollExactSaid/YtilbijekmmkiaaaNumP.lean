/- Money, sums by two words: the plain laws. No program in sight. -/
namespace Cam
def rightB (n : Int) : Bool := decide (-4611686018427387904 ≤ n ∧ n ≤ 4611686018427387904)
def allRight (l : List Int) : Bool := l.all rightB
theorem rightB_iff (n : Int) : rightB n = true ↔ -4611686018427387904 ≤ n ∧ n ≤ 4611686018427387904 := by simp [rightB]
theorem allRight_iff (l : List Int) : allRight l = true ↔ ∀ n ∈ l, -4611686018427387904 ≤ n ∧ n ≤ 4611686018427387904 := by
 simp [allRight, rightB_iff]
def Words (hi lo : Nat) (S : Int) : Prop := hi < 18446744073709551616 ∧ lo < 18446744073709551616 ∧ (hi : Int) * 18446744073709551616 + lo = S % 340282366920938463463374607431768211456
theorem Words.zero : Words 0 0 0 := ⟨by decide, by decide, by decide⟩
end Cam
