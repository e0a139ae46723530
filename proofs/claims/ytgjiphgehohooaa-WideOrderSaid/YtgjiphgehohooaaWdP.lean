import Derived.Test.YtgjiphgehohooaaNumP
/- Wides: the plain laws. No program in sight. -/
namespace Cam

/-- v's two words -/
def wHi (v : Int) : Int := v / 18446744073709551616
def wLo (v : Int) : Int := v % 18446744073709551616
/-- is it a wide? -/
def isWide (v : Int) : Bool := decide (-170141183460469231731687303715884105728 ≤ v ∧ v ≤ 170141183460469231731687303715884105727)
/-- hi and lo are v's words -/
def IsW (hi lo v : Int) : Prop := (-9223372036854775808 ≤ hi ∧ hi ≤ 9223372036854775807) ∧ (0 ≤ lo ∧ lo ≤ 18446744073709551615) ∧ v = hi * 18446744073709551616 + lo

theorem isWide_iff (v : Int) : isWide v = true ↔ -170141183460469231731687303715884105728 ≤ v ∧ v ≤ 170141183460469231731687303715884105727 := by simp [isWide]
theorem IsW.wide {hi lo v : Int} (h : IsW hi lo v) : isWide v = true := by
  unfold IsW at h
  rw [isWide_iff]
  omega
theorem IsW.words {hi lo v : Int} (h : IsW hi lo v) : wHi v = hi ∧ wLo v = lo := by
  unfold IsW at h
  unfold wHi wLo
  omega
theorem IsW.of {v : Int} (h : isWide v = true) : IsW (wHi v) (wLo v) v := by
  rw [isWide_iff] at h
  unfold IsW wHi wLo
  omega
theorem IsW.eq {hi lo v hi' lo' v' : Int} (h : IsW hi lo v) (h' : IsW hi' lo' v') : v = v' ↔ hi = hi' ∧ lo = lo' := by
  unfold IsW at h h'
  omega
theorem IsW.lt {hi lo v hi' lo' v' : Int} (h : IsW hi lo v) (h' : IsW hi' lo' v') : v < v' ↔ hi < hi' ∨ hi = hi' ∧ lo < lo' := by
  unfold IsW at h h'
  omega
theorem IsW.num (n : Int) (h : -9223372036854775808 ≤ n ∧ n ≤ 9223372036854775807) : IsW (if n < 0 then -1 else 0) (n % 18446744073709551616) n := by
  unfold IsW
  split <;> omega
theorem IsW.num' (n : Int) (h : -9223372036854775808 ≤ n ∧ n ≤ 9223372036854775807) : IsW (n / 9223372036854775808) (n % 18446744073709551616) n := by
  unfold IsW
  omega

/-- a wide as money: the number, the error -/
def wInt (v : Int) : Int := if rightB v = true then v else 0
def wIntE (v : Int) : Int := if rightB v = true then 0 else 1

/-- the product of two numbers by their words -/
theorem mul_shift (a b x y : Int) (hx : x = a ∨ x = a + 18446744073709551616) (hy : y = b ∨ y = b + 18446744073709551616) :
    x * y = a * b + (if x = a then 0 else b) * 18446744073709551616 + (if y = b then 0 else a) * 18446744073709551616 + (if x = a ∨ y = b then 0 else 340282366920938463463374607431768211456) := by
  rcases hx with rfl | rfl
  · rcases hy with rfl | rfl
    · simp
    · rw [if_pos rfl, if_neg (by omega), if_pos (.inl rfl), Int.mul_add]
      omega
  · rcases hy with rfl | rfl
    · rw [if_neg (by omega), if_pos rfl, if_pos (.inr rfl), Int.add_mul]
      have := Int.mul_comm 18446744073709551616 y
      omega
    · rw [if_neg (by omega), if_neg (by omega), if_neg (by omega), Int.add_mul, Int.mul_add, Int.mul_add]
      have := Int.mul_comm 18446744073709551616 b
      omega

theorem prod_bound (a b : Int) (ha : -9223372036854775808 ≤ a ∧ a ≤ 9223372036854775807) (hb : -9223372036854775808 ≤ b ∧ b ≤ 9223372036854775807) :
    -85070591730234615865843651857942052864 ≤ a * b ∧ a * b ≤ 85070591730234615865843651857942052864 := by
  have h : (a * b).natAbs ≤ 9223372036854775808 * 9223372036854775808 := by
    rw [Int.natAbs_mul]
    exact Nat.mul_le_mul (by omega) (by omega)
  omega

/-- Times: with x, y the numbers' words, and what was taken for 2^64 more taken off -/
theorem times_words (a b x y h l : Int) (ha : -9223372036854775808 ≤ a ∧ a ≤ 9223372036854775807) (hb : -9223372036854775808 ≤ b ∧ b ≤ 9223372036854775807)
    (hx : x = a % 18446744073709551616) (hy : y = b % 18446744073709551616) (hh : h = x * y / 18446744073709551616) (hl : l = x * y % 18446744073709551616) :
    wLo (a * b) = l ∧ (∃ k, h - (if a < 0 then y else 0) - (if b < 0 then x else 0) = wHi (a * b) + k * 18446744073709551616) ∧ isWide (a * b) = true := by
  have hm := mul_shift a b x y (by omega) (by omega)
  have hp := prod_bound a b ha hb
  rw [isWide_iff]
  generalize a * b = P at *
  rw [hm] at hh hl
  unfold wLo wHi
  by_cases h1 : a < 0
  · have e1 : ¬ x = a := by omega
    by_cases h2 : b < 0
    · have e2 : ¬ y = b := by omega
      rw [if_neg e1, if_neg e2, if_neg (by omega)] at hh hl
      rw [if_pos h1, if_pos h2]
      exact ⟨by omega, ⟨-1, by omega⟩, by omega⟩
    · have e2 : y = b := by omega
      rw [if_neg e1, if_pos e2, if_pos (by omega)] at hh hl
      rw [if_pos h1, if_neg h2]
      exact ⟨by omega, ⟨0, by omega⟩, by omega⟩
  · have e1 : x = a := by omega
    by_cases h2 : b < 0
    · have e2 : ¬ y = b := by omega
      rw [if_pos e1, if_neg e2, if_pos (by omega)] at hh hl
      rw [if_neg h1, if_pos h2]
      exact ⟨by omega, ⟨0, by omega⟩, by omega⟩
    · have e2 : y = b := by omega
      rw [if_pos e1, if_pos e2, if_pos (by omega)] at hh hl
      rw [if_neg h1, if_neg h2]
      exact ⟨by omega, ⟨0, by omega⟩, by omega⟩

/-- three words of 64 bits -/
def Words3 (top mid lo : Nat) (S : Int) : Prop := top < 18446744073709551616 ∧ mid < 18446744073709551616 ∧ lo < 18446744073709551616 ∧
  (top : Int) * 340282366920938463463374607431768211456 + (mid : Int) * 18446744073709551616 + lo = S % 6277101735386680763835789423207666416102355444464034512896
theorem Words3.zero : Words3 0 0 0 0 := ⟨by decide, by decide, by decide, by decide⟩
theorem Words3.step {top mid lo : Nat} {S hi l v : Int} (h : Words3 top mid lo S) (hv : IsW hi l v) (x y z : Nat) (hx : (x : Int) = l) (hy : (y : Int) = hi % 18446744073709551616) (hz : z = hiW hi) :
    Words3 ((top + z + (mid + y + (lo + x) / 18446744073709551616) / 18446744073709551616) % 18446744073709551616) ((mid + y + (lo + x) / 18446744073709551616) % 18446744073709551616) ((lo + x) % 18446744073709551616) (S + v) := by
  unfold Words3 IsW at *
  unfold hiW at hz
  split at hz <;> omega
/-- what three words tell -/
theorem Words3.wide {top mid lo : Nat} {S n : Int} (h : Words3 top mid lo S) (hS : -1569275433846670190958947355801916604025588861116008628224 ≤ S ∧ S ≤ 1569275433846670190958947355801916604025588861116008628224)
    (hn : -9223372036854775808 ≤ n ∧ n ≤ 9223372036854775807) (hk : n = (mid : Int) ∨ n = (mid : Int) - 18446744073709551616) :
    ((top : Int) = (n / 9223372036854775808) % 18446744073709551616 → IsW n lo S) ∧ (¬ (top : Int) = (n / 9223372036854775808) % 18446744073709551616 → isWide S = false) := by
  unfold Words3 at h
  obtain ⟨h1, h2, h3, h4⟩ := h
  constructor
  · intro ht
    unfold IsW
    refine ⟨hn, by omega, ?_⟩
    rcases hk with hk | hk
    · have : (top : Int) = 0 := by omega
      omega
    · have : (top : Int) = 18446744073709551615 := by omega
      omega
  · intro ht
    rw [Bool.eq_false_iff, Ne, isWide_iff]
    intro hw
    apply ht
    rcases hk with hk | hk
    · have : n / 9223372036854775808 = 0 := by omega
      rw [this]
      omega
    · have : n / 9223372036854775808 = -1 := by omega
      rw [this]
      omega

/-- a sum of wides: the answer, the error -/
def wSum (l : List Int) : Int := if isWide (sumI l) = true then sumI l else 0
def wSumE (l : List Int) : Int := if isWide (sumI l) = true then 0 else 1

theorem sumW_bound (l : List Int) (h : ∀ x ∈ l, isWide x = true) : -(170141183460469231731687303715884105728 * (l.length : Int)) ≤ sumI l ∧ sumI l ≤ 170141183460469231731687303715884105728 * (l.length : Int) := by
  induction l with
  | nil => simp [sumI]
  | cons a l ih =>
    have h1 := (isWide_iff a).1 (h a (by simp))
    have h2 := ih (fun n hn => h n (by simp [hn]))
    rw [sumI, List.length_cons]
    omega

/-- a quotient: 2: the divisor is not above 0; 1: the quotient is no money; 0 -/
def wQuoE (v n : Int) : Int := if n ≤ 0 then 2 else if rightB (v / n) = true then 0 else 1
def wQuo (v n : Int) : Int := if wQuoE v n = 0 then v / n else 0
def wRem (v n : Int) : Int := if wQuoE v n = 0 then v % n else 0

end Cam
