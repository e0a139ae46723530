import Derived.Test.YtdihockdaccmdaaNumP
/- share.Greedy: the plain laws. No program in sight. -/
namespace Cam

def capsOk (l : List Int) : Bool := l.all fun n => decide (0 ≤ n ∧ n ≤ 4611686018427387904)
/-- what is wrong with a total and a list: 3: a number; 5: too many; 0 -/
def rightE (t : Int) (l : List Int) : Int := if (0 ≤ t ∧ t ≤ 4611686018427387904) ∧ capsOk l = true then (if l.length ≤ 1024 then 0 else 5) else 3

def greedyP : Int → List Int → List Int
  | _, [] => []
  | t, c :: l => min c t :: greedyP (t - min c t) l
def greedyR : Int → List Int → Int
  | t, [] => t
  | t, c :: l => greedyR (t - min c t) l

theorem capsOk_iff (l : List Int) : capsOk l = true ↔ ∀ n ∈ l, 0 ≤ n ∧ n ≤ 4611686018427387904 := by simp [capsOk]
theorem greedyP_length (t : Int) (l : List Int) : (greedyP t l).length = l.length := by
  induction l generalizing t with
  | nil => rfl
  | cons c l ih => simp [greedyP, ih]
theorem greedyR_snoc (t : Int) (l : List Int) (c : Int) : greedyR t (l ++ [c]) = greedyR t l - min c (greedyR t l) := by
  induction l generalizing t with
  | nil => rfl
  | cons a l ih => simp [greedyR, ih]
theorem greedyP_snoc (t : Int) (l : List Int) (c : Int) : greedyP t (l ++ [c]) = greedyP t l ++ [min c (greedyR t l)] := by
  induction l generalizing t with
  | nil => rfl
  | cons a l ih => simp [greedyP, greedyR, ih]
theorem greedyR_bounds (t : Int) (l : List Int) (ht : 0 ≤ t) (h : ∀ n ∈ l, 0 ≤ n ∧ n ≤ 4611686018427387904) : 0 ≤ greedyR t l ∧ greedyR t l ≤ t := by
  induction l generalizing t with
  | nil => simp [greedyR, ht]
  | cons a l ih =>
    have h1 := h a (by simp)
    have h2 := ih (t - min a t) (by omega) (fun n hn => h n (by simp [hn]))
    simp only [greedyR]
    omega

theorem rightE_cases (t : Int) (l : List Int) : rightE t l = 3 ∨ rightE t l = 5 ∨ rightE t l = 0 := by
  unfold rightE
  split
  · split <;> simp
  · simp
theorem rightE_zero (t : Int) (l : List Int) (h : rightE t l = 0) : (0 ≤ t ∧ t ≤ 4611686018427387904) ∧ (∀ n ∈ l, 0 ≤ n ∧ n ≤ 4611686018427387904) ∧ l.length ≤ 1024 := by
  unfold rightE at h
  split at h
  · rename_i h1
    split at h
    · rename_i h2
      exact ⟨h1.1, (capsOk_iff l).1 h1.2, h2⟩
    · cases h
  · cases h

end Cam
