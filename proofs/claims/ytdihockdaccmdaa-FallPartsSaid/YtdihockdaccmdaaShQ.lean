import Derived.Test.YtdihockdaccmdaaShP
/- falls: more plain laws. No program in sight. -/
namespace Cam

theorem greedyR_take (t : Int) (l : List Int) (k : Nat) (h : k < l.length) : greedyR t (l.take (k + 1)) = greedyR t (l.take k) - min (l.getD k 0) (greedyR t (l.take k)) := by
  induction l generalizing t k with
  | nil => cases h
  | cons c l ih =>
    cases k with
    | zero => simp [greedyR]
    | succ k => simpa [greedyR] using ih (t - min c t) k (by simpa using h)
theorem greedyP_getD (t : Int) (l : List Int) (k : Nat) (h : k < l.length) : (greedyP t l).getD k 0 = min (l.getD k 0) (greedyR t (l.take k)) := by
  induction l generalizing t k with
  | nil => cases h
  | cons c l ih =>
    cases k with
    | zero => simp [greedyP, greedyR]
    | succ k => simpa [greedyP, greedyR] using ih (t - min c t) k (by simpa using h)
theorem greedy_sum (t : Int) (l : List Int) : (greedyP t l).sum + greedyR t l = t := by
  induction l generalizing t with
  | nil => simp [greedyP, greedyR]
  | cons c l ih =>
    have := ih (t - min c t)
    simp only [greedyP, greedyR, List.sum_cons]
    omega
theorem greedyR_mono (t u : Int) (l : List Int) (h : t ≤ u) : greedyR t l ≤ greedyR u l := by
  induction l generalizing t u with
  | nil => simpa [greedyR] using h
  | cons c l ih => exact ih _ _ (by omega)
theorem greedyP_mono (t u : Int) (l : List Int) (h : t ≤ u) (k : Nat) : (greedyP t l).getD k 0 ≤ (greedyP u l).getD k 0 := by
  induction l generalizing t u k with
  | nil => simp [greedyP]
  | cons c l ih =>
    cases k with
    | zero => simp [greedyP]; omega
    | succ k => simpa [greedyP] using ih _ _ (by omega) k
/-- a greater cap leaves no more -/
theorem greedyR_set (t : Int) (l : List Int) (k : Nat) (c : Int) (hc : l.getD k 0 ≤ c) : greedyR t (l.set k c) ≤ greedyR t l := by
  induction l generalizing t k with
  | nil => simp
  | cons a l ih =>
    cases k with
    | zero =>
      simp at hc
      simpa [greedyR] using greedyR_mono _ _ l (by omega)
    | succ k => simpa [greedyR] using ih _ k (by simpa using hc)
theorem greedyP_set (t : Int) (l : List Int) (k : Nat) (c : Int) (hc : l.getD k 0 ≤ c) (i : Nat) (hi : k < i) : (greedyP t (l.set k c)).getD i 0 ≤ (greedyP t l).getD i 0 := by
  induction l generalizing t k i with
  | nil => simp
  | cons a l ih =>
    cases i with
    | zero => omega
    | succ i =>
      cases k with
      | zero =>
        simp at hc
        simpa [greedyP] using greedyP_mono _ _ l (by omega) i
      | succ k => simpa [greedyP] using ih _ k (by simpa using hc) i (by omega)
theorem greedyR_low (t : Int) (l : List Int) (ht : 0 ≤ t) (hl : ∀ n ∈ l, 0 ≤ n) : 0 ≤ greedyR t l ∧ greedyR t l ≤ t := by
  induction l generalizing t with
  | nil => simp [greedyR, ht]
  | cons d l ih2 =>
    have := ih2 (t - min d t) (by have := hl d (by simp); omega) (fun n hn => hl n (by simp [hn]))
    have := hl d (by simp)
    simp only [greedyR]
    omega
/-- a loss in two parts -/
theorem greedyR_parts (a b : Int) (l : List Int) (ha : 0 ≤ a) (hb : 0 ≤ b) (hl : ∀ n ∈ l, 0 ≤ n) : greedyR (greedyR a l + b) (List.zipWith (· - ·) l (greedyP a l)) = greedyR (a + b) l := by
  induction l generalizing a b with
  | nil => simp [greedyR]
  | cons c l ih =>
    have hc := hl c (by simp)
    have h0 := greedyR_low a _ ha hl
    simp only [greedyR, greedyP, List.zipWith_cons_cons] at h0 ⊢
    by_cases hlt : c < a
    · have h1 : min c a = c := by omega
      rw [h1] at h0 ⊢
      have e1 : min (c - c) (greedyR (a - c) l + b) = 0 := by omega
      have e2 : min c (a + b) = c := by omega
      rw [e1, e2, show a + b - c = (a - c) + b by omega, Int.sub_zero]
      exact ih (a - c) b (by omega) hb (fun n hn => hl n (by simp [hn]))
    · have h1 : min c a = a := by omega
      rw [h1, Int.sub_self] at h0 ⊢
      have hz : greedyR 0 l = 0 := by have := greedyR_low 0 l (by omega) (fun n hn => hl n (by simp [hn])); omega
      have hr := ih 0 (b - min (c - a) b) (by omega) (by omega) (fun n hn => hl n (by simp [hn]))
      rw [hz, Int.zero_add] at hr ⊢
      rw [hr]
      congr 1
      omega
theorem greedyP_parts (a b : Int) (l : List Int) (ha : 0 ≤ a) (hb : 0 ≤ b) (hl : ∀ n ∈ l, 0 ≤ n) (k : Nat) : (greedyP a l).getD k 0 + (greedyP (greedyR a l + b) (List.zipWith (· - ·) l (greedyP a l))).getD k 0 = (greedyP (a + b) l).getD k 0 := by
  induction l generalizing a b k with
  | nil => simp [greedyP]
  | cons c l ih =>
    have hc := hl c (by simp)
    have h0 := greedyR_low a _ ha hl
    have hl2 : ∀ n ∈ l, 0 ≤ n := fun n hn => hl n (by simp [hn])
    simp only [greedyR, greedyP, List.zipWith_cons_cons] at h0 ⊢
    by_cases hlt : c < a
    · have h1 : min c a = c := by omega
      rw [h1] at h0 ⊢
      have e1 : min (c - c) (greedyR (a - c) l + b) = 0 := by omega
      have e2 : min c (a + b) = c := by omega
      rw [e1, e2, show a + b - c = (a - c) + b by omega, Int.sub_zero]
      cases k with
      | zero => simp
      | succ k => simpa using ih (a - c) b (by omega) hb hl2 k
    · have h1 : min c a = a := by omega
      rw [h1, Int.sub_self] at h0 ⊢
      have hz : greedyR 0 l = 0 := by have := greedyR_low 0 l (by omega) (fun n hn => hl n (by simp [hn])); omega
      have hr := ih 0 (b - min (c - a) b) (by omega) (by omega) hl2
      rw [hz, Int.zero_add] at hr ⊢
      cases k with
      | zero => simp; omega
      | succ k =>
        have h3 := hr k
        have e3 : a + b - min c (a + b) = b - min (c - a) b := by omega
        rw [e3]
        simpa using h3

end Cam
