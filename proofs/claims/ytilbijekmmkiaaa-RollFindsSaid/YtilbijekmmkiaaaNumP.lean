/- Money, sums by two words: the plain laws. No program in sight. -/
namespace Cam

/-- is it money? -/
def rightB (n : Int) : Bool := decide (-4611686018427387904 ≤ n ∧ n ≤ 4611686018427387904)
def allRight (l : List Int) : Bool := l.all rightB

def sumI : List Int → Int
  | [] => 0
  | n :: l => n + sumI l

theorem sumI_append (l m : List Int) : sumI (l ++ m) = sumI l + sumI m := by
  induction l with
  | nil => simp [sumI]
  | cons a l ih => rw [List.cons_append, sumI, ih, sumI]; omega
theorem sumI_snoc (l : List Int) (n : Int) : sumI (l ++ [n]) = sumI l + n := by rw [sumI_append]; simp [sumI]

theorem rightB_iff (n : Int) : rightB n = true ↔ -4611686018427387904 ≤ n ∧ n ≤ 4611686018427387904 := by simp [rightB]
theorem allRight_iff (l : List Int) : allRight l = true ↔ ∀ n ∈ l, -4611686018427387904 ≤ n ∧ n ≤ 4611686018427387904 := by
  simp [allRight, rightB_iff]

/-- the error of a sum: 3: a number is none; 1: the sum is none; 0 -/
def sumE (l : List Int) : Int := if allRight l = true then (if rightB (sumI l) = true then 0 else 1) else 3
def sumN (l : List Int) : Int := if sumE l = 0 then sumI l else 0

def lessE (a b : Int) : Int := if allRight [a, b] = true then (if rightB (a - b) = true then 0 else 1) else 3
def lessN (a b : Int) : Int := if lessE a b = 0 then a - b else 0
def mulE (a b : Int) : Int := if allRight [a, b] = true then (if rightB (a * b) = true then 0 else 1) else 3
def mulN (a b : Int) : Int := if mulE a b = 0 then a * b else 0
def quoE (a b : Int) : Int := if allRight [a, b] = true then (if b = 0 then 2 else 0) else 3
/-- is the quotient, cut towards 0, one too great? -/
def adj (a b : Int) : Bool := decide (a.tmod b ≠ 0 ∧ ((a.tmod b < 0 ∧ 0 ≤ b) ∨ (0 ≤ a.tmod b ∧ b < 0)))
def floorQ (a b : Int) : Int := if adj a b = true then a.tdiv b - 1 else a.tdiv b
def floorR (a b : Int) : Int := if adj a b = true then a.tmod b + b else a.tmod b
def quoQ (a b : Int) : Int := if quoE a b = 0 then floorQ a b else 0
def quoR (a b : Int) : Int := if quoE a b = 0 then floorR a b else 0

theorem tq_bounds (a b : Int) (hb : b ≠ 0) : (a.tdiv b).natAbs ≤ a.natAbs ∧ (a.tmod b).natAbs < b.natAbs ∧ a.tdiv b * b + a.tmod b = a := by
  refine ⟨Int.natAbs_tdiv_le_natAbs _ _, ?_, ?_⟩
  · rw [Int.natAbs_tmod]
    exact Nat.mod_lt _ (by omega)
  · rw [Int.mul_comm]; exact Int.mul_tdiv_add_tmod a b

def partI (a lo hi : Int) : Int := max (min a hi) lo

theorem sumI_bound (l : List Int) (h : allRight l = true) : -(4611686018427387904 * (l.length : Int)) ≤ sumI l ∧ sumI l ≤ 4611686018427387904 * (l.length : Int) := by
  rw [allRight_iff] at h
  induction l with
  | nil => simp [sumI]
  | cons a l ih =>
    have h1 := h a (by simp)
    have h2 := ih (fun n hn => h n (by simp [hn]))
    rw [sumI, List.length_cons]
    omega

/-- a number in two words of 64 bits -/
def Words (hi lo : Nat) (S : Int) : Prop := hi < 18446744073709551616 ∧ lo < 18446744073709551616 ∧ (hi : Int) * 18446744073709551616 + lo = S % 340282366920938463463374607431768211456

theorem Words.zero : Words 0 0 0 := ⟨by decide, by decide, by decide⟩

/-- n's two words: the lower one, the upper one -/
def loW (n : Int) : Nat := (n % 18446744073709551616).toNat
def hiW (n : Int) : Nat := if n < 0 then 18446744073709551615 else 0

theorem loW_lt (n : Int) : loW n < 18446744073709551616 := by unfold loW; omega
theorem hiW_lt (n : Int) : hiW n < 18446744073709551616 := by unfold hiW; split <;> omega

theorem Words.step {hi lo : Nat} {S n : Int} (h : Words hi lo S) (hn : -9223372036854775808 ≤ n ∧ n ≤ 9223372036854775807) :
    Words ((hi + hiW n + (lo + loW n) / 18446744073709551616) % 18446744073709551616) ((lo + loW n) % 18446744073709551616) (S + n) := by
  obtain ⟨h1, h2, h3⟩ := h
  refine ⟨by omega, by omega, ?_⟩
  unfold loW hiW
  split <;> omega

/-- what the two words tell -/
theorem Words.small {hi lo : Nat} {S : Int} (h : Words hi lo S) (hs : -9223372036854775808 ≤ S ∧ S ≤ 9223372036854775807) : lo = loW S ∧ hi = hiW S := by
  obtain ⟨h1, h2, h3⟩ := h
  unfold loW hiW
  split <;> omega

theorem Words.of_small {hi lo : Nat} {S n : Int} (h : Words hi lo S) (hS : -85070591730234615865843651857942052864 ≤ S ∧ S ≤ 85070591730234615865843651857942052864) (hn : -9223372036854775808 ≤ n ∧ n ≤ 9223372036854775807) (h1 : lo = loW n) (h2 : hi = hiW n) : S = n := by
  obtain ⟨h3, h4, h5⟩ := h
  unfold loW at h1
  unfold hiW at h2
  split at h2 <;> omega

theorem two_right (a b : Int) : allRight [a, b] = true ↔ (-4611686018427387904 ≤ a ∧ a ≤ 4611686018427387904) ∧ (-4611686018427387904 ≤ b ∧ b ≤ 4611686018427387904) := by
  rw [allRight_iff]; simp

theorem mul_words (a b : Int) (hr : allRight [a, b] = true) :
    (a.natAbs * b.natAbs / 18446744073709551616 = 0 ∧ a.natAbs * b.natAbs % 18446744073709551616 ≤ 4611686018427387904 →
      mulE a b = 0 ∧ a * b = if (a < 0 ∧ 0 ≤ b) ∨ (0 ≤ a ∧ b < 0) then -((a.natAbs * b.natAbs % 18446744073709551616 : Nat) : Int) else ((a.natAbs * b.natAbs % 18446744073709551616 : Nat) : Int)) ∧
    (¬ (a.natAbs * b.natAbs / 18446744073709551616 = 0 ∧ a.natAbs * b.natAbs % 18446744073709551616 ≤ 4611686018427387904) → mulE a b = 1) := by
  have h0 : (a * b).natAbs = a.natAbs * b.natAbs := Int.natAbs_mul a b
  have h1 : a * b = if (a < 0 ∧ 0 ≤ b) ∨ (0 ≤ a ∧ b < 0) then -((a.natAbs * b.natAbs : Nat) : Int) else ((a.natAbs * b.natAbs : Nat) : Int) := by
    by_cases ha : a < 0
    · have e1 : a = -(a.natAbs : Int) := by omega
      by_cases hb : b < 0
      · have e2 : b = -(b.natAbs : Int) := by omega
        rw [if_neg (by omega), Int.natCast_mul]
        conv => lhs; rw [e1, e2]
        rw [Int.neg_mul_neg]
      · have e2 : b = (b.natAbs : Int) := by omega
        rw [if_pos (by omega), Int.natCast_mul]
        conv => lhs; rw [e1, e2]
        rw [Int.neg_mul]
    · have e1 : a = (a.natAbs : Int) := by omega
      by_cases hb : b < 0
      · have e2 : b = -(b.natAbs : Int) := by omega
        rw [if_pos (by omega), Int.natCast_mul]
        conv => lhs; rw [e1, e2]
        rw [Int.mul_neg]
      · have e2 : b = (b.natAbs : Int) := by omega
        rw [if_neg (by omega), Int.natCast_mul]
        conv => lhs; rw [e1, e2]
  have h2 : rightB (a * b) = true ↔ (a * b).natAbs ≤ 4611686018427387904 := by rw [rightB_iff]; omega
  rw [h0] at h2
  generalize a.natAbs * b.natAbs = m at *
  constructor
  · rintro ⟨h3, h4⟩
    have h5 : m % 18446744073709551616 = m := by omega
    rw [h5] at h4 ⊢
    refine ⟨?_, h1⟩
    unfold mulE
    rw [if_pos hr, if_pos (h2.2 h4)]
  · intro h3
    unfold mulE
    rw [if_pos hr, if_neg]
    intro h4
    have := h2.1 h4
    omega

theorem floor_spec (a b : Int) (hb : b ≠ 0) : floorQ a b * b + floorR a b = a ∧ (0 < b → 0 ≤ floorR a b ∧ floorR a b < b) ∧ (b < 0 → b < floorR a b ∧ floorR a b ≤ 0) := by
  obtain ⟨h1, h2, h3⟩ := tq_bounds a b hb
  unfold floorQ floorR
  have h4 : adj a b = decide (a.tmod b ≠ 0 ∧ ((a.tmod b < 0 ∧ 0 ≤ b) ∨ (0 ≤ a.tmod b ∧ b < 0))) := rfl
  generalize a.tmod b = r at *
  generalize a.tdiv b = q at *
  cases h : adj a b with
  | true =>
    rw [h] at h4
    have h5 := of_decide_eq_true h4.symm
    rw [if_pos rfl, if_pos rfl, Int.sub_mul, Int.one_mul]
    omega
  | false =>
    rw [h] at h4
    have h5 := of_decide_eq_false h4.symm
    simp only [Bool.false_eq_true, if_false]
    omega

theorem quo_mul (a b : Int) (h : allRight [a * b, b] = true) (hb : b ≠ 0) : quoE (a * b) b = 0 ∧ quoQ (a * b) b = a ∧ quoR (a * b) b = 0 := by
  have e0 : quoE (a * b) b = 0 := by simp [quoE, h, hb]
  have e1 : (a * b).tmod b = 0 := Int.mul_tmod_left a b
  have e2 : (a * b).tdiv b = a := Int.mul_tdiv_cancel a hb
  have e3 : adj (a * b) b = false := by simp [adj, e1]
  refine ⟨e0, ?_, ?_⟩
  · simp [quoQ, e0, floorQ, e3, e2]
  · simp [quoR, e0, floorR, e3, e1]

theorem quo_cases (a b : Int) : (quoE a b = 3 ∧ quoQ a b = 0 ∧ quoR a b = 0) ∨ (quoE a b = 2 ∧ quoQ a b = 0 ∧ quoR a b = 0) ∨
    (quoE a b = 0 ∧ quoQ a b = floorQ a b ∧ quoR a b = floorR a b ∧ b ≠ 0 ∧ allRight [a, b] = true) := by
  cases h : allRight [a, b] with
  | false => left; simp [quoE, quoQ, quoR, h]
  | true =>
    by_cases hb : b = 0
    · subst hb; right; left; simp [quoE, quoQ, quoR, h]
    · right; right; simp [quoE, quoQ, quoR, h, hb]

theorem mul_cases (a b : Int) : (mulE a b = 3 ∧ mulN a b = 0 ∧ allRight [a, b] = false) ∨ (mulE a b = 1 ∧ mulN a b = 0 ∧ allRight [a, b] = true ∧ rightB (a * b) = false) ∨ (mulE a b = 0 ∧ mulN a b = a * b ∧ allRight [a, b] = true ∧ rightB (a * b) = true) := by
  cases h : allRight [a, b] with
  | false => left; simp [mulE, mulN, h]
  | true =>
    cases h2 : rightB (a * b) with
    | false => right; left; simp [mulE, mulN, h, h2]
    | true => right; right; simp [mulE, mulN, h, h2]

theorem sum_cases (l : List Int) : (sumE l = 3 ∧ sumN l = 0 ∧ allRight l = false) ∨ (sumE l = 1 ∧ sumN l = 0 ∧ allRight l = true ∧ rightB (sumI l) = false) ∨ (sumE l = 0 ∧ sumN l = sumI l ∧ allRight l = true ∧ rightB (sumI l) = true) := by
  cases h : allRight l with
  | false => left; simp [sumE, sumN, h]
  | true =>
    cases h2 : rightB (sumI l) with
    | false => right; left; simp [sumE, sumN, h, h2]
    | true => right; right; simp [sumE, sumN, h, h2]

theorem less_cases (a b : Int) : (lessE a b = 3 ∧ lessN a b = 0 ∧ allRight [a, b] = false) ∨ (lessE a b = 1 ∧ lessN a b = 0 ∧ allRight [a, b] = true ∧ rightB (a - b) = false) ∨ (lessE a b = 0 ∧ lessN a b = a - b ∧ allRight [a, b] = true ∧ rightB (a - b) = true) := by
  cases h : allRight [a, b] with
  | false => left; simp [lessE, lessN, h]
  | true =>
    cases h2 : rightB (a - b) with
    | false => right; left; simp [lessE, lessN, h, h2]
    | true => right; right; simp [lessE, lessN, h, h2]

theorem allRight_append (l m : List Int) : allRight (l ++ m) = (allRight l && allRight m) := by simp [allRight]
theorem allRight_rev (l : List Int) : allRight l.reverse = allRight l := by simp [allRight]
theorem sumI_rev (l : List Int) : sumI l.reverse = sumI l := by
  induction l with
  | nil => rfl
  | cons a l ih => rw [List.reverse_cons, sumI_snoc, ih, sumI]; omega
theorem sumE_rev (l : List Int) : sumE l.reverse = sumE l := by unfold sumE; rw [allRight_rev, sumI_rev]
theorem sumN_rev (l : List Int) : sumN l.reverse = sumN l := by unfold sumN; rw [sumE_rev, sumI_rev]

theorem sum_two (l m : List Int) (h1 : sumE l = 0) (h2 : sumE m = 0) : sumE [sumN l, sumN m] = sumE (l ++ m) ∧ sumN [sumN l, sumN m] = sumN (l ++ m) := by
  rcases sum_cases l with ⟨a1, _⟩ | ⟨a1, _⟩ | ⟨_, a2, a3, a4⟩
  · rw [h1] at a1; cases a1
  · rw [h1] at a1; cases a1
  rcases sum_cases m with ⟨b1, _⟩ | ⟨b1, _⟩ | ⟨_, b2, b3, b4⟩
  · rw [h2] at b1; cases b1
  · rw [h2] at b1; cases b1
  rw [a2, b2]
  have e1 : allRight [sumI l, sumI m] = true := by simp [allRight, a4, b4]
  have e2 : allRight (l ++ m) = true := by rw [allRight_append, a3, b3]; rfl
  have e3 : sumI [sumI l, sumI m] = sumI (l ++ m) := by rw [sumI_append]; simp [sumI]
  have e4 : sumE [sumI l, sumI m] = sumE (l ++ m) := by unfold sumE; rw [e1, e2, e3]
  refine ⟨e4, ?_⟩
  unfold sumN
  rw [e4, e3]

theorem less_back (a b : Int) (h : sumE [a, b] = 0) : lessE (sumN [a, b]) b = 0 ∧ lessN (sumN [a, b]) b = a := by
  rcases sum_cases [a, b] with ⟨a1, _⟩ | ⟨a1, _⟩ | ⟨_, a2, a3, a4⟩
  · rw [h] at a1; cases a1
  · rw [h] at a1; cases a1
  have e1 : sumI [a, b] = a + b := by simp [sumI]
  rw [a2, e1]
  rw [e1, rightB_iff] at a4
  rw [two_right] at a3
  have e2 : allRight [a + b, b] = true := by rw [two_right]; omega
  have e3 : a + b - b = a := by omega
  have e4 : rightB a = true := by rw [rightB_iff]; omega
  have e5 : lessE (a + b) b = 0 := by unfold lessE; rw [e2, e3, e4]; rfl
  exact ⟨e5, by unfold lessN; rw [e5, e3]; rfl⟩

end Cam
