import Derived.Test.YtgjiphgehohooaaNumP
/- Division of two words by one: the plain laws. No program in sight. -/
namespace Cam

/-- what is held while a digit is guessed: U, u are divided by y1, y0 (halves); q is the guess, r what is left of U beside it -/
def Guess (U u y1 y0 q r : Nat) : Prop :=
  (2147483648 ≤ y1 ∧ y1 < 4294967296) ∧ y0 < 4294967296 ∧ u < 4294967296 ∧ U < y1 * 4294967296 + y0 ∧
  q * y1 + r = U ∧ r < 4294967296 ∧ q ≤ 4294967297 ∧ (U * 4294967296 + u) / (y1 * 4294967296 + y0) ≤ q

theorem guess_start (U u y1 y0 : Nat) (h1 : 2147483648 ≤ y1 ∧ y1 < 4294967296) (h0 : y0 < 4294967296) (hu : u < 4294967296) (hU : U < y1 * 4294967296 + y0) :
    Guess U u y1 y0 (U / y1) (U % y1) := by
  have hp : 0 < y1 := by omega
  have hm := Nat.mod_lt U hp
  have hd : U / y1 * y1 + U % y1 = U := by rw [Nat.mul_comm]; exact Nat.div_add_mod U y1
  refine ⟨h1, h0, hu, hU, hd, by omega, ?_, ?_⟩
  · have hlt : U < (4294967297 + 1) * y1 := by omega
    have := Nat.div_lt_of_lt_mul (by rw [Nat.mul_comm] at hlt; exact hlt)
    omega
  · rw [Nat.le_div_iff_mul_le hp]
    have hq := Nat.div_mul_le_self (U * 4294967296 + u) (y1 * 4294967296 + y0)
    generalize (U * 4294967296 + u) / (y1 * 4294967296 + y0) = q at *
    rw [Nat.mul_add, ← Nat.mul_assoc] at hq
    generalize q * y1 = z at *
    omega

/-- the test holds: the guess is too great -/
theorem guess_high {U u y1 y0 q r : Nat} (h : Guess U u y1 y0 q r) (ht : 4294967296 ≤ q ∨ 4294967296 * r + u < q * y0) :
    (U * 4294967296 + u) / (y1 * 4294967296 + y0) < q := by
  obtain ⟨⟨h1, h1'⟩, h0, hu, hU, hq, hr, hq2, hle⟩ := h
  have hp : 0 < y1 * 4294967296 + y0 := by omega
  rw [Nat.div_lt_iff_lt_mul hp]
  rcases ht with ht | ht
  · have h4 : 4294967296 * (y1 * 4294967296 + y0) ≤ q * (y1 * 4294967296 + y0) := Nat.mul_le_mul_right _ ht
    generalize q * (y1 * 4294967296 + y0) = z at *
    omega
  · rw [Nat.mul_add, ← Nat.mul_assoc]
    generalize q * y1 = z at *
    generalize q * y0 = z' at *
    omega

/-- the test fails: the guess is right -/
theorem guess_right {U u y1 y0 q r : Nat} (h : Guess U u y1 y0 q r) (ht : q * y0 ≤ 4294967296 * r + u) :
    (U * 4294967296 + u) / (y1 * 4294967296 + y0) = q := by
  obtain ⟨⟨h1, h1'⟩, h0, hu, hU, hq, hr, hq2, hle⟩ := h
  have hp : 0 < y1 * 4294967296 + y0 := by omega
  refine Nat.le_antisymm hle ?_
  rw [Nat.le_div_iff_mul_le hp, Nat.mul_add, ← Nat.mul_assoc]
  generalize q * y1 = z at *
  generalize q * y0 = z' at *
  omega

/-- one less -/
theorem guess_next {U u y1 y0 q r : Nat} (h : Guess U u y1 y0 (q + 1) r) (hlt : (U * 4294967296 + u) / (y1 * 4294967296 + y0) < q + 1) :
    (r + y1 < 4294967296 → Guess U u y1 y0 q (r + y1)) ∧ (4294967296 ≤ r + y1 → (U * 4294967296 + u) / (y1 * 4294967296 + y0) = q) := by
  obtain ⟨⟨h1, h1'⟩, h0, hu, hU, hq, hr, hq2, hle⟩ := h
  rw [Nat.add_mul, Nat.one_mul] at hq
  refine ⟨fun hs => ⟨⟨h1, h1'⟩, h0, hu, hU, by omega, hs, by omega, by omega⟩, fun hs => ?_⟩
  refine Nat.le_antisymm (by omega) ?_
  have hp : 0 < y1 * 4294967296 + y0 := by omega
  rw [Nat.le_div_iff_mul_le hp, Nat.mul_add, ← Nat.mul_assoc]
  have hy : q * y0 ≤ 4294967296 * 4294967295 := Nat.mul_le_mul (by omega) (by omega)
  generalize q * y1 = z at *
  generalize q * y0 = z' at *
  omega

/-- the words that are divided, shifted -/
theorem shift_words (H L N P K : Nat) (hL : L < 18446744073709551616) (hHN : H < N) (hP : 0 < P) (hPK : P * K = 18446744073709551616) :
    H * P + L / K < N * P ∧ L / K < P ∧ (H * P + L / K) * 18446744073709551616 + L * P % 18446744073709551616 = (H * 18446744073709551616 + L) * P := by
  have hK : 0 < K := by
    refine Nat.pos_of_ne_zero (fun h => ?_)
    rw [h, Nat.mul_zero] at hPK
    omega
  have h1 : L / K < P := by
    rw [Nat.div_lt_iff_lt_mul hK]
    omega
  have h2 : (H + 1) * P ≤ N * P := Nat.mul_le_mul_right _ hHN
  rw [Nat.add_mul, Nat.one_mul] at h2
  refine ⟨by omega, h1, ?_⟩
  have h3 : L * P / 18446744073709551616 = L / K := by
    rw [← hPK, Nat.mul_comm P K, Nat.mul_div_mul_right _ _ hP]
  have h4 := Nat.div_add_mod (L * P) 18446744073709551616
  rw [h3] at h4
  rw [Nat.add_mul (H * 18446744073709551616) L P, Nat.mul_right_comm H 18446744073709551616 P, Nat.add_mul]
  omega

/-- two digits of a quotient -/
theorem two_digits (U V Y q1 r1 q0 r0 : Nat) (hY : 0 < Y) (h1 : (U * 4294967296 + V / 4294967296) / Y = q1) (h2 : (U * 4294967296 + V / 4294967296) % Y = r1)
    (h3 : (r1 * 4294967296 + V % 4294967296) / Y = q0) (h4 : (r1 * 4294967296 + V % 4294967296) % Y = r0) :
    (U * 18446744073709551616 + V) / Y = q1 * 4294967296 + q0 ∧ (U * 18446744073709551616 + V) % Y = r0 := by
  have a1 := Nat.div_add_mod (U * 4294967296 + V / 4294967296) Y
  have a2 := Nat.div_add_mod (r1 * 4294967296 + V % 4294967296) Y
  rw [h1, h2] at a1
  rw [h3, h4] at a2
  have hr : r0 < Y := by rw [← h4]; exact Nat.mod_lt _ hY
  have e : U * 18446744073709551616 + V = r0 + Y * (q1 * 4294967296 + q0) := by
    rw [Nat.mul_add, ← Nat.mul_assoc]
    generalize Y * q1 = z at *
    generalize Y * q0 = z' at *
    omega
  rw [e]
  exact ⟨by rw [Nat.add_mul_div_left _ _ hY, Nat.div_eq_of_lt hr, Nat.zero_add], by rw [Nat.add_mul_mod_self_left, Nat.mod_eq_of_lt hr]⟩

/-- back from the shift -/
theorem shift_back (D N P : Nat) (hP : 0 < P) : D * P / (N * P) = D / N ∧ D * P % (N * P) / P = D % N := by
  rw [Nat.mul_div_mul_right _ _ hP, Nat.mul_mod_mul_right, Nat.mul_div_cancel _ hP]
  exact ⟨rfl, rfl⟩

end Cam
