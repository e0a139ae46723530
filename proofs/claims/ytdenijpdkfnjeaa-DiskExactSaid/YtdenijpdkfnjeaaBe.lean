/- Numbers as bytes, the highest first. No program in sight. -/
namespace Cam

theorem take_snoc {α : Type} (l : List α) (k : Nat) (h : k < l.length) : l.take (k + 1) = l.take k ++ [l[k]] := by
  rw [List.take_succ_eq_append_getElem h]

/-- the number of bytes, the highest first -/
def unbe (l : List UInt8) : Nat := l.foldl (fun x c => x * 256 + c.toNat) 0

theorem unbe_snoc (l : List UInt8) (c : UInt8) : unbe (l ++ [c]) = unbe l * 256 + c.toNat := by simp [unbe]

theorem unbe_foldl (m : List UInt8) (x : Nat) : m.foldl (fun x c => x * 256 + c.toNat) x = x * 256 ^ m.length + unbe m := by
  induction m generalizing x with
  | nil => simp [unbe]
  | cons c m ih =>
    have e : unbe (c :: m) = c.toNat * 256 ^ m.length + unbe m := by
      have := ih (0 * 256 + c.toNat)
      simpa [unbe] using this
    rw [List.foldl_cons, ih, List.length_cons, e, Nat.pow_succ, Nat.add_mul]
    have : x * 256 * 256 ^ m.length = x * (256 ^ m.length * 256) := by ac_rfl
    omega

theorem unbe_cons (c : UInt8) (l : List UInt8) : unbe (c :: l) = c.toNat * 256 ^ l.length + unbe l := by
  conv => lhs; unfold unbe
  rw [List.foldl_cons, unbe_foldl]
  simp

theorem unbe_append (l m : List UInt8) : unbe (l ++ m) = unbe l * 256 ^ m.length + unbe m := by
  conv => lhs; unfold unbe
  rw [List.foldl_append, unbe_foldl]
  rfl

theorem unbe_lt (l : List UInt8) : unbe l < 256 ^ l.length := by
  induction l with
  | nil => simp [unbe]
  | cons c l ih =>
    rw [unbe_cons, List.length_cons, Nat.pow_succ]
    have h1 := c.toNat_lt
    have h2 := Nat.mul_le_mul_right (256 ^ l.length) (show c.toNat ≤ 255 by omega)
    omega

/-- the lowest k bytes of n, the highest first -/
def be : Nat → Nat → List UInt8
  | 0, _ => []
  | k + 1, n => UInt8.ofNat (n / 256 ^ k) :: be k n

theorem be_length (k n : Nat) : (be k n).length = k := by
  induction k with
  | zero => rfl
  | succ k ih => simp [be, ih]

theorem unbe_be (k n : Nat) : unbe (be k n) = n % 256 ^ k := by
  induction k with
  | zero => simp [be, unbe, Nat.mod_one]
  | succ k ih =>
    have e : n % (256 ^ k * 256) = n % 256 ^ k + 256 ^ k * (n / 256 ^ k % 256) := Nat.mod_mul
    rw [be, unbe_cons, be_length, ih, UInt8.toNat_ofNat', Nat.pow_succ (n := 256), e]
    simp only [Nat.reducePow]
    rw [Nat.add_comm, Nat.mul_comm]

theorem unbe_be_of_lt {k n : Nat} (h : n < 256 ^ k) : unbe (be k n) = n := by rw [unbe_be, Nat.mod_eq_of_lt h]

theorem be_inj {k a b : Nat} (ha : a < 256 ^ k) (hb : b < 256 ^ k) (h : be k a = be k b) : a = b := by
  rw [← unbe_be_of_lt ha, h, unbe_be_of_lt hb]

theorem unbe_inj {l m : List UInt8} (hl : l.length = m.length) (h : unbe l = unbe m) : l = m := by
  induction l generalizing m with
  | nil => cases m with | nil => rfl | cons => simp at hl
  | cons c l ih =>
    cases m with
    | nil => simp at hl
    | cons d m =>
      have hlm : l.length = m.length := by simpa using hl
      rw [unbe_cons, unbe_cons, hlm] at h
      have h1 := unbe_lt l
      have h2 := unbe_lt m
      rw [hlm] at h1
      have hc : c.toNat = d.toNat := by
        have e1 : (c.toNat * 256 ^ m.length + unbe l) / 256 ^ m.length = c.toNat := by
          rw [Nat.mul_comm, Nat.mul_add_div (by omega), Nat.div_eq_of_lt h1]; rfl
        have e2 : (d.toNat * 256 ^ m.length + unbe m) / 256 ^ m.length = d.toNat := by
          rw [Nat.mul_comm, Nat.mul_add_div (by omega), Nat.div_eq_of_lt h2]; rfl
        rw [← e1, h, e2]
      have hu : unbe l = unbe m := by rw [hc] at h; omega
      rw [UInt8.toNat_inj.1 hc, ih hlm hu]

theorem be_unbe (l : List UInt8) : be l.length (unbe l) = l :=
  unbe_inj (be_length _ _) (by rw [unbe_be_of_lt (unbe_lt l)])

theorem pow256_le {k : Nat} (h : k ≤ 7) : 256 ^ k ≤ 72057594037927936 := Nat.pow_le_pow_right (n := 256) (by decide) h

end Cam
