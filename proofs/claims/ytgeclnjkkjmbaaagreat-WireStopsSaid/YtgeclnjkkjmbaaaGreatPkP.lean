import Derived.Test.YtgeclnjkkjmbaaaGreatBe
/- numbers as bytes (pack): the plain laws. No program in sight. -/
namespace Cam

/-- a whole number turned to one from 0 on -/
def zig (n : Int) : Nat := if n < 0 then (-2 * n - 1).toNat else (2 * n).toNat
def zag (z : Nat) : Int := if z % 2 = 1 then -((z / 2 : Nat) : Int) - 1 else ((z / 2 : Nat) : Int)
theorem zag_zig (n : Int) : zag (zig n) = n := by
  unfold zag zig
  split <;> split <;> omega
theorem zig_zag (z : Nat) : zig (zag z) = z := by
  unfold zag zig
  split <;> split <;> omega
theorem zig_lt (n : Int) (h : -9223372036854775808 ≤ n ∧ n ≤ 9223372036854775807) : zig n < 18446744073709551616 := by
  unfold zig
  split <;> omega

/-- the bytes of a number from 0 on: seven bits each, the lowest first -/
def venc (z : Nat) : List UInt8 := if h : z < 128 then [UInt8.ofNat z] else UInt8.ofNat (z % 128 + 128) :: venc (z / 128)
termination_by z
decreasing_by omega
theorem venc_low (z : Nat) (h : z < 128) : venc z = [UInt8.ofNat z] := by rw [venc, dif_pos h]
theorem venc_high (z : Nat) (h : 128 ≤ z) : venc z = UInt8.ofNat (z % 128 + 128) :: venc (z / 128) := by rw [venc, dif_neg (by omega)]
def encI (n : Int) : List UInt8 := venc (zig n)
def encIs (l : List Int) : List UInt8 := (l.map encI).flatten
theorem encIs_snoc (l : List Int) (n : Int) : encIs (l ++ [n]) = encIs l ++ encI n := by simp [encIs]

theorem venc_length (z : Nat) (h : z < 18446744073709551616) : (venc z).length ≤ 10 ∧ 1 ≤ (venc z).length := by
  have key : ∀ k (z : Nat), z < 128 ^ k → (venc z).length ≤ max k 1 ∧ 1 ≤ (venc z).length := by
    intro k
    induction k with
    | zero => intro z hz; rw [venc_low z (by simp at hz; omega)]; simp
    | succ k ih =>
      intro z hz
      by_cases hl : z < 128
      · rw [venc_low z hl]
        simp only [List.length_cons, List.length_nil]
        omega
      · rw [venc_high z (by omega)]
        have h2 := ih (z / 128) (by rw [Nat.pow_succ] at hz; omega)
        simp only [List.length_cons]
        by_cases hk : k = 0
        · subst hk
          simp at hz
          omega
        · omega
  have := key 10 z (by omega)
  omega

theorem encI_length (n : Int) (h : -9223372036854775808 ≤ n ∧ n ≤ 9223372036854775807) : (encI n).length ≤ 10 ∧ 1 ≤ (encI n).length := venc_length _ (zig_lt n h)
theorem encIs_length (l : List Int) (h : ∀ n ∈ l, -9223372036854775808 ≤ n ∧ n ≤ 9223372036854775807) : (encIs l).length ≤ 10 * l.length := by
  induction l with
  | nil => simp [encIs]
  | cons a l ih =>
    have h1 := encI_length a (h a (by simp))
    have h2 := ih (fun n hn => h n (by simp [hn]))
    simp only [encIs, List.map_cons, List.flatten_cons, List.length_append, List.length_cons] at *
    omega
/-- what is read of bytes: the number, and how many bytes it has; none: it is none -/
def vdec : Nat → Nat → Nat → List UInt8 → Option (Nat × Nat)
  | _, _, _, [] => none
  | k, m, z, c :: l =>
    if k = 9 ∧ 1 < c.toNat then none
    else if c.toNat < 128 then (if c.toNat = 0 ∧ 0 < k then none else some (z + c.toNat * m, k + 1))
    else (if k = 9 then none else vdec (k + 1) (m * 128) (z + (c.toNat - 128) * m) l)

end Cam
