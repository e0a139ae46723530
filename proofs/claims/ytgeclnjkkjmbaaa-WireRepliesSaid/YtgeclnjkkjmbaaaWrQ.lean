import Derived.Test.YtgeclnjkkjmbaaaWrW
/- what pack.Reader.Int computes, bit by bit. No program's step in sight. -/
namespace Cam
open Go Go.RowKit

theorem or_shift (z x k : Nat) (hz : z < 128 ^ k) (hk : k ≤ 9) (hx : x < 256) (h9 : k = 9 → x ≤ 1) :
    bits .or .u64 (z : Int) (IntKind.u64.wrap (IntKind.u64.wrap (bits .and .u8 (x : Int) 127) * 2 ^ (7 * k))) = ((z + x % 128 * 128 ^ k : Nat) : Int) := by
  have h1 : ∀ y : Fin 256, (y.val &&& 127) = y.val % 128 := by decide +kernel
  have e1 : bits .and .u8 (x : Int) 127 = ((x % 128 : Nat) : Int) := by
    refine (u8_and_nat x 127 hx (by decide)).trans ?_
    rw [h1 ⟨x, hx⟩]
  have e2 : (2 : Nat) ^ (7 * k) = 128 ^ k := by rw [Nat.pow_mul]
  have hm : x % 128 * 128 ^ k < 18446744073709551616 := by
    by_cases h : k = 9
    · have h3 := h9 h
      subst h
      have h4 : x % 128 ≤ 1 := by omega
      have h5 := Nat.mul_le_mul_right (128 ^ 9) h4
      omega
    · have h4 : 128 ^ k ≤ 128 ^ 8 := Nat.pow_le_pow_right (by omega) (by omega)
      have h5 := Nat.mul_le_mul (by omega : x % 128 ≤ 127) h4
      omega
  have e3 : IntKind.u64.wrap (IntKind.u64.wrap (bits .and .u8 (x : Int) 127) * 2 ^ (7 * k)) = ((x % 128 * 128 ^ k : Nat) : Int) := by
    rw [e1]
    have e4 : ((2 : Int) ^ (7 * k)) = (((128 ^ k : Nat)) : Int) := by rw [← e2]; push_cast; rfl
    rw [e4]
    simp only [IntKind.wrap_u64]
    rw [show ((x % 128 : Nat) : Int) % 18446744073709551616 = ((x % 128 : Nat) : Int) by omega, ← Int.natCast_mul]
    generalize x % 128 * 128 ^ k = y at hm
    omega
  have hz64 : z < 18446744073709551616 := by
    have : 128 ^ k ≤ 128 ^ 9 := Nat.pow_le_pow_right (by omega) hk
    omega
  rw [e3]
  refine (u64_or_nat _ _ hz64 hm).trans ?_
  congr 1
  have := Nat.two_pow_add_eq_or_of_lt (i := 7 * k) (b := z) (by rw [e2]; exact hz) (x % 128)
  rw [e2] at this
  rw [Nat.or_comm, Nat.mul_comm, ← this]
  exact Nat.add_comm _ _

theorem xor_neg1 (x : Nat) (h : x < 9223372036854775808) : bits .xor .i64 (x : Int) (-1) = -(x : Int) - 1 := by
  have h2 : (BitVec.ofInt 64 (x : Int)).toNat = x := by
    rw [BitVec.ofInt_natCast, BitVec.toNat_ofNat]; exact Nat.mod_eq_of_lt (by omega)
  have h1 : BitVec.ofInt 64 (-1) = BitVec.allOnes 64 := by decide
  show IntKind.i64.wrap ((BitVec.ofInt 64 (x : Int) ^^^ BitVec.ofInt 64 (-1)).toNat : Int) = _
  rw [h1, BitVec.xor_allOnes, BitVec.toNat_not, h2, IntKind.wrap_i64]
  omega
theorem xor_zero (x : Nat) (h : x < 9223372036854775808) : bits .xor .i64 (x : Int) 0 = (x : Int) := by
  have h2 : (BitVec.ofInt 64 (x : Int)).toNat = x := by
    rw [BitVec.ofInt_natCast, BitVec.toNat_ofNat]; exact Nat.mod_eq_of_lt (by omega)
  have h1 : BitVec.ofInt 64 0 = 0#64 := by decide
  show IntKind.i64.wrap ((BitVec.ofInt 64 (x : Int) ^^^ BitVec.ofInt 64 0).toNat : Int) = _
  rw [h1, BitVec.xor_zero, h2, IntKind.wrap_i64]
  omega

theorem zag_bits (z : Nat) (h : z < 18446744073709551616) : bits .xor .i64 (wrap64 ((z : Int) / 2)) (wrap64 (-wrap64 (bits .and .u64 (z : Int) 1))) = zag z := by
  have e1 : bits .and .u64 (z : Int) 1 = ((z % 2 : Nat) : Int) := by
    refine (u64_and_nat z 1 h (by decide)).trans ?_
    rw [Nat.and_one_is_mod]
  have e2 : wrap64 ((z : Int) / 2) = ((z / 2 : Nat) : Int) := by unfold wrap64; omega
  rw [e1, e2]
  by_cases hz : z % 2 = 1
  · have e3 : wrap64 (-wrap64 ((z % 2 : Nat) : Int)) = -1 := by unfold wrap64; omega
    rw [e3, xor_neg1 _ (by omega)]
    unfold zag
    rw [if_pos hz]
  · have e3 : wrap64 (-wrap64 ((z % 2 : Nat) : Int)) = 0 := by unfold wrap64; omega
    rw [e3, xor_zero _ (by omega)]
    unfold zag
    rw [if_neg hz]

/-- one step of the reading -/
theorem vdec_end {k m z : Nat} {l : List UInt8} (h : l.length ≤ k) (L : List UInt8) (hL : L = l.drop k) : vdec k m z L = none := by
  rw [hL, List.drop_of_length_le h, vdec]
theorem drop_cons {k : Nat} {l : List UInt8} (h : k < l.length) : l.drop k = l[k] :: l.drop (k + 1) := by rw [List.drop_eq_getElem_cons h]
theorem vdec_low {k m z : Nat} {l : List UInt8} (h : k < l.length) (h9 : k = 9 → l[k].toNat ≤ 1) (hc : l[k].toNat < 128) (h0 : l[k].toNat ≠ 0 ∨ k = 0) : vdec k m z (l.drop k) = some (z + l[k].toNat % 128 * m, k + 1) := by
  rw [drop_cons h, vdec, if_neg (by omega), if_pos hc, if_neg (by omega), Nat.mod_eq_of_lt hc]
theorem vdec_nine {k m z : Nat} {l : List UInt8} (h : k < l.length) (h9 : k = 9) (hc : 1 < l[k].toNat) : vdec k m z (l.drop k) = none := by
  rw [drop_cons h, vdec, if_pos ⟨h9, hc⟩]
theorem vdec_zero {k m z : Nat} {l : List UInt8} (h : k < l.length) (h0 : l[k].toNat = 0) (hk : 0 < k) : vdec k m z (l.drop k) = none := by
  rw [drop_cons h, vdec, if_neg (by omega), if_pos (by omega), if_pos ⟨h0, hk⟩]
theorem vdec_more {k z : Nat} {l : List UInt8} (h : k < l.length) (h9 : k ≠ 9) (hc : 128 ≤ l[k].toNat) : vdec k (128 ^ k) z (l.drop k) = vdec (k + 1) (128 ^ (k + 1)) (z + l[k].toNat % 128 * 128 ^ k) (l.drop (k + 1)) := by
  have := l[k].toNat_lt
  rw [drop_cons h, vdec, if_neg (by omega), if_neg (by omega), if_neg h9, show l[k].toNat - 128 = l[k].toNat % 128 by omega, Nat.pow_succ]
theorem acc_lt {k z x : Nat} (hz : z < 128 ^ k) : z + x % 128 * 128 ^ k < 128 ^ (k + 1) := by
  have h2 := Nat.mul_le_mul_right (128 ^ k) (by omega : x % 128 ≤ 127)
  rw [Nat.pow_succ]
  omega
theorem acc_lt64 {k z x : Nat} (hz : z < 128 ^ k) (hk : k ≤ 9) (h9 : k = 9 → x ≤ 1) : z + x % 128 * 128 ^ k < 18446744073709551616 := by
  by_cases h : k = 9
  · have h3 := h9 h
    subst h
    have h5 := Nat.mul_le_mul_right (128 ^ 9) (by omega : x % 128 ≤ 1)
    omega
  · have h4 : 128 ^ (k + 1) ≤ 128 ^ 9 := Nat.pow_le_pow_right (by omega) (by omega)
    have := acc_lt (x := x) hz
    omega

end Cam
