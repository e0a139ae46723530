import Derived.Shelf.Small.Bits
import Derived.Shelf.Strconv.Itoa0
import Derived.Test.YtgjiphgehohooaaProg
/- math/bits.LeadingZeros64: the library's own contract, laid here. -/
namespace Cam
open Go Go.Proofs

def lzRen : Go.Shelf.Ren := ⟨fun | 134 => 32 | 129 => 33 | n => n, fun | 53 => 27 | 3 => 3 | 4 => 4 | 46 => 47 | 5 => 5 | 9 => 9 | n => n, fun | n => n⟩
theorem lzLays : Go.Proofs.Lays.n134 Try.prog lzRen := {
  mixed := by kernel_rfl
  f129 := Try.func33.trans (congrArg some (by kernel_rfl))
  f134 := Try.func32.trans (congrArg some (by kernel_rfl))
  t3 := Try.underlying3
  a3 := Try.isAgg3
  z3 := Try.sizeOf3
  v3 := Try.zeroValue3
  t4 := Try.underlying4
  a4 := Try.isAgg4
  z4 := Try.sizeOf4
  v4 := Try.zeroValue4
  t5 := Try.underlying5
  a5 := Try.isAgg5
  z5 := Try.sizeOf5
  v5 := Try.zeroValue5
  t9 := Try.underlying9
  a9 := Try.isAgg9
  z9 := Try.sizeOf9
  v9 := Try.zeroValue9
  t46 := Try.underlying47
  a46 := Try.isAgg47
  z46 := Try.sizeOf47
  v46 := Try.zeroValue47
  t53 := Try.underlying27
  a53 := Try.isAgg27
  z53 := Try.sizeOf27
  v53 := Try.zeroValue27 }
theorem lz_any (x : Int) (w : World) (h0 : 0 ≤ x) (h1 : x ≤ 18446744073709551615) :
    Calls Try.prog 32 #[.int .u64 x] w fun e w' => e = .returned (.int .i64 (64 - (Lib.bitLen x.toNat : Int))) ∧ w' = w := Any.bits_LeadingZeros64 lzLays x w h0 h1

theorem aux_span : ∀ (f x : Nat), 0 < x → x < 2 ^ f → 2 ^ (Lib.bitLenAux f x - 1) ≤ x ∧ x < 2 ^ Lib.bitLenAux f x ∧ 1 ≤ Lib.bitLenAux f x ∧ Lib.bitLenAux f x ≤ f
  | 0, x, h0, h => by simp at h; omega
  | f + 1, x, h0, h => by
    rw [Lib.bitLenAux, if_neg (by omega)]
    by_cases hx : x / 2 = 0
    · have hx1 : x = 1 := by omega
      subst hx1
      have e : Lib.bitLenAux f 0 = 0 := by cases f <;> simp [Lib.bitLenAux]
      simp [e]
    · obtain ⟨h1, h2, h3, h4⟩ := aux_span f (x / 2) (by omega) (by rw [Nat.pow_succ] at h; omega)
      generalize Lib.bitLenAux f (x / 2) = b at *
      refine ⟨?_, ?_, by omega, by omega⟩
      · have : 2 ^ (1 + b - 1) = 2 * 2 ^ (b - 1) := by
          rw [show 1 + b - 1 = (b - 1) + 1 by omega, Nat.pow_succ]
          omega
        omega
      · have : 2 ^ (1 + b) = 2 * 2 ^ b := by rw [Nat.add_comm, Nat.pow_succ]; omega
        omega
/-- how many bits are free ahead of a number -/
theorem bitLen_span (n : Nat) (h0 : 0 < n) (h : n < 9223372036854775808) : ∃ s : Nat, 1 ≤ s ∧ s ≤ 63 ∧ (64 - (Lib.bitLen n : Int)) = (s : Int) ∧ 9223372036854775808 ≤ n * 2 ^ s ∧ n * 2 ^ s < 18446744073709551616 := by
  obtain ⟨h1, h2, h3, h4⟩ := aux_span 64 n h0 (by omega)
  change 2 ^ (Lib.bitLen n - 1) ≤ n at h1
  change n < 2 ^ Lib.bitLen n at h2
  change 1 ≤ Lib.bitLen n at h3
  change Lib.bitLen n ≤ 64 at h4
  generalize Lib.bitLen n = b at *
  have hb : b ≤ 63 := by
    refine Nat.not_lt.1 (fun hc => ?_)
    have : 2 ^ 63 ≤ 2 ^ (b - 1) := Nat.pow_le_pow_right (by omega) (by omega)
    omega
  have e1 : 2 ^ (b - 1) * 2 ^ (64 - b) = 9223372036854775808 := by rw [← Nat.pow_add, show b - 1 + (64 - b) = 63 by omega]
  have e2 : 2 ^ b * 2 ^ (64 - b) = 18446744073709551616 := by rw [← Nat.pow_add, show b + (64 - b) = 64 by omega]
  refine ⟨64 - b, by omega, by omega, by omega, ?_, ?_⟩
  · rw [← e1]; exact Nat.mul_le_mul_right _ h1
  · rw [← e2]; exact Nat.mul_lt_mul_of_pos_right h2 (Nat.two_pow_pos _)

end Cam
