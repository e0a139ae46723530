import Derived.Test.YtlnclfiiplpaiaaProg
import Derived.Test.YtlnclfiiplpaiaaMem
import Derived.Test.YtlnclfiiplpaiaaBe
import Derived.WalkLawsBesides
import Derived.WalkSpells
/- frame.get and the reference's number: the number of bytes, the highest first. -/
namespace Cam
open Go Go.RowKit Go.Proofs

set_option maxHeartbeats 400000 in
theorem get_any (w : World) (v : Value) (l : List UInt8) (h : Bs w v l) (h8 : l.length ≤ 8) :
    Calls Try.prog 76 #[v] w fun e w' => e = .returned (.int .u64 (unbe l)) ∧ w = w' := by
  obtain ⟨a, cap, rfl, hcap, hm⟩ := h.shape
  go_enter Try.func76, Try.ntmps76
  go_wp2
  go_loop [3, 8] (fun n i => ∃ k : Nat, k ≤ l.length ∧ i = .int .i64 k ∧ n = .int .u64 (unbe (l.take k))) (fun _ i => l.length - (intOf i).toNat)
  case atStart => exact ⟨0, Nat.zero_le _, rfl, rfl⟩
  case round =>
    obtain ⟨k, hk, rfl, rfl⟩ := hrel
    by_cases hlt : k < l.length
    · have hb := unbe_lt (l.take k)
      rw [List.length_take, Nat.min_eq_left hk] at hb
      have hb' : unbe (l.take k) < 72057594037927936 := Nat.lt_of_lt_of_le hb (pow256_le (by omega))
      clear hb
      obtain ⟨b, off, rfl, _, hc⟩ := h.at (by omega)
      have hck := hc k hlt
      have hu := l[k].toNat_lt
      clear hc
      go_wp2
      go_round
      case rel => exact ⟨k + 1, by omega, by go_num, by rw [or_byte _ _ hb' (by simpa using hu), ← unbe_snoc, ← take_snoc]⟩
      case measure => simp [intOf]; omega
    · go_wp2
      go_ret
      exact ⟨by rw [List.take_of_length_le (by omega)]; rfl, rfl⟩

set_option maxHeartbeats 400000 in
theorem number_any (w : World) (v : Value) (l : List UInt8) (h : Bs w v l) (h8 : l.length ≤ 8) :
    Calls Try.prog 80 #[v] w fun e w' => e = .returned (.int .u64 (unbe l)) ∧ w = w' := by
  obtain ⟨a, cap, rfl, hcap, hm⟩ := h.shape
  go_enter Try.func80, Try.ntmps80
  go_wp2
  go_loop [3, 4] (fun n i => ∃ k : Nat, k ≤ l.length ∧ i = .int .i64 k ∧ n = .int .u64 (unbe (l.take k))) (fun _ i => l.length - (intOf i).toNat)
  case atStart => exact ⟨0, Nat.zero_le _, rfl, rfl⟩
  case round =>
    obtain ⟨k, hk, rfl, rfl⟩ := hrel
    by_cases hlt : k < l.length
    · have hb := unbe_lt (l.take k)
      rw [List.length_take, Nat.min_eq_left hk] at hb
      have hb' : unbe (l.take k) < 72057594037927936 := Nat.lt_of_lt_of_le hb (pow256_le (by omega))
      clear hb
      obtain ⟨b, off, rfl, _, hc⟩ := h.at (by omega)
      have hck := hc k hlt
      have hu := l[k].toNat_lt
      clear hc
      go_wp2
      go_round
      case rel => exact ⟨k + 1, by omega, by go_num, by rw [or_byte _ _ hb' (by simpa using hu), ← unbe_snoc, ← take_snoc]⟩
      case measure => simp [intOf]; omega
    · go_wp2
      go_ret
      exact ⟨by rw [List.take_of_length_le (by omega)]; rfl, rfl⟩
end Cam
