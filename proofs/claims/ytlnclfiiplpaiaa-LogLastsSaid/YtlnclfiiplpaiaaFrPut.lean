import Derived.Test.YtlnclfiiplpaiaaProg
import Derived.Test.YtlnclfiiplpaiaaMem
import Derived.Test.YtlnclfiiplpaiaaBe
import Derived.Test.YtlnclfiiplpaiaaKeep
import Derived.WalkLawsBesides
import Derived.WalkSpells
/- frame.put and the reference's High: a number's lowest bytes, the highest first. -/
namespace Cam
open Go Go.RowKit Go.Proofs

theorem byte_at (n k : Nat) : ((n : Int) / 2 ^ (8 * k) % 256) = ((UInt8.ofNat (n / 256 ^ k)).toNat : Int) := by
  rw [UInt8.toNat_ofNat', show (256 : Nat) ^ k = 2 ^ (8 * k) by rw [Nat.pow_mul]]
  simp

set_option maxHeartbeats 400000 in
theorem put_any (w : World) (base : Nat) (v : Value) (l : List UInt8) (n m : Nat) (hm : m ≤ 8) (h : OwnB 5 w base v l) (hb : base ≤ w.heap.size) (hl : l.length ≤ 1099511627776) :
    Calls Try.prog 72 #[v, .int .u64 n, .int .i64 m] w (RetOnto 5 base w (l ++ be m n)) := by
  obtain ⟨a, cap, rfl⟩ := h.shape
  go_enter Try.func72, Try.ntmps72
  go_wp2
  go_loopw [0, 7] (fun s i wr => ∃ (k : Nat) (l' : List UInt8), k ≤ m ∧ i = .int .i64 ((k : Int) - 1) ∧ l'.length + k = l.length + m ∧ OwnB 5 wr base s l' ∧ Below base w wr ∧ l' ++ be k n = l ++ be m n) (fun _ i _ => (intOf i + 1).toNat)
  case atStart => exact ⟨m, l, Nat.le_refl _, rfl, rfl, h, Below.refl _ _, rfl⟩
  case round =>
    obtain ⟨k, l', hk, rfl, hlen, hown, hbel, heq⟩ := hrel
    obtain ⟨a', cap', rfl⟩ := hown.shape
    have hsz := hbel.size
    rcases Nat.eq_zero_or_pos k with hk0 | hk0
    · have h0 : ¬ (1 : Int) ≤ k := by omega
      go_wp2
      go_ret
      refine ⟨_, rfl, ?_, hbel⟩
      subst hk0
      simp only [be, List.append_nil] at heq
      rw [← heq]
      exact hown
    · have h1 : (1 : Int) ≤ k := by omega
      go_wp2_with (at_builtin; refine wpList_append_sl rfl (.tmp 14) (.tmp 20) 22 rfl elem_u8 rfl rfl (hown.alloc _) (Sl.one _ _ _) (by simp [Value.oneCell']) (by unfold maxLen; omega) (by omega) (by simp; omega) ?_; intro a2 cap2 w2 hown2 hg2 hb2)
      go_roundw
      case rel =>
        obtain ⟨j, rfl⟩ : ∃ j, k = j + 1 := ⟨k - 1, by omega⟩
        refine ⟨j, l' ++ [UInt8.ofNat (n / 256 ^ j)], by omega, by go_num, by simp; omega, OwnB.snoc _ hown2 (byte_at n j), (hbel.alloc (by omega) _).trans hb2, ?_⟩
        rw [← heq, be, List.append_assoc]
        rfl
      case measure => simp [intOf]; omega

set_option maxHeartbeats 400000 in
theorem High_any (w : World) (n m : Nat) (hm : m ≤ 8) :
    Calls Try.prog 47 #[.int .u64 n, .int .i64 m] w (RetB 5 w (be m n)) := by
  go_enter Try.func47, Try.ntmps47
  go_wp2
  go_loopw [5, 6] (fun s i wr => ∃ (k : Nat) (l' : List UInt8), k ≤ m ∧ i = .int .i64 ((k : Int) - 1) ∧ l'.length + k = m ∧ OwnB 5 wr w.heap.size s l' ∧ Below w.heap.size w wr ∧ l' ++ be k n = be m n) (fun _ i _ => (intOf i + 1).toNat)
  case atStart => exact ⟨m, [], Nat.le_refl _, rfl, by simp, World.ownsRow_nil _ _ _ _, Below.refl _ _, rfl⟩
  case round =>
    obtain ⟨k, l', hk, rfl, hlen, hown, hbel, heq⟩ := hrel
    obtain ⟨a', cap', rfl⟩ := hown.shape
    have hsz := hbel.size
    rcases Nat.eq_zero_or_pos k with hk0 | hk0
    · have h0 : ¬ (1 : Int) ≤ k := by omega
      go_wp2
      go_ret
      refine ⟨_, rfl, ?_, hbel⟩
      subst hk0
      simp only [be, List.append_nil] at heq
      rw [← heq]
      exact hown
    · have h1 : (1 : Int) ≤ k := by omega
      go_wp2_with (at_builtin; refine wpList_append_sl rfl (.tmp 13) (.tmp 19) 22 rfl elem_u8 rfl rfl (hown.alloc _) (Sl.one _ _ _) (by simp [Value.oneCell']) (by unfold maxLen; omega) (by omega) (by simp; omega) ?_; intro a2 cap2 w2 hown2 hg2 hb2)
      go_roundw
      case rel =>
        obtain ⟨j, rfl⟩ : ∃ j, k = j + 1 := ⟨k - 1, by omega⟩
        refine ⟨j, l' ++ [UInt8.ofNat (n / 256 ^ j)], by omega, by go_num, by simp; omega, OwnB.snoc _ hown2 (byte_at n j), (hbel.alloc (by omega) _).trans hb2, ?_⟩
        rw [← heq, be, List.append_assoc]
        rfl
      case measure => simp [intOf]; omega
end Cam
