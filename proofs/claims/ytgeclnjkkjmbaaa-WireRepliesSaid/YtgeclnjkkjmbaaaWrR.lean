import Derived.Test.YtgeclnjkkjmbaaaWrM
/- cambistref04: Int, Ints, Mark, Text. -/
namespace Cam
open Go Go.RowKit Go.Proofs

theorem zig_up (n : Int) (h : 0 ≤ n ∧ n ≤ 9223372036854775807) : IntKind.u64.wrap (IntKind.u64.wrap n * 2) = ((zig n : Nat) : Int) := by
  simp only [IntKind.wrap_u64]
  unfold zig
  rw [if_neg (by omega)]
  omega

set_option maxRecDepth 100000 in
set_option maxHeartbeats 1600000 in
theorem rEnc_any (w : World) (n : Int) (hn : -9223372036854775808 ≤ n ∧ n ≤ 9223372036854775807) :
    Calls Try.prog 100 #[.int .i64 n] w (RetB 5 w (encI n)) := by
  obtain ⟨z, hz⟩ : ∃ z, z = zig n := ⟨_, rfl⟩
  have hzl := zig_lt n hn
  rw [← hz] at hzl
  have Hz := Lib.hid hz
  by_cases h0 : n < 0
  · have hu : -(n + 1) * 2 + 1 = (z : Int) := by rw [hz]; unfold zig; rw [if_pos h0]; omega
    clear hz
    go_enter Try.func100, Try.ntmps100
    go_wp2_with fail
    go_loopw [3, 4] (fun zz s wr => ∃ (z' : Nat) (a2 : Option Addr) (n2 c2 : Nat) (m : List UInt8), zz = .int .u64 (z' : Int) ∧ z' < 18446744073709551616 ∧ s = .slice a2 n2 c2 ∧ Hid (m ++ venc z' = venc z) ∧ OwnB 5 wr w.heap.size (.slice a2 n2 c2) m ∧ Below w.heap.size w wr) (fun zz _ _ => (intOf zz).toNat)
    case atStart => exact ⟨z, none, 0, 0, [], rfl, hzl, rfl, rfl, OwnB.empty _ _ _, Below.refl _ _⟩
    case round =>
      obtain ⟨z', a2, n2, c2, m, rfl, hzl2, rfl, Hm, hown, hb⟩ := hrel
      clear hu
      have hml : m.length ≤ 10 := by
        have e := congrArg List.length Hm.out
        have e2 := (venc_length z hzl).1
        simp only [List.length_append] at e
        omega
      have hsz := hb.size
      by_cases h128 : 128 ≤ z'
      · obtain ⟨c, hc⟩ : ∃ c, c = UInt8.ofNat (z' % 128 + 128) := ⟨_, rfl⟩
        have hct : c.toNat = z' % 128 + 128 := by rw [hc, UInt8.toNat_ofNat']; omega
        have hci : (z' : Int) % 128 + 128 = (c.toNat : Int) := by omega
        have hti : (127 : Int) < (z' : Int) := by omega
        have Hc := Lib.hid hc
        clear hc hct
        have hlit : Bs (wr.alloc (.cells #[.int .u8 (c.toNat : Int)] 5)) (.slice (some ⟨wr.heap.size, 0, none⟩) 1 1) [c] := Bs.block (l := [c]) (heap_new rfl) (Nat.le_refl _) (by simp [maxLen])
        go_wp2_with (first | (at_builtin; refine wpList_append_bytes (v := .slice a2 n2 c2) rfl (.tmp 18) (.tmp 23) 25 rfl (l := m) (m := [c]) (base := w.heap.size) elem_byte rfl rfl (OwnB.alloc hown _) hlit (by simp; omega) (by simp; omega) ?_; intro a' n' c' w' Hn' ho' hb' hg'))
        have hm2 : Hid ((m ++ [c]) ++ venc (z' / 128) = venc z) := by
          show _ = _
          rw [← Hm.out, venc_high z' h128, ← Hc.out, List.append_assoc]
          rfl
        exact ⟨⟨z' / 128, _, _, _, m ++ [c], by push_cast; rfl, by omega, rfl, hm2, ho', (hb.alloc hsz _).trans hb'⟩, by simp [intOf]; omega⟩
      · obtain ⟨c, hc⟩ : ∃ c, c = UInt8.ofNat z' := ⟨_, rfl⟩
        have hct : c.toNat = z' := by rw [hc, UInt8.toNat_ofNat']; omega
        have hci : (z' : Int) = (c.toNat : Int) := by omega
        have hti : decide ((127 : Int) < (z' : Int)) = false := by simp; omega
        have Hc := Lib.hid hc
        have hlit : Bs (wr.alloc (.cells #[.int .u8 (z' : Int)] 5)) (.slice (some ⟨wr.heap.size, 0, none⟩) 1 1) [c] := by
          rw [hci]
          exact Bs.block (l := [c]) (heap_new rfl) (Nat.le_refl _) (by simp [maxLen])
        clear hc hct hci
        go_wp2_with (first | (at_builtin; refine wpList_append_bytes (v := .slice a2 n2 c2) rfl (.tmp 27) (.tmp 30) 25 rfl (l := m) (m := [c]) (base := w.heap.size) elem_byte rfl rfl (OwnB.alloc hown _) hlit (by simp; omega) (by simp; omega) ?_; intro a' n' c' w' Hn' ho' hb' hg'))
        go_ret
        have hm2 : m ++ [c] = encI n := by
          unfold encI
          rw [← Hz.out, ← Hm.out, venc_low z' (by omega), ← Hc.out]
        rw [hm2] at ho'
        exact ⟨_, rfl, ho', (hb.alloc hsz _).trans hb'⟩
  · have hu : n * 2 = (z : Int) := by rw [hz]; unfold zig; rw [if_neg h0]; omega
    have h0' : decide (n < 0) = false := by simp; omega
    clear hz
    go_enter Try.func100, Try.ntmps100
    go_wp2_with fail
    go_loopw [3, 4] (fun zz s wr => ∃ (z' : Nat) (a2 : Option Addr) (n2 c2 : Nat) (m : List UInt8), zz = .int .u64 (z' : Int) ∧ z' < 18446744073709551616 ∧ s = .slice a2 n2 c2 ∧ Hid (m ++ venc z' = venc z) ∧ OwnB 5 wr w.heap.size (.slice a2 n2 c2) m ∧ Below w.heap.size w wr) (fun zz _ _ => (intOf zz).toNat)
    case atStart => exact ⟨z, none, 0, 0, [], rfl, hzl, rfl, rfl, OwnB.empty _ _ _, Below.refl _ _⟩
    case round =>
      obtain ⟨z', a2, n2, c2, m, rfl, hzl2, rfl, Hm, hown, hb⟩ := hrel
      clear hu
      have hml : m.length ≤ 10 := by
        have e := congrArg List.length Hm.out
        have e2 := (venc_length z hzl).1
        simp only [List.length_append] at e
        omega
      have hsz := hb.size
      by_cases h128 : 128 ≤ z'
      · obtain ⟨c, hc⟩ : ∃ c, c = UInt8.ofNat (z' % 128 + 128) := ⟨_, rfl⟩
        have hct : c.toNat = z' % 128 + 128 := by rw [hc, UInt8.toNat_ofNat']; omega
        have hci : (z' : Int) % 128 + 128 = (c.toNat : Int) := by omega
        have hti : (127 : Int) < (z' : Int) := by omega
        have Hc := Lib.hid hc
        clear hc hct
        have hlit : Bs (wr.alloc (.cells #[.int .u8 (c.toNat : Int)] 5)) (.slice (some ⟨wr.heap.size, 0, none⟩) 1 1) [c] := Bs.block (l := [c]) (heap_new rfl) (Nat.le_refl _) (by simp [maxLen])
        go_wp2_with (first | (at_builtin; refine wpList_append_bytes (v := .slice a2 n2 c2) rfl (.tmp 18) (.tmp 23) 25 rfl (l := m) (m := [c]) (base := w.heap.size) elem_byte rfl rfl (OwnB.alloc hown _) hlit (by simp; omega) (by simp; omega) ?_; intro a' n' c' w' Hn' ho' hb' hg'))
        have hm2 : Hid ((m ++ [c]) ++ venc (z' / 128) = venc z) := by
          show _ = _
          rw [← Hm.out, venc_high z' h128, ← Hc.out, List.append_assoc]
          rfl
        exact ⟨⟨z' / 128, _, _, _, m ++ [c], by push_cast; rfl, by omega, rfl, hm2, ho', (hb.alloc hsz _).trans hb'⟩, by simp [intOf]; omega⟩
      · obtain ⟨c, hc⟩ : ∃ c, c = UInt8.ofNat z' := ⟨_, rfl⟩
        have hct : c.toNat = z' := by rw [hc, UInt8.toNat_ofNat']; omega
        have hci : (z' : Int) = (c.toNat : Int) := by omega
        have hti : decide ((127 : Int) < (z' : Int)) = false := by simp; omega
        have Hc := Lib.hid hc
        have hlit : Bs (wr.alloc (.cells #[.int .u8 (z' : Int)] 5)) (.slice (some ⟨wr.heap.size, 0, none⟩) 1 1) [c] := by
          rw [hci]
          exact Bs.block (l := [c]) (heap_new rfl) (Nat.le_refl _) (by simp [maxLen])
        clear hc hct hci
        go_wp2_with (first | (at_builtin; refine wpList_append_bytes (v := .slice a2 n2 c2) rfl (.tmp 27) (.tmp 30) 25 rfl (l := m) (m := [c]) (base := w.heap.size) elem_byte rfl rfl (OwnB.alloc hown _) hlit (by simp; omega) (by simp; omega) ?_; intro a' n' c' w' Hn' ho' hb' hg'))
        go_ret
        have hm2 : m ++ [c] = encI n := by
          unfold encI
          rw [← Hz.out, ← Hm.out, venc_low z' (by omega), ← Hc.out]
        rw [hm2] at ho'
        exact ⟨_, rfl, ho', (hb.alloc hsz _).trans hb'⟩

end Cam
