import Derived.Test.YtpojkppgdedpaaaFrLow
import Derived.Test.YtpojkppgdedpaaaFrPut
/- FrameSums: the walk. -/
namespace Cam
open Go Go.RowKit Go.Proofs

set_option maxHeartbeats 800000 in
theorem FrameSums_walk (w : World) (v : Value) (ls : List (List UInt8)) (h : Bss w v ls) (hreach : ∀ l ∈ ls, l.length ≤ 140737488351232) :
    Calls Try.prog 3 #[v] w fun e w' => e = .returned (.bool true) ∧ Below w.heap.size w w' := by
  have h0 := h
  obtain ⟨vs, hvl, hsl, hbs⟩ := h
  obtain ⟨a, cap, rfl, hcap, hm⟩ := hsl.shape
  have Hvl := Lib.hid hvl
  clear hvl
  have Hreach := Lib.hid hreach
  clear hreach
  by_cases hbig : 1000 < ls.length
  · go_enter Try.func3, Try.ntmps3
    go_wp2
    go_ret
    exact ⟨rfl, Below.refl _ _⟩
  · go_enter Try.func3, Try.ntmps3
    go_wp2
    go_loopw [3, 4] (fun s i wr => ∃ (k : Nat) (all : List UInt8), k ≤ ls.length ∧ i = .int .i64 k ∧ OwnB 5 wr w.heap.size s all ∧ Below w.heap.size w wr ∧ all.length ≤ 131072 ∧ Hid (all = (ls.take k).flatten)) (fun _ i _ => ls.length - (intOf i).toNat)
    case atStart => exact ⟨0, [], Nat.zero_le _, rfl, World.ownsRow_nil _ _ _ _, Below.refl _ _, by simp, rfl⟩
    case round =>
      obtain ⟨k, all, hk, rfl, hown, hbel, hall, Hall⟩ := hrel
      obtain ⟨a', cap', rfl⟩ := hown.shape
      by_cases hlt : k < ls.length
      · have hlv : k < vs.length := by rw [Hvl.out]; exact hlt
        obtain ⟨b, off, rfl, _, hc⟩ := (hsl.mono hbel).at (by omega)
        have hck := hc k hlv
        have hbk := (hbs k hlt hlv).mono hbel
        clear hc
        obtain ⟨ak, capk, hv, hcapk, hmk⟩ := hbk.shape
        rw [hv] at hck hbk
        clear hv
        obtain ⟨l, hl⟩ : ∃ l, l = ls[k] := ⟨_, rfl⟩
        rw [← hl] at hck hbk hcapk
        have Hnext : Hid ((ls.take (k + 1)).flatten = all ++ l) := by
          show _ = _
          rw [take_snoc _ _ hlt, Hall.out, hl, List.flatten_append, List.flatten_singleton]
        have hreach1 : l.length ≤ 140737488351232 := by rw [hl]; exact Hreach.out _ (List.getElem_mem _)
        clear hl
        by_cases hroom : 131072 < l.length + all.length
        · have hroom' : (131072 : Int) < (l.length : Int) + (all.length : Int) := by omega
          go_wp2
          go_ret
          exact ⟨rfl, hbel⟩
        · have hsz := hbel.size
          go_wp2_with (at_builtin; refine wpList_append_sl rfl (.tmp 23) (.tmp 27) 23 rfl elem_u8 rfl rfl hown hbk (bs_oneCell _) (by unfold maxLen; omega) (by omega) (by omega) ?_; intro a2 cap2 w2 hown2 hg2 hb2)
          go_roundw
          case rel => exact ⟨k + 1, all ++ l, by omega, by go_num, OwnB.app hown2, hbel.trans hb2, by simp; omega, Hnext.out.symm⟩
          case measure => simp [intOf]; omega
      · obtain rfl : k = ls.length := by omega
        have Hall2 : Hid (all = ls.flatten) := by show _ = _; rw [Hall.out, List.take_length]
        go_wp2_with fail
        refine (Sum_any _ _ ls (h0.mono hbel)).mono ?_
        rintro e w1 ⟨rfl, hb1⟩
        rw [← Hall2.out]
        obtain ⟨c, hc⟩ : ∃ c, c = crc all := ⟨_, rfl⟩
        rw [← hc]
        have Hc := Lib.hid hc
        clear hc
        have hown1 := hown.below hb1
        go_wp2_with fail
        refine (refSum_any _ _ all hown1.bs).mono ?_
        rintro e w2 ⟨rfl, rfl⟩
        rw [← Hc.out]
        go_wp2_with fail
        have hba := (Below.refl w1.heap.size w1).alloc (Nat.le_refl _) (.cells #[.slice a' all.length cap'] 23)
        refine (Sum_any _ _ [all] (Bss.mk1 (by rw [heap_at, if_pos rfl]) (hown1.bs.mono hba))).mono ?_
        rintro e w3 ⟨rfl, hb3⟩
        rw [List.flatten_singleton, ← Hc.out]
        have hb3' : Below w.heap.size w w3 := (hbel.next hb1).next hb3.un
        go_wp2_with fail
        refine (Sum_any _ _ ls (h0.mono hb3')).mono ?_
        rintro e w4 ⟨rfl, hb4⟩
        rw [← Hall2.out, ← Hc.out]
        go_wp2_with fail
        refine (wakes_any _).mono ?_
        rintro e w5 ⟨rfl, hb5⟩
        go_wp2_with fail
        go_ret
        exact ⟨rfl, (hb3'.next hb4).next hb5⟩

end Cam
