import Derived.Test.YtgeclnjkkjmbaaaWrS
import Derived.Test.YtgeclnjkkjmbaaaWrQ
/- pack.Reader: Int. -/
namespace Cam
open Go Go.RowKit Go.Proofs

set_option maxRecDepth 100000 in
set_option maxHeartbeats 1600000 in
theorem RInt_any (w : World) (g : Nat) (s : RS) (h : RD w g s) (hlen : s.1.length ≤ 70368744177664) : Calls Try.prog 62 #[.pointer (some ⟨g, 0, none⟩)] w fun r w' => r = .returned (.int .i64 (rI s).1) ∧ RD w' g (rI s).2 ∧ Kept (fun k => k = g) w w' := by
  obtain ⟨a, c, hc0, hc1, hf0, hf1, hl, ha, hlc, hcm, hh⟩ := h.cell
  obtain ⟨l, e⟩ := s
  simp only at hc0 hc1 hl ha hlc hh hlen
  by_cases he : e = 0
  · subst he
    have hf := fail_any w g (l, 0) 4 h
    rw [show rFail (l, 0) 4 = (l, 4) by simp [rFail]] at hf
    have HF := Lib.hid hf
    clear hf
    have Hh := Lib.hid hh
    have Hl := Lib.hid hl
    clear h hh
    go_enter Try.func62, Try.ntmps62
    go_wp2_with fail
    go_loopw [3, 16] (fun zz i wr => ∃ k z : Nat, k ≤ l.length ∧ k ≤ 9 ∧ zz = .int .u64 z ∧ i = .int .i64 k ∧ Hid (z < 128 ^ k) ∧ Hid (vdec 0 1 0 l = vdec k (128 ^ k) z (l.drop k)) ∧ w = wr) (fun _ i _ => l.length - (intOf i).toNat)
    case atStart => exact ⟨0, 0, Nat.zero_le _, by omega, rfl, rfl, (by decide : 0 < 128 ^ 0), rfl, rfl⟩
    case round =>
      obtain ⟨k, z, hk, hk9, rfl, rfl, Hz, Hv, rfl⟩ := hrel
      by_cases hlt : k < l.length
      · obtain ⟨b, off, rfl, _, hc⟩ := hl.at (by omega)
        have hck := hc k hlt
        clear hc
        have hxu := l[k].toNat_lt
        have hvl := fun h9 hx h0 => vdec_low (m := 128 ^ k) (z := z) hlt h9 hx h0
        have hv9 := fun h9 hx => vdec_nine (m := 128 ^ k) (z := z) hlt h9 hx
        have hv0 := fun h0 hp => vdec_zero (m := 128 ^ k) (z := z) hlt h0 hp
        have hvm := fun h9 hx => vdec_more (z := z) hlt h9 hx
        obtain ⟨x, hx⟩ : ∃ x, x = l[k].toNat := ⟨_, rfl⟩
        rw [← hx] at hck hxu hvl hv9 hv0 hvm
        have Hvl := Lib.hid hvl
        have Hv9 := Lib.hid hv9
        have Hv0 := Lib.hid hv0
        have Hvm := Lib.hid hvm
        clear hx hvl hv9 hv0 hvm
        by_cases h9 : k = 9 ∧ 1 < x
        · have e1 : rI (l, 0) = (0, (l, 4)) := by unfold rI; rw [if_neg (by simp)]; simp only; rw [Hv.out, Hv9.out h9.1 h9.2]
          have hkb : ((k : Int) == 9) = true := by simp; omega
          have hx1 : decide ((1 : Int) < (x : Int)) = true := by simp; omega
          have E1 := Lib.hid e1
          have HK := Lib.hid h9
          clear h9 e1
          go_wp2_with fail
          refine HF.out.mono ?_
          rintro e w1 ⟨rfl, h1, h2⟩
          have H1 := Lib.hid h1
          clear h1
          go_wp2_with fail
          go_ret
          rw [E1.out]
          exact ⟨rfl, H1.out, h2⟩
        · have hxx : k = 9 → x ≤ 1 := fun h => by omega
          have hX := or_shift z x k Hz.out hk9 hxu hxx
          have hzl := acc_lt64 Hz.out hk9 hxx
          have Hz2 := Lib.hid (acc_lt (x := x) Hz.out)
          obtain ⟨z2, hz2⟩ : ∃ z2, z2 = z + x % 128 * 128 ^ k := ⟨_, rfl⟩
          rw [← hz2] at hX hzl
          have HZ2 := Lib.hid hz2
          have HX9 := Lib.hid hxx
          clear hz2 hxx
          have hsp : (((k : Int) == 9) = true ∧ decide ((1 : Int) < (x : Int)) = false) ∨ (((k : Int) == 9) = false ∧ True) := by
            by_cases hk : k = 9
            · have hle := HX9.out hk
              refine .inl ⟨by simp; omega, by simp; omega⟩
            · exact .inr ⟨by simp; omega, trivial⟩
          by_cases hx128 : x < 128
          · have hxi : decide ((x : Int) < 128) = true := by simp; omega
            by_cases hx0 : x = 0 ∧ 0 < k
            · have e1 : rI (l, 0) = (0, (l, 4)) := by unfold rI; rw [if_neg (by simp)]; simp only; rw [Hv.out, Hv0.out hx0.1 hx0.2]
              have E1 := Lib.hid e1
              have hki : decide ((0 : Int) < (k : Int)) = true := by simp; omega
              have hkn : 0 < k := hx0.2
              have hxb : ((x : Int) == 0) = true := by simp; omega
              have HK := Lib.hid h9
              clear e1 hx0 h9 hx128
              rcases hsp with ⟨hkb, hx1⟩ | ⟨hkb, _⟩
              all_goals
                go_wp2_with fail
                refine HF.out.mono ?_
                rintro e w1 ⟨rfl, h1, h2⟩
                have H1 := Lib.hid h1
                clear h1
                go_wp2_with fail
                go_ret
                rw [E1.out]
                exact ⟨rfl, H1.out, h2⟩
            · have hv := Hvl.out HX9.out hx128 (by omega)
              have e1 : rI (l, 0) = (zag z2, (l.drop (k + 1), 0)) := by unfold rI; rw [if_neg (by simp)]; simp only; rw [Hv.out, hv, HZ2.out]
              have E1 := Lib.hid e1
              have hR := zag_bits z2 hzl
              have hw2 : wrap64 ((z2 : Int) / 2) = (z2 : Int) / 2 := by unfold wrap64; omega
              rw [hw2] at hR
              have hs2 : (((x : Int) == 0) = true ∧ decide (0 < k) = false) ∨ (((x : Int) == 0) = false ∧ True) := by
                by_cases hx : x = 0
                · refine .inl ⟨by simp; omega, by simp; omega⟩
                · exact .inr ⟨by simp; omega, trivial⟩
              clear e1 hv
              have hcut := hl.cut (k + 1) l.length (by omega) (Nat.le_refl _)
              have hz0 : (l.drop (k + 1)).take (l.length - (k + 1)) = l.drop (k + 1) := List.take_of_length_le (by simp)
              rw [hz0] at hcut
              have hin : ∀ j, inBlock (.slice (if c = k + 1 then some ⟨b, off, none⟩ else (some (⟨b, off, none⟩ : Addr)).map (·.add ((k + 1) * 1))) (l.length - (k + 1)) (c - (k + 1))) j → j < g := by
                intro j hj
                refine ha j ?_
                obtain ⟨ad, n, c2, hv, rfl⟩ := hj
                refine ⟨⟨b, off, none⟩, _, _, rfl, ?_⟩
                simp only [Value.slice.injEq] at hv
                split at hv
                · have := hv.1
                  simp at this
                  rw [← this]
                · have := hv.1
                  simp [add_none] at this
                  rw [← this]
              have HS := Lib.hid (RD.setLeft Hh.out hcut hin)
              have HK := Lib.hid h9
              have HK0 := Lib.hid hx0
              clear hcut hin hz0 hx0 h9 hx128
              rcases hsp with ⟨hkb, hx1⟩ | ⟨hkb, _⟩
              all_goals
                rcases hs2 with ⟨hxb, hki⟩ | ⟨hxb, _⟩
              all_goals
                by_cases hce : c = k + 1
              all_goals
                go_wp2_with fail
                go_ret
                rw [E1.out]
                have hs := HS.out
                refine ⟨rfl, ?_⟩
                first
                  | (rw [if_pos hce, hce, Nat.sub_self] at hs; exact hs)
                  | (rw [if_neg hce, Nat.mul_one, Option.map_some, add_none] at hs; exact hs)
          · have hxi : decide ((x : Int) < 128) = false := by simp; omega
            have H128 := Lib.hid hx128
            have HK := Lib.hid h9
            clear hx128 h9
            rcases hsp with ⟨hkb, hx1⟩ | ⟨hkb, _⟩
            all_goals
              go_wp2_with fail
            · exact absurd (HX9.out (by simp at hkb; omega)) (by have := H128.out; omega)
            · have hk9n : k ≠ 9 := by simp at hkb; omega
              exact ⟨⟨k + 1, z2, by omega, by omega, rfl, by push_cast; rfl, by (show _ < _; rw [HZ2.out]; exact Hz2.out), by (show _ = _; rw [Hv.out, Hvm.out hk9n (by have := H128.out; omega), HZ2.out]), trivial⟩, by simp [intOf]; omega⟩
      · have e1 : rI (l, 0) = (0, (l, 4)) := by unfold rI; rw [if_neg (by simp)]; simp only; rw [Hv.out, vdec_end (by omega) _ rfl]
        have E1 := Lib.hid e1
        clear e1
        have hki : decide ((k : Int) < (l.length : Int)) = false := by simp; omega
        go_wp2_with fail
        refine HF.out.mono ?_
        rintro e w1 ⟨rfl, h1, h2⟩
        have H1 := Lib.hid h1
        clear h1
        go_wp2_with fail
        go_ret
        rw [E1.out]
        exact ⟨rfl, H1.out, h2⟩
  · have e1 : rI (l, e) = (0, (l, e)) := by unfold rI; rw [if_pos he]
    rw [e1]
    have hd : decide (e = 0) = false := by simp [he]
    have hb : (e != 0) = true := by simp [he]
    go_enter Try.func62, Try.ntmps62
    go_wp2_with fail
    go_ret
    exact ⟨rfl, h, Kept.refl _ _⟩

end Cam
