import Derived.Test.YtgeclnjkkjmbaaaWrI
/- pack.Reader: Mark, Text. -/
namespace Cam
open Go Go.RowKit Go.Proofs

theorem inBlock_cut {a : Option Addr} {n c lo n' c' g : Nat} (ha : ∀ j, inBlock (.slice a n c) j → j < g) : ∀ j, inBlock (.slice (if c = lo then a else a.map (·.add (lo * 1))) n' c') j → j < g := by
  intro j hj
  refine ha j ?_
  obtain ⟨ad, m, c2, hv, rfl⟩ := hj
  simp only [Value.slice.injEq] at hv
  split at hv
  · exact ⟨ad, n, c, by rw [hv.1], rfl⟩
  · cases a with
    | none =>
      have := hv.1
      simp at this
    | some ad0 =>
      have := hv.1
      simp only [Option.map_some, Option.some.injEq] at this
      refine ⟨ad0, n, c, rfl, ?_⟩
      rw [← this]
      unfold Addr.add
      split <;> rfl

theorem RD.cutLeft {w : World} {g c : Nat} {a : Option Addr} {l : List UInt8} {e : Int} (h : w.heap[g]? = some (.cells #[.slice a l.length c, .int .i64 e] 198 (0, 0))) (hl : Bs w (.slice a l.length c) l) (ha : ∀ k, inBlock (.slice a l.length c) k → k < g) (lo : Nat) (hlo : lo ≤ l.length) :
    RD (w.setCell ⟨g, 0, none⟩ (.slice (if c = lo then a else a.map (·.add (lo * 1))) (l.length - lo) (c - lo))) g (l.drop lo, e) ∧ Kept (fun k => k = g) w (w.setCell ⟨g, 0, none⟩ (.slice (if c = lo then a else a.map (·.add (lo * 1))) (l.length - lo) (c - lo))) := by
  have hcut := hl.cut lo l.length hlo (Nat.le_refl _)
  have hz0 : (l.drop lo).take (l.length - lo) = l.drop lo := List.take_of_length_le (by simp)
  rw [hz0] at hcut
  exact RD.setLeft h hcut (inBlock_cut ha)

set_option maxHeartbeats 800000 in
theorem RMark_any (w : World) (g : Nat) (s : RS) (h : RD w g s) : Calls Try.prog 113 #[.pointer (some ⟨g, 0, none⟩)] w fun r w' => r = .returned (.bool (rM s).1) ∧ RD w' g (rM s).2 ∧ Kept (fun k => k = g) w w' := by
  obtain ⟨a, c, hc0, hc1, hf0, hf1, hl, ha, hlc, hcm, hh⟩ := h.cell
  obtain ⟨l, e⟩ := s
  simp only at hc0 hc1 hl ha hlc hh
  by_cases he : e = 0
  · subst he
    have hf := fail_any w g (l, 0) 4 h
    rw [show rFail (l, 0) 4 = (l, 4) by simp [rFail]] at hf
    cases l with
    | nil =>
      have e1 : rM ([], 0) = (false, ([], 4)) := by simp [rM]
      have E1 := Lib.hid e1
      clear e1
      go_enter Try.func113, Try.ntmps113
      go_wp2_with fail
      refine hf.mono ?_
      rintro e w1 ⟨rfl, h1, h2⟩
      obtain ⟨a1, c1, hd0, hd1, _⟩ := h1.cell
      have H1 := Lib.hid h1
      clear h1 hf
      go_wp2_with fail
      go_ret
      rw [E1.out]
      exact ⟨rfl, H1.out, h2⟩
    | cons u l =>
      obtain ⟨b, off, rfl, _, hc⟩ := hl.at (by simp)
      have hck := hc 0 (by simp)
      simp only [List.getElem_cons_zero, Nat.add_zero] at hck
      clear hc
      obtain ⟨x, hx⟩ : ∃ x, x = u.toNat := ⟨_, rfl⟩
      by_cases hx1 : 1 < u.toNat
      · have e1 : rM (u :: l, 0) = (false, (u :: l, 4)) := by simp [rM, hx1]
        have E1 := Lib.hid e1
        have hli : (1 : Int) < (x : Int) := by omega
        rw [← hx] at hck
        clear e1 hx1 hx
        have hne : ¬ (u :: l = []) := by simp
        have hln : (((u :: l).length : Int) == 0) = false := by simp; omega
        have hlp : 0 < (u :: l).length := by simp
        generalize hL : u :: l = L at *
        go_enter Try.func113, Try.ntmps113
        go_wp2_with fail
        refine hf.mono ?_
        rintro e w1 ⟨rfl, h1, h2⟩
        obtain ⟨a1, c1, hd0, hd1, _⟩ := h1.cell
        have H1 := Lib.hid h1
        clear h1 hf
        go_wp2_with fail
        go_ret
        rw [E1.out]
        exact ⟨rfl, H1.out, h2⟩
      · have e1 : rM (u :: l, 0) = (decide (u.toNat = 1), (l, 0)) := by simp [rM, hx1]
        have E1 := Lib.hid e1
        have hli : decide ((1 : Int) < (x : Int)) = false := by simp; omega
        have hx1b : ((x : Int) == 1) = decide (u.toNat = 1) := by rw [← hx, Bool.eq_iff_iff]; simp; omega
        rw [← hx] at hck
        have HS := RD.cutLeft hh hl ha 1 (by simp)
        simp only [List.drop_succ_cons, List.drop_zero] at HS
        have HS := Lib.hid HS
        clear e1 hx1 hx
        have hne : ¬ (u :: l = []) := by simp
        have hln : (((u :: l).length : Int) == 0) = false := by simp; omega
        have hlp : 0 < (u :: l).length := by simp
        generalize hL : u :: l = L at *
        by_cases hce : c = 1
        all_goals
          go_enter Try.func113, Try.ntmps113
          go_wp2_with fail
          go_ret
          rw [E1.out]
          have hs := HS.out
          refine ⟨rfl, ?_⟩
          first
            | (rw [if_pos hce, hce, Nat.sub_self] at hs; exact hs)
            | (rw [if_neg hce, Nat.mul_one, Option.map_some, add_none] at hs; exact hs)
  · have e1 : rM (l, e) = (false, (l, e)) := by simp [rM, he]
    rw [e1]
    have hd : decide (e = 0) = false := by simp [he]
    have hb : (e != 0) = true := by simp [he]
    go_enter Try.func113, Try.ntmps113
    go_wp2_with fail
    go_ret
    exact ⟨rfl, h, Kept.refl _ _⟩

end Cam
