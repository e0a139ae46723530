import Derived.Test.YtfkkojdaceedpaaPkVI
/- cambistref04.Reader: Mark. -/
namespace Cam
open Go Go.RowKit Go.Proofs

set_option maxRecDepth 100000 in
set_option maxHeartbeats 1600000 in
theorem QMark_any (w : World) (g : Nat) (B : List UInt8) (v : Value) (at_ : Nat) (e : Int) (h : QR w g B v at_ e) : Calls Try.prog 26 #[.pointer (some ⟨g, 0, none⟩)] w fun r w' => r = .returned (.bool (rM (B.drop at_, e)).1) ∧ QPost w g B v (rM (B.drop at_, e)).2 w' := by
  obtain ⟨hc0, hc1, hc2, hf1, hf2⟩ := h.cells
  obtain ⟨a, c, rfl, hca, hcm⟩ := h.2.1.shape
  have hat := h.2.2.2
  by_cases he : e = 0
  · subst he
    by_cases hlt : at_ < B.length
    · obtain ⟨b, off, rfl, hck⟩ := h.byte (k := 0) (by rw [List.length_drop]; omega)
      have hbg : b ≠ g := by have := h.2.2.1 (fun e => by rw [e] at hlt; simp at hlt) b ⟨_, _, _, rfl, rfl⟩; omega
      have hge : decide ((B.length : Int) ≤ (at_ : Int)) = false := by simp; omega
      obtain ⟨x, l, hl⟩ : ∃ x l, B.drop at_ = x :: l := ⟨B[at_], B.drop (at_ + 1), List.drop_eq_getElem_cons hlt⟩
      have hl1 : B.drop (at_ + 1) = l := by
        have := congrArg List.tail hl
        rw [List.tail_drop] at this
        simpa using this
      simp only [hl, List.getElem_cons_zero, Nat.add_zero] at hck
      rw [hl]
      have hxu := x.toNat_lt
      by_cases hx1 : 1 < x.toNat
      · have hxi : decide ((1 : Int) < (x.toNat : Int)) = true := by simp; omega
        have HL := Lib.hid hl
        have E1 : Hid (rM (x :: l, 0) = (false, (x :: l, 4))) := by show _ = _; simp [rM, hx1]
        have Hh := Lib.hid h
        clear hl h hl1 hx1
        go_enter Try.func26, Try.ntmps26
        go_wp2_with fail
        go_quiet (fail)
        go_wp2_with fail
        refine (qnone_any _ g B _ at_ (Hh.out.drewN _) 4).mono ?_
        rintro e w1 ⟨rfl, h1, h2⟩
        go_wp2_with fail
        go_ret
        rw [E1.out]
        exact ⟨rfl, at_, h1, HL.out, ((Kept.refl _ _).drewN _).then h2⟩
      · have hxi : decide ((1 : Int) < (x.toNat : Int)) = false := by simp; omega
        have HL := Lib.hid hl1
        obtain ⟨y, hy⟩ : ∃ y, y = decide (x.toNat = 1) := ⟨_, rfl⟩
        have E1 : Hid (rM (x :: l, 0) = (y, (l, 0))) := by show _ = _; simp [rM, hx1, hy]
        have HY := Lib.hid hy
        have Hh := Lib.hid h
        clear hl h hl1 hx1 hy
        go_enter Try.func26, Try.ntmps26
        go_wp2_with fail
        go_quiet (fail)
        go_wp2_with fail
        go_quiet (fail)
        go_wp2_with fail
        go_ret
        rw [E1.out]
        refine ⟨congrArg (fun z => Ending.returned (.bool z)) (?_ : ((x.toNat : Int) == 1) = y), at_ + 1, (((Hh.out.drewN _).put1' (at_ + 1) (by omega) _ (by push_cast; rfl)).1.drewN _), HL.out, ((((Kept.refl _ _).drewN _).then ((Hh.out.drewN _).put1' (at_ + 1) (by omega) _ (by push_cast; rfl)).2).drewN _)⟩
        rw [HY.out, Bool.eq_iff_iff]
        simp
        omega
    · have hge : decide ((B.length : Int) ≤ (at_ : Int)) = true := by simp; omega
      have hl : B.drop at_ = [] := List.drop_of_length_le (by omega)
      rw [hl]
      have HL := Lib.hid hl
      have E1 : Hid (rM ([], 0) = (false, ([], 4))) := rfl
      have Hh := Lib.hid h
      clear hl h
      go_enter Try.func26, Try.ntmps26
      go_wp2_with fail
      go_quiet (fail)
      go_wp2_with fail
      refine (qnone_any _ g B _ at_ (Hh.out.drewN _) 4).mono ?_
      rintro e w1 ⟨rfl, h1, h2⟩
      go_wp2_with fail
      go_ret
      rw [E1.out]
      exact ⟨rfl, at_, h1, HL.out, ((Kept.refl _ _).drewN _).then h2⟩
  · have hb : ((e : Int) == 0) = false := by simp [he]
    have E1 : Hid (rM (B.drop at_, e) = (false, (B.drop at_, e))) := rM_err _ he
    have Hh := Lib.hid h
    clear h
    go_enter Try.func26, Try.ntmps26
    go_wp2_with fail
    go_ret
    rw [E1.out]
    exact ⟨rfl, at_, Hh.out, rfl, Kept.refl _ _⟩

end Cam
