import Derived.Test.YtgeclnjkkjmbaaaGreatVb
import Derived.BigQuiet
/- Several small texts in one: WrV, WrVI. No condition. -/
namespace Cam
open Go Go.RowKit Go.Proofs
set_option linter.unusedVariables false
set_option linter.unusedSimpArgs false
set_option maxHeartbeats 800000
def QR (tq : TypeId) (w : World) (g : Nat) (B : List UInt8) (v : Value) (at_ : Nat) (e : Int) : Prop :=
 w.heap[g]? = some (.cells #[v, at_, e] tq (0, 0)) ∧ Bs w v B ∧ (B ≠ [] → ∀ k, inBlock v k → k < g) ∧ at_ ≤ B.length
variable {tq : TypeId}
theorem Kept.then {w w1 w2 : World} {g : Nat} (h : Kept (fun k => k = g) w w1) (h2 : Kept (fun k => k = g) w1 w2) : Kept (fun k => k = g) w w2 := h.trans h2 (fun _ _ h => h)
theorem QR.lt {w : World} {g : Nat} {B : List UInt8} {v : Value} {at_ : Nat} {e : Int} (h : QR tq w g B v at_ e) : g < w.heap.size := (Array.getElem?_eq_some_iff.1 h.1).1
theorem QR.kept {S : Nat → Prop} {w w' : World} {g : Nat} {B : List UInt8} {v : Value} {at_ : Nat} {e : Int} (h : QR tq w g B v at_ e) (hk : Kept S w w') (hS : ∀ k, k ≤ g → ¬ S k) : QR tq w' g B v at_ e :=
 ⟨hk.heap h.1 (hS g (Nat.le_refl _)), h.2.1.kept1 hk (fun hn k hi => hS k (Nat.le_of_lt (h.2.2.1 hn k hi))), h.2.2.1, h.2.2.2⟩
theorem QR.below {w w' : World} {g : Nat} {B : List UInt8} {v : Value} {at_ : Nat} {e : Int} (h : QR tq w g B v at_ e) (hb : Below w.heap.size w w') : QR tq w' g B v at_ e := h.kept (Kept.of_below hb) (fun _ _ h => h)
theorem QR.drewN {w : World} {g : Nat} {B : List UInt8} {v : Value} {at_ : Nat} {e : Int} (h : QR tq w g B v at_ e) (n : Nat) : QR tq (w.drewN n) g B v at_ e := h.below ⟨rfl, rfl, rfl, Nat.le_refl _, fun _ _ => rfl⟩
theorem Kept.drewN {S : Nat → Prop} {w w' : World} (h : Kept S w w') (n : Nat) : Kept S w (w'.drewN n) := ⟨h.os, h.tape, h.output, h.size, h.block⟩
theorem QR.cells {w : World} {g : Nat} {B : List UInt8} {v : Value} {at_ : Nat} {e : Int} (h : QR tq w g B v at_ e) :
  w.cell? ⟨g, 0, none⟩ = some v ∧ w.cell? ⟨g, 1, none⟩ = some (.int .i64 at_) ∧ w.cell? ⟨g, 2, none⟩ = some (.int .i64 e) ∧ w.frozen? ⟨g, 1, none⟩ = false ∧ w.frozen? ⟨g, 2, none⟩ = false := by
 unfold World.cell? World.frozen?
 rw [h.1]
 exact ⟨rfl, rfl, rfl, rfl, rfl⟩
theorem QR.byte {w : World} {g : Nat} {B : List UInt8} {a : Option Addr} {n c : Nat} {at_ : Nat} {e : Int} (h : QR tq w g B (.slice a n c) at_ e) {k : Nat} (hk : k < (B.drop at_).length) :
  ∃ b off, a = some ⟨b, off, none⟩ ∧ w.cell? ⟨b, off + (at_ + k), none⟩ = some (.int .u8 ((B.drop at_)[k].toNat : Int)) := by
 rw [List.length_drop] at hk
 obtain ⟨b, off, e, _, hc⟩ := h.2.1.at (by omega)
 refine ⟨b, off, e, ?_⟩
 rw [List.getElem_drop]
 exact hc (at_ + k) (by omega)
theorem QR.put1 {w : World} {g : Nat} {B : List UInt8} {v : Value} {at_ : Nat} {e : Int} (h : QR tq w g B v at_ e) (m : Nat) (hm : m ≤ B.length) : QR tq (w.setCell ⟨g, 1, none⟩ (.int .i64 m)) g B v m e ∧ Kept (fun k => k = g) w (w.setCell ⟨g, 1, none⟩ (.int .i64 m)) := by
 have hk : Kept (fun k => k = g) w (w.setCell ⟨g, 1, none⟩ (.int .i64 m)) := (Kept.refl _ w).setCell _ _ rfl
 refine ⟨⟨?_, h.2.1.kept1 hk (fun hn k hi e => ?_), h.2.2.1, hm⟩, hk⟩
 ·
  rw [heap_setCell_same w g 1 _ _ _ h.1]
  rfl
 ·
  have := h.2.2.1 hn k hi
  omega
theorem QR.put2 {w : World} {g : Nat} {B : List UInt8} {v : Value} {at_ : Nat} {e : Int} (h : QR tq w g B v at_ e) (e' : Int) : QR tq (w.setCell ⟨g, 2, none⟩ (.int .i64 e')) g B v at_ e' ∧ Kept (fun k => k = g) w (w.setCell ⟨g, 2, none⟩ (.int .i64 e')) := by
 have hk : Kept (fun k => k = g) w (w.setCell ⟨g, 2, none⟩ (.int .i64 e')) := (Kept.refl _ w).setCell _ _ rfl
 refine ⟨⟨?_, h.2.1.kept1 hk (fun hn k hi e => ?_), h.2.2.1, h.2.2.2⟩, hk⟩
 ·
  rw [heap_setCell_same w g 2 _ _ _ h.1]
  rfl
 ·
  have := h.2.2.1 hn k hi
  omega
theorem qnone_any (w : World) (g : Nat) (B : List UInt8) (v : Value) (at_ : Nat) (h : QR tq w g B v at_ 0) (e : Int) : Calls Tryz.prog 95 #[.pointer (some ⟨g, 0, none⟩), e] w fun r w' => r = .returned (.tuple #[]) ∧ QR tq w' g B v at_ e ∧ Kept (fun k => k = g) w w' := by
 obtain ⟨hc0, hc1, hc2, hf1, hf2⟩ := h.cells
 have Hput := Lh (h.put2 e)
 clear h
 go_in
 go_wp2_with fail
 go_end0
 exact ⟨rfl, Hput.out⟩
theorem QDone_any (w : World) (g : Nat) (B : List UInt8) (v : Value) (at_ : Nat) (e : Int) (h : QR tq w g B v at_ e) : Calls Tryz.prog 39 #[.pointer (some ⟨g, 0, none⟩)] w fun r w' => r = .returned (.int .i64 (rD (B.drop at_, e))) ∧ Below w.heap.size w w' := by
 obtain ⟨hc0, hc1, hc2, hf1, hf2⟩ := h.cells
 obtain ⟨a, c, rfl, _, _⟩ := h.2.1.shape
 have hat := h.2.2.2
 by_cases he : e = 0
 ·
  subst he
  by_cases hlt : at_ < B.length
  ·
   have hi : decide ((at_ : Int) < (B.length : Int)) = true := by simp; omega
   have HD : Hid (rD (B.drop at_, 0) = 4) := by show _ = _; unfold rD; rw [if_pos rfl, if_neg (by rw [List.length_drop]; omega)]
   clear h
   go_in
   go_wp2_with fail
   go_quiet (fail)
   go_wp2_with fail
   go_ret
   exact ⟨by rw [HD.out]; rfl, below_drewN' (Below.refl _ _) _⟩
  ·
   have hi : decide ((at_ : Int) < (B.length : Int)) = false := by simp; omega
   have HD : Hid (rD (B.drop at_, 0) = 0) := by show _ = _; unfold rD; rw [if_pos rfl, if_pos (by rw [List.length_drop]; omega)]
   clear h
   go_in
   go_wp2_with fail
   go_quiet (fail)
   go_wp2_with fail
   go_ret
   exact ⟨by rw [HD.out]; rfl, below_drewN' (Below.refl _ _) _⟩
 ·
  have hb : ((e : Int) == 0) = false := by simp [he]
  have HD : Hid (rD (B.drop at_, e) = e) := by show _ = _; unfold rD; rw [if_neg he]
  clear h
  go_in
  go_wp2_with fail
  go_quiet (fail)
  go_wp2_with fail
  go_ret
  exact ⟨by rw [HD.out]; rfl, below_drewN' (Below.refl _ _) _⟩
end Cam
namespace Cam
open Go Go.RowKit Go.Proofs
set_option linter.unusedVariables false
set_option linter.unusedSimpArgs false
set_option maxRecDepth 100000
set_option maxHeartbeats 1600000
variable {tq : TypeId}
theorem add_shift (z x k : Nat) (h : z + x % 128 * 128 ^ k < 18446744073709551616) : IntKind.u64.wrap ((z : Int) + IntKind.u64.wrap ((x : Int) % 128 * 2 ^ (7 * k))) = ((z + x % 128 * 128 ^ k : Nat) : Int) := by
 have e : (x : Int) % 128 * 2 ^ (7 * k) = ((x % 128 * 128 ^ k : Nat) : Int) := by
  push_cast
  rw [show (128 : Int) ^ k = 2 ^ (7 * k) by rw [Int.pow_mul]; rfl]
 rw [e]
 generalize x % 128 * 128 ^ k = y at *
 rw [IntKind.wrap_u64, IntKind.wrap_u64]
 push_cast
 omega
theorem QR.put1' {w : World} {g : Nat} {B : List UInt8} {v : Value} {at_ : Nat} {e : Int} (h : QR tq w g B v at_ e) (m : Nat) (hm : m ≤ B.length) (x : Int) (hx : x = (m : Int)) : QR tq (w.setCell ⟨g, 1, none⟩ (.int .i64 x)) g B v m e ∧ Kept (fun k => k = g) w (w.setCell ⟨g, 1, none⟩ (.int .i64 x)) := by
 subst hx
 exact h.put1 m hm
def QPost (tq : TypeId) (w : World) (g : Nat) (B : List UInt8) (v : Value) (s : RS) (w' : World) : Prop := ∃ m, QR tq w' g B v m s.2 ∧ B.drop m = s.1 ∧ Kept (fun k => k = g) w w'
theorem QInt_any (w : World) (g : Nat) (B : List UInt8) (v : Value) (at_ : Nat) (e : Int) (h : QR tq w g B v at_ e) (hlen : B.length ≤ 70368744177664) : Calls Tryz.prog 34 #[.pointer (some ⟨g, 0, none⟩)] w fun r w' => r = .returned (.int .i64 (rI (B.drop at_, e)).1) ∧ QPost tq w g B v (rI (B.drop at_, e)).2 w' := by
 obtain ⟨hc0, hc1, hc2, hf1, hf2⟩ := h.cells
 obtain ⟨a, c, rfl, hca, hcm⟩ := h.2.1.shape
 have hat := h.2.2.2
 by_cases he : e = 0
 ·
  subst he
  obtain ⟨l, hl⟩ : ∃ l, l = B.drop at_ := ⟨_, rfl⟩
  have hll : l.length = B.length - at_ := by rw [hl, List.length_drop]
  rw [← hl]
  have HL := Lh hl
  clear hl
  go_in
  go_wp2_with fail
  go_loopw [3, 4] (fun zz i wr => ∃ k z : Nat, k ≤ l.length ∧ k ≤ 9 ∧ zz = .int .u64 z ∧ i = .int .i64 k ∧ Hid (z < 128 ^ k) ∧ Hid (vdec 0 1 0 l = vdec k (128 ^ k) z (l.drop k)) ∧ QR tq wr g B (.slice a B.length c) at_ 0 ∧ Kept (fun k => k = g) w wr) (fun _ i _ => l.length - (intOf i).toNat)
  case atStart => exact ⟨0, 0, Nat.zero_le _, by omega, rfl, rfl, (by decide : 0 < 128 ^ 0), rfl, h, Kept.refl _ _⟩
  case round =>
   obtain ⟨k, z, hk, hk9, rfl, rfl, Hz, Hv, hq, hkw⟩ := hrel
   obtain ⟨hd0, hd1, hd2, hg1, hg2⟩ := hq.cells
   clear hc0 hc1 hc2 hf1 hf2 h
   by_cases hlt : k < l.length
   ·
    have hb9 := hq.byte (k := k) (by rw [← HL.out]; exact hlt)
    simp only [← HL.out] at hb9
    obtain ⟨b, off, rfl, hck⟩ := hb9
    have hge : decide ((B.length : Int) ≤ (at_ : Int) + (k : Int)) = false := by simp; omega
    have hxu := l[k].toNat_lt
    have hvl := fun h9 hx h0 => vdec_low (m := 128 ^ k) (z := z) hlt h9 hx h0
    have hv9 := fun h9 hx => vdec_nine (m := 128 ^ k) (z := z) hlt h9 hx
    have hv0 := fun h0 hp => vdec_zero (m := 128 ^ k) (z := z) hlt h0 hp
    have hvm := fun h9 hx => vdec_more (z := z) hlt h9 hx
    obtain ⟨x, hx⟩ : ∃ x, x = l[k].toNat := ⟨_, rfl⟩
    rw [← hx] at hck hxu hvl hv9 hv0 hvm
    have Hvl := Lh hvl
    have Hv9 := Lh hv9
    have Hv0 := Lh hv0
    have Hvm := Lh hvm
    clear hx hvl hv9 hv0 hvm
    by_cases h9 : k = 9 ∧ 1 < x
    ·
     have e1 : rI (l, 0) = (0, (l, 4)) := by unfold rI; rw [if_neg (by simp)]; simp only; rw [Hv.out, Hv9.out h9.1 h9.2]
     have hkb : ((k : Int) == 9) = true := by simp; omega
     have hx1 : decide ((1 : Int) < (x : Int)) = true := by simp; omega
     have E1 := Lh e1
     have HK := Lh h9
     clear h9 e1
     go_wp2_with fail
     go_quiet (fail)
     go_wp2_with fail
     go_quiet (fail)
     go_wp2_with fail
     refine (qnone_any _ g B _ at_ (hq.drewN _) 4).mono ?_
     rintro e w1 ⟨rfl, h1, h2⟩
     go_wp2_with fail
     go_ret
     rw [E1.out]
     exact ⟨rfl, at_, h1, HL.out.symm, (hkw.drewN _).then h2⟩
    ·
     have hxx : k = 9 → x ≤ 1 := fun h => by omega
     by_cases hx0 : x = 0 ∧ 0 < k
     ·
      have e1 : rI (l, 0) = (0, (l, 4)) := by unfold rI; rw [if_neg (by simp)]; simp only; rw [Hv.out, Hv0.out hx0.1 hx0.2]
      have E1 := Lh e1
      have hki : decide ((0 : Int) < (k : Int)) = true := by simp; omega
      have hkn : 0 < k := hx0.2
      have hxb : ((x : Int) == 0) = true := by simp; omega
      have hx1 : decide ((1 : Int) < (x : Int)) = false := by simp; omega
      have hsp : ((k : Int) == 9) = true ∨ ((k : Int) == 9) = false := by cases ((k : Int) == 9) <;> simp
      clear e1 hx0 h9 hxx
      rcases hsp with hkb | hkb
      all_goals
       go_wp2_with fail
       go_quiet (fail)
       go_wp2_with fail
       go_quiet (fail)
       go_wp2_with fail
       refine (qnone_any _ g B _ at_ (hq.drewN _) 4).mono ?_
       rintro e w1 ⟨rfl, h1, h2⟩
       go_wp2_with fail
       go_ret
       rw [E1.out]
       exact ⟨rfl, at_, h1, HL.out.symm, (hkw.drewN _).then h2⟩
     ·
      have hzl := acc_lt64 Hz.out hk9 hxx
      have Hz2 := Lh (acc_lt (x := x) Hz.out)
      have hX := add_shift z x k hzl
      obtain ⟨z2, hz2⟩ : ∃ z2, z2 = z + x % 128 * 128 ^ k := ⟨_, rfl⟩
      rw [← hz2] at hzl hX
      have HZ2 := Lh hz2
      have HX9 := Lh hxx
      have hsp : (((k : Int) == 9) = true ∧ decide ((1 : Int) < (x : Int)) = false) ∨ (((k : Int) == 9) = false ∧ True) := by
       by_cases hk : k = 9
       ·
        have hle := HX9.out hk
        refine .inl ⟨by simp; omega, by simp; omega⟩
       ·
        exact .inr ⟨by simp; omega, trivial⟩
      have hs2 : (((x : Int) == 0) = true ∧ decide ((0 : Int) < (k : Int)) = false ∧ decide (0 < k) = false) ∨ (((x : Int) == 0) = false ∧ decide ((0 : Int) < (k : Int)) = true ∧ decide (0 < k) = true) ∨ (((x : Int) == 0) = false ∧ decide ((0 : Int) < (k : Int)) = false ∧ decide (0 < k) = false) := by
       by_cases hk0 : 0 < k
       ·
        refine .inr (.inl ⟨by simp; omega, by simp; omega, by simp; omega⟩)
       ·
        by_cases hx : x = 0
        ·
         refine .inl ⟨by simp; omega, by simp; omega, by simp; omega⟩
        ·
         exact .inr (.inr ⟨by simp; omega, by simp; omega, by simp; omega⟩)
      have HK := Lh h9
      have HK0 := Lh hx0
      clear hz2 hxx h9 hx0
      by_cases hx128 : x < 128
      ·
       have hxi : decide ((x : Int) < 128) = true := by simp; omega
       have hv := Hvl.out HX9.out hx128 (by have := HK0.out; omega)
       have e1 : rI (l, 0) = (zag z2, (l.drop (k + 1), 0)) := by unfold rI; rw [if_neg (by simp)]; simp only; rw [Hv.out, hv, HZ2.out]
       have E1 := Lh e1
       obtain ⟨y, hy⟩ : ∃ y, y = z2 / 2 := ⟨_, rfl⟩
       have hy2 : (z2 : Int) / 2 = (y : Int) := by omega
       have hyb : y ≤ 9223372036854775807 := by omega
       have ez : (z2 % 2 = 1 ∧ zag z2 = -(y : Int) - 1) ∨ (z2 % 2 = 0 ∧ zag z2 = (y : Int)) := by
        unfold zag
        split
        ·
         exact .inl ⟨by assumption, by rw [hy]⟩
        ·
         exact .inr ⟨by omega, by rw [hy]⟩
       have HY := Lh hy
       clear e1 hv hy hx128
       rcases ez with ⟨hz1, hzg⟩ | ⟨hz1, hzg⟩
       case' inl =>
        have hm : (z2 : Int) % 2 = 1 := by omega
        have HZG := Lh hzg
       case' inr =>
        have hm : (z2 : Int) % 2 = 0 := by omega
        have HZG := Lh hzg
       all_goals
        clear hzg hz1
        rcases hsp with ⟨hkb, hx1⟩ | ⟨hkb, _⟩
       all_goals
        rcases hs2 with ⟨hxb, hki, hkn⟩ | ⟨hxb, hki, hkn⟩ | ⟨hxb, hki, hkn⟩
       all_goals
        go_wp2_with fail
        go_quiet (fail)
        go_wp2_with fail
        go_quiet (fail)
        go_wp2_with fail
        go_ret
        rw [E1.out, HZG.out]
        refine ⟨rfl, at_ + k + 1, ((hq.drewN _).put1' (at_ + k + 1) (by omega) _ (by push_cast; rfl)).1, ?_, (hkw.drewN _).then ((hq.drewN _).put1' (at_ + k + 1) (by omega) _ (by push_cast; rfl)).2⟩
        rw [HL.out, List.drop_drop]
        rfl
      ·
       have hxi : decide ((x : Int) < 128) = false := by simp; omega
       have hv := Hvm.out (by have := HX9.out; omega) (by omega)
       rw [HZ2.out.symm] at hv
       have hV : Hid (vdec 0 1 0 l = vdec (k + 1) (128 ^ (k + 1)) z2 (l.drop (k + 1))) := by show _ = _; rw [Hv.out, hv]
       have hZ : Hid (z2 < 128 ^ (k + 1)) := by show _ < _; rw [HZ2.out]; exact Hz2.out
       have hk8 : k < 9 := by have := HX9.out; omega
       clear hv hx128
       rcases hsp with ⟨hkb, hx1⟩ | ⟨hkb, _⟩
       all_goals
        rcases hs2 with ⟨hxb, hki, hkn⟩ | ⟨hxb, hki, hkn⟩ | ⟨hxb, hki, hkn⟩
       all_goals
        go_wp2_with fail
        go_quiet (fail)
        go_wp2_with fail
        go_quiet (fail)
        go_wp2_with fail
        exact ⟨⟨k + 1, z2, by omega, by omega, rfl, by push_cast; rfl, hZ, hV, hq.drewN _, hkw.drewN _⟩, by simp [intOf]; omega⟩
   ·
    have hge : decide ((B.length : Int) ≤ (at_ : Int) + (k : Int)) = true := by simp; omega
    have e1 : rI (l, 0) = (0, (l, 4)) := by unfold rI; rw [if_neg (by simp)]; simp only; rw [Hv.out, vdec_end (by omega) _ rfl]
    have E1 := Lh e1
    clear e1
    go_wp2_with fail
    go_quiet (fail)
    go_wp2_with fail
    refine (qnone_any _ g B _ at_ (hq.drewN _) 4).mono ?_
    rintro e w1 ⟨rfl, h1, h2⟩
    go_wp2_with fail
    go_ret
    rw [E1.out]
    exact ⟨rfl, at_, h1, HL.out.symm, (hkw.drewN _).then h2⟩
 ·
  have hb : ((e : Int) == 0) = false := by simp [he]
  have E1 : Hid (rI (B.drop at_, e) = (0, (B.drop at_, e))) := rI_err _ he
  have Hh := Lh h
  clear h
  go_in
  go_wp2_with fail
  go_ret
  rw [E1.out]
  exact ⟨rfl, at_, Hh.out, rfl, Kept.refl _ _⟩
end Cam
