import Derived.Test.YtgeclnjkkjmbaaaGreatWrVIz
import Derived.Test.YtgeclnjkkjmbaaaGreatWqA
import Derived.Test.YtgeclnjkkjmbaaaGreatWsJ
/- Several small texts in one: WrVM, YpL. No condition. -/
namespace Cam
open Go Go.RowKit Go.Proofs
set_option linter.unusedVariables false
set_option linter.unusedSimpArgs false
set_option maxRecDepth 100000
set_option maxHeartbeats 1600000
variable {tq : TypeId}
theorem QMark_any (w : World) (g : Nat) (B : List UInt8) (v : Value) (at_ : Nat) (e : Int) (h : QR tq w g B v at_ e) : Calls Tryz.prog 97 #[.pointer (some ⟨g, 0, none⟩)] w fun r w' => r = .returned (.bool (rM (B.drop at_, e)).1) ∧ QPost tq w g B v (rM (B.drop at_, e)).2 w' := by
 obtain ⟨hc0, hc1, hc2, hf1, hf2⟩ := h.cells
 obtain ⟨a, c, rfl, hca, hcm⟩ := h.2.1.shape
 have hat := h.2.2.2
 by_cases he : e = 0
 ·
  subst he
  by_cases hlt : at_ < B.length
  ·
   obtain ⟨b, off, rfl, hck⟩ := h.byte (k := 0) (by rw [List.length_drop]; omega)
   have hbg : b ≠ g := by have := h.2.2.1 (fun e => by rw [e] at hlt; simp at hlt) b ⟨_, _, _, rfl, rfl⟩; omega
   have hge : decide ((B.length : Int) ≤ (at_ : Int)) = false := by simp; omega
   obtain ⟨x, l, hl⟩ : ∃ x l, B.drop at_ = x :: l := ⟨B[at_], B.drop (at_ + 1), List.drop_eq_getElem_cons hlt⟩
   have hl1 : B.drop (at_ + 1) = l := by
    have := congrArg List.tail hl
    rw [List.tail_drop] at this
    simpa using this
   simp only [hl, List.getElem_cons_zero, Nat.add_zero] at hck
   rw [hl]
   have hxu := x.toNat_lt
   by_cases hx1 : 1 < x.toNat
   ·
    have hxi : decide ((1 : Int) < (x.toNat : Int)) = true := by simp; omega
    have HL := Lh hl
    have E1 : Hid (rM (x :: l, 0) = (false, (x :: l, 4))) := by show _ = _; simp [rM, hx1]
    have Hh := Lh h
    clear hl h hl1 hx1
    go_in
    go_wp2_with fail
    go_quiet (fail)
    go_wp2_with fail
    refine (qnone_any _ g B _ at_ (Hh.out.drewN _) 4).mono ?_
    rintro e w1 ⟨rfl, h1, h2⟩
    go_wp2_with fail
    go_ret
    rw [E1.out]
    exact ⟨rfl, at_, h1, HL.out, ((Kept.refl _ _).drewN _).then h2⟩
   ·
    have hxi : decide ((1 : Int) < (x.toNat : Int)) = false := by simp; omega
    have HL := Lh hl1
    obtain ⟨y, hy⟩ : ∃ y, y = decide (x.toNat = 1) := ⟨_, rfl⟩
    have E1 : Hid (rM (x :: l, 0) = (y, (l, 0))) := by show _ = _; simp [rM, hx1, hy]
    have HY := Lh hy
    have Hh := Lh h
    clear hl h hl1 hx1 hy
    go_in
    go_wp2_with fail
    go_quiet (fail)
    go_wp2_with fail
    go_quiet (fail)
    go_wp2_with fail
    go_ret
    rw [E1.out]
    refine ⟨congrArg (fun z => Ending.returned (.bool z)) (?_ : ((x.toNat : Int) == 1) = y), at_ + 1, (((Hh.out.drewN _).put1' (at_ + 1) (by omega) _ (by push_cast; rfl)).1.drewN _), HL.out, ((((Kept.refl _ _).drewN _).then ((Hh.out.drewN _).put1' (at_ + 1) (by omega) _ (by push_cast; rfl)).2).drewN _)⟩
    rw [HY.out, Bool.eq_iff_iff]
    simp
    omega
  ·
   have hge : decide ((B.length : Int) ≤ (at_ : Int)) = true := by simp; omega
   have hl : B.drop at_ = [] := List.drop_of_length_le (by omega)
   rw [hl]
   have HL := Lh hl
   have E1 : Hid (rM ([], 0) = (false, ([], 4))) := rfl
   have Hh := Lh h
   clear hl h
   go_in
   go_wp2_with fail
   go_quiet (fail)
   go_wp2_with fail
   refine (qnone_any _ g B _ at_ (Hh.out.drewN _) 4).mono ?_
   rintro e w1 ⟨rfl, h1, h2⟩
   go_wp2_with fail
   go_ret
   rw [E1.out]
   exact ⟨rfl, at_, h1, HL.out, ((Kept.refl _ _).drewN _).then h2⟩
 ·
  have hb : ((e : Int) == 0) = false := by simp [he]
  have E1 : Hid (rM (B.drop at_, e) = (false, (B.drop at_, e))) := rM_err _ he
  have Hh := Lh h
  clear h
  go_in
  go_wp2_with fail
  go_ret
  rw [E1.out]
  exact ⟨rfl, at_, Hh.out, rfl, Kept.refl _ _⟩
end Cam
namespace Cam
open Go Go.RowKit Go.Proofs
set_option linter.unusedVariables false
set_option linter.unusedSimpArgs false
set_option maxHeartbeats 200000
def codeIn : List Bool → Code → Code
 | [], c => c
 | false :: p, .seq a _ => codeIn p a
 | true :: p, .seq _ b => codeIn p b
 | _, c => c
def codeAt (p : List Bool) (fn : Func) : Code := codeIn p (fn.body.getD .skip)
inductive InCode : List Bool → Code → Code → Prop
 | nil {c : Code} : InCode [] c c
 | l {p : List Bool} {a b c : Code} (h : InCode p a c) : InCode (false :: p) (.seq a b) c
 | r {p : List Bool} {a b c : Code} (h : InCode p b c) : InCode (true :: p) (.seq a b) c
theorem InCode.eq {p : List Bool} {a c : Code} (h : InCode p a c) : codeIn p a = c := by
 induction h with
 | nil => rfl
 | l _ ih => exact ih
 | r _ ih => exact ih
theorem wp_at {P : Program} {fn : Func} {c c' : Code} {p : List Bool} {Q : Exit → Act → World → Prop} {a : Act} {w : World} (hb : fn.body = some c) (hc : InCode p c c') (h : c'.wp P Q a w) : (codeAt p fn).wp P Q a w := by
 unfold codeAt
 rw [hb]
 show (codeIn p c).wp P Q a w
 rw [hc.eq]
 exact h
theorem rI1 (s0 : RS) : ∃ y0 s1, Hid (rI s0 = (y0, s1)) ∧ Hid (rIs 1 s0 = ([y0], s1)) := ⟨_, _, Lh rfl, Lh rfl⟩
theorem rI3 (s0 : RS) : ∃ y0 y1 y2 s1 s2 s3, Hid (rI s0 = (y0, s1)) ∧ Hid (rI s1 = (y1, s2)) ∧ Hid (rI s2 = (y2, s3)) ∧ Hid (rIs 3 s0 = ([y0, y1, y2], s3)) := ⟨_, _, _, _, _, _, Lh rfl, Lh rfl, Lh rfl, Lh rfl⟩
theorem rI4 (s0 : RS) : ∃ y0 y1 y2 y3 s1 s2 s3 s4, Hid (rI s0 = (y0, s1)) ∧ Hid (rI s1 = (y1, s2)) ∧ Hid (rI s2 = (y2, s3)) ∧ Hid (rI s3 = (y3, s4)) ∧ Hid (rIs 4 s0 = ([y0, y1, y2, y3], s4)) := ⟨_, _, _, _, _, _, _, _, Lh rfl, Lh rfl, Lh rfl, Lh rfl, Lh rfl⟩
theorem rI5 (s0 : RS) : ∃ y0 y1 y2 y3 y4 s1 s2 s3 s4 s5, Hid (rI s0 = (y0, s1)) ∧ Hid (rI s1 = (y1, s2)) ∧ Hid (rI s2 = (y2, s3)) ∧ Hid (rI s3 = (y3, s4)) ∧ Hid (rI s4 = (y4, s5)) ∧ Hid (rIs 5 s0 = ([y0, y1, y2, y3, y4], s5)) := ⟨_, _, _, _, _, _, _, _, _, _, Lh rfl, Lh rfl, Lh rfl, Lh rfl, Lh rfl, Lh rfl⟩
theorem rI6 (s0 : RS) : ∃ y0 y1 y2 y3 y4 y5 s1 s2 s3 s4 s5 s6, Hid (rI s0 = (y0, s1)) ∧ Hid (rI s1 = (y1, s2)) ∧ Hid (rI s2 = (y2, s3)) ∧ Hid (rI s3 = (y3, s4)) ∧ Hid (rI s4 = (y4, s5)) ∧ Hid (rI s5 = (y5, s6)) ∧ Hid (rIs 6 s0 = ([y0, y1, y2, y3, y4, y5], s6)) := ⟨_, _, _, _, _, _, _, _, _, _, _, _, Lh rfl, Lh rfl, Lh rfl, Lh rfl, Lh rfl, Lh rfl, Lh rfl⟩
section
variable {α : Type} {enc : α → List Value} {rd : RS → α × RS} {K N g ga gb gf BY F : Nat} {w x x' wr : World} {B : List UInt8} {v u u0 u1 : Value} {s s' t t0 mt : RS} {M M9 : World → Prop} {TX TE KT : TypeId} {C CF Z : List Value} {L D L' : List α} {k : Nat}
def LB (M : World → Prop) (ga : Nat) (TX : TypeId) (C : List Value) (F : Nat) (u0 : Value) (enc : α → List Value) (K : Nat) (TE : TypeId) (gb : Nat) (u : Value) (D : List α) (x : World) : Prop := M x ∧ HT x ga TX (C.set F u0) ∧ OwnR enc K TE x gb u D
theorem LB.firm (hf : Firm (fun k => k = g) M) (h2 : g < ga) (h3 : g < gb) : Firm (fun k => k = g) (LB M ga TX C F u0 enc K TE gb u D) := Firm.and hf (Firm.and (Firm.ht (by omega)) (Firm.own h3))
theorem FMg (h : Firm (fun k => k = g ∨ k = ga ∨ gb ≤ k) M) : Firm (fun k => k = g) M := Firm.mono h (fun _ h => .inl h)
theorem QE (hf : Firm (fun k => k = g) M) (h : QM w g B v s M x) {y : Int} (e : Hid (rI s = (y, s'))) (hl : Hid (B.length ≤ 70368744177664)) :
  Calls Tryz.prog 34 #[.pointer (some ⟨g, 0, none⟩)] x fun r w' => r = .returned (.int .i64 y) ∧ QM w g B v s' M w' := by
 have h1 := QM_Int hf rfl h hl.out
 rw [e.out] at h1
 exact h1
theorem QK (hf : Firm (fun k => k = g) M) (h : QM w g B v s M x) {y : Bool} (e : Hid (rM s = (y, s'))) :
  Calls Tryz.prog 97 #[.pointer (some ⟨g, 0, none⟩)] x fun r w' => r = .returned (.bool y) ∧ QM w g B v s' M w' := by
 have e := e.out
 obtain ⟨m, h1, h2, h3⟩ := h.1
 refine (QMark_any x g B v m s.2 h1).mono ?_
 rw [h2]
 rintro r w' ⟨he, n, k1, k2, k3⟩
 rw [show (s.1, s.2) = s from rfl, e] at he k1 k2
 exact ⟨he, ⟨n, k1, k2, h3.trans k3 (fun _ _ h => h)⟩, hf _ _ h.2 k3⟩
def LpP (enc : α → List Value) (K : Nat) (rd : RS → α × RS) (w : World) (g ga gb F : Nat) (B : List UInt8) (v : Value) (s : RS) (M : World → Prop) (TX TE : TypeId) (C : List Value) (wx : World) : Prop := ∃ D t a n c, QL rd s D t ∧ QM w g B v t (LB M ga TX C F (.slice a n c) enc K TE gb (.slice a n c) D) wx
theorem LpP.mk (h : ∃ D t a n c, QL rd s D t ∧ QM w g B v t (LB M ga TX C F (.slice a n c) enc K TE gb (.slice a n c) D) x) : LpP enc K rd w g ga gb F B v s M TX TE C x := h
theorem loop_in (he : ∀ a, (enc a).length = K) (hq : QM w g B v s (fun x => M x ∧ HT x ga TX C) x) (hf : Firm (fun k => k = g ∨ k = ga ∨ gb ≤ k) M) (hne : g < ga ∧ w.heap.size ≤ ga ∧ ga < gb) (hl : B.length ≤ 70368744177664) (hF : C.set F (.slice none 0 0) = C) :
  ∃ (N : Nat) (mt : RS), Calls Tryz.prog 37 #[.pointer (some ⟨g, 0, none⟩)] x (fun r w' => r = .returned (.int .i64 (N : Int)) ∧ QM w g B v mt (LB M ga TX C F (.slice none 0 0) enc K TE gb (.slice none 0 0) []) w') ∧ Hid ((mny s).1.toNat = N ∧ mt = (mny s).2 ∧ N ≤ 1024) := by
 have hm := mny_range s
 have h1 : QM w g B v s (LB M ga TX C F (.slice none 0 0) enc K TE gb (.slice none 0 0) []) x := ⟨hq.1, hq.2.1, by rw [hF]; exact hq.2.2, OwnR.empty he _ _ _⟩
 have h2 := many_any (LB.firm (FMg hf) hne.1 (by omega)) h1 hl
 unfold MnPost at h2
 obtain ⟨N, hN⟩ : ∃ N : Nat, (mny s).1 = N := ⟨(mny s).1.toNat, by omega⟩
 rw [hN] at h2
 exact ⟨N, _, h2, by show _ ∧ _ ∧ _; exact ⟨by omega, rfl, by omega⟩⟩
theorem loop_rd (hm : Hid ((mny s).1.toNat = N ∧ mt = (mny s).2 ∧ N ≤ 1024)) (hk : k ≤ N) (hq : QM w g B v (rRs rd k mt).2 (LB M ga TX C F u enc K TE gb u (rRs rd k mt).1) wr) :
  ∃ t0 L b, Hid (rRs rd k mt = (L, t0)) ∧ wr.cell? ⟨g, 2, none⟩ = some (.int .i64 b) ∧ Hid (QM w g B v t0 (LB M ga TX C F u enc K TE gb u L) wr) ∧ Hid ((k = N ∨ b ≠ 0) → QL rd s L t0) ∧ Hid (L.length = k) := by
 refine ⟨_, _, _, Lh rfl, ?_, Lh hq, Lh (fun h => ⟨k, by rw [hm.out.1]; exact hk, by rw [← hm.out.2.1], by rw [← hm.out.2.1], by rw [hm.out.1]; exact h⟩), Lh (rRs_len rd k mt)⟩
 obtain ⟨m, h1, _⟩ := hq.1
 exact h1.cells.2.2.1
theorem loop_nx (h : Hid (rRs rd k mt = (L, t0))) {c : α} (e : rd t0 = (c, t)) : Hid ((rRs rd (k + 1) mt).1 = L ++ [c] ∧ (rRs rd (k + 1) mt).2 = t) := by
 show _ ∧ _
 simp only [rRs]
 rw [h.out]
 dsimp only
 rw [e]
 exact ⟨rfl, rfl⟩
theorem loop_le (h : Hid (L.length = k)) (hm : Hid ((mny s).1.toNat = N ∧ mt = (mny s).2 ∧ N ≤ 1024)) (hk : k ≤ N) (hb : BY ≤ 1000) : (L.length + 1) * BY ≤ 140737488355328 := by
 have h1 := h.out
 have h2 := hm.out.2.2
 have h3 : (L.length + 1) * BY ≤ 1025 * 1000 := Nat.mul_le_mul (by omega) hb
 omega
theorem box_in (hq : QM w g B v t (LB M ga TX C F u0 enc K TE gb u L) wr) (hf : Firm (fun k => k = g ∨ k = ga ∨ gb ≤ k) M) (hB : ∀ x, M x → gb ≤ x.heap.size) (hne : g < ga ∧ w.heap.size ≤ ga ∧ ga < gb) :
  ∃ (gb9 : Nat) (M9 : World → Prop), Hid (Firm (fun k => k = g ∨ gb9 ≤ k) M9) ∧ Hid (Firm (fun k => k = g) M9) ∧ Hid (∀ x, M9 x → gb9 ≤ x.heap.size) ∧ Hid (∀ x, M9 x → LB M ga TX C F u0 enc K TE gb u L x) ∧ Hid (QM w g B v t M9 wr) ∧ Hid (g < ga ∧ w.heap.size ≤ ga ∧ ga < gb9 ∧ gb ≤ gb9) ∧ Hid (∀ k, u.ownBlock = some k → k < gb9) := by
 have h1 := OwnR.lt hq.2.2.2
 have h2 := OwnR.ge hq.2.2.2
 have h3 := hq.2.2.1.lt
 have h4 := hB _ hq.2.1
 have hF : Firm (fun k => k = g ∨ wr.heap.size ≤ k) (fun x => LB M ga TX C F u0 enc K TE gb u L x ∧ wr.heap.size ≤ x.heap.size) :=
  Firm.and (Firm.and (Firm.mono hf (fun k h => by rcases h with h | h; exact .inl h; exact .inr (.inr (by omega)))) (Firm.and (Firm.ht (by omega)) (Firm.own' (fun k hk e => by have h1 := h1 k hk; have h2 := h2 k hk; omega)))) Firm.size
 exact ⟨wr.heap.size, _, hF, Firm.mono hF (fun _ h => .inl h), fun x hx => hx.2, fun x hx => hx.1, ⟨hq.1, hq.2, Nat.le_refl _⟩, ⟨hne.1, hne.2.1, h3, h4⟩, h1⟩
def BoxP (w : World) (g : Nat) (B : List UInt8) (v : Value) (t : RS) (M9 : World → Prop) (KT : TypeId) (CF : List Value) (gb9 : Nat) (p : Value) (x : World) : Prop := ∃ gf, p = .pointer (some ⟨gf, 0, none⟩) ∧ QM w g B v t (fun x => M9 x ∧ HT x gf KT CF) x ∧ g < gf ∧ w.heap.size ≤ gf ∧ gb9 ≤ gf ∧ gf < x.heap.size
theorem box_new (hA : QM w g B v t M9 x) (hf : Firm (fun k => k = g) M9) (hB : ∀ x, M9 x → gb ≤ x.heap.size) : ∃ gf, x.heap.size = gf ∧ Hid (g < gf ∧ w.heap.size ≤ gf ∧ gb ≤ gf) ∧ Hid (Firm (fun k => k = g) (fun x => M9 x ∧ HT x gf KT Z)) ∧ QM w g B v t (fun x => M9 x ∧ HT x gf KT Z) (x.alloc (.cells Z.toArray KT)) := by
 have h1 := hA.1.lt
 have h2 := hA.1.size
 have h3 := hB _ hA.2
 have hb : Below x.heap.size x (x.alloc (.cells Z.toArray KT)) := Bn
 exact ⟨_, rfl, ⟨h1, h2, h3⟩, Firm.and hf (Firm.ht (by omega)), hA.1.below hb, Firm.below hf hA.2 hb, HT.new⟩
theorem box_put (hb : QM w g B v t (fun x => M9 x ∧ HT x gf KT Z) x) (hf : Firm (fun k => k = g ∨ gb ≤ k) M9) (hne : g < gf ∧ w.heap.size ≤ gf ∧ gb ≤ gf) (hl : Z.length = CF.length) : BoxP w g B v t M9 KT CF gb (.pointer (some ⟨gf, 0, none⟩)) (x.setCells gf 0 CF) := by
 have h1 := hb.2.2.puts (o := 0) (vs := CF) (by omega)
 rw [splice_all hl.symm] at h1
 have hk := setCells_kept gf CF 0 x
 exact ⟨gf, rfl, ⟨hb.1.keptS hk (fun k (e : k = gf) => by omega), hf _ _ hb.2.1 (hk.weaken (fun k (e : k = gf) => .inr (by omega))), h1⟩, hne.1, hne.2.1, hne.2.2, h1.lt⟩
theorem row_app (hA : QM w g B v t (LB M ga TX C F u0 enc K TE gb u0 L) x) (hf : Firm (fun k => k = g ∨ k = ga ∨ gb ≤ k) M) (hne : g < ga ∧ w.heap.size ≤ ga ∧ ga < gb) (hg : x.grownBy x' u0.ownBlock) (ho : OwnR enc K TE x' gb u1 L') : QM w g B v t (LB M ga TX C F u0 enc K TE gb u1 L') x' := by
 have hge := OwnR.ge hA.2.2.2
 have hk := Kept.of_grown hg
 exact ⟨hA.1.keptS hk (fun k e => by have := hge k e; omega), hf _ _ hA.2.1 (hk.weaken (fun k e => .inr (.inr (hge k e)))), hA.2.2.1.keptH hk (fun e => by have := hge _ e; omega), ho⟩
theorem row_put (h : QM w g B v t (LB M ga TX C F u0 enc K TE gb u1 L') x) (hf : Firm (fun k => k = g ∨ k = ga ∨ gb ≤ k) M) (hne : g < ga ∧ w.heap.size ≤ ga ∧ ga < gb) : QM w g B v t (LB M ga TX C F u1 enc K TE gb u1 L') (x.setCell ⟨ga, F, none⟩ u1) := by
 have hk : Kept (fun k => k = ga) x (x.setCell ⟨ga, F, none⟩ u1) := (Kept.refl _ x).setCell _ _ rfl
 exact ⟨h.1.keptS hk (fun k (e : k = ga) => by omega), hf _ _ h.2.1 (hk.weaken (fun k (e : k = ga) => .inr (.inl e))), h.2.2.1.put' F _ (by rw [List.set_set]), OwnR.keptS h.2.2.2 hk (fun k hk (e : k = ga) => by have := OwnR.ge h.2.2.2 k hk; omega)⟩
def BM (M : World → Prop) (gf : Nat) (KT : TypeId) (CF : List Value) (x : World) : Prop := M x ∧ HT x gf KT CF
theorem BM.firm (hf : Firm (fun k => k = g) M) (h : g < gf) : Firm (fun k => k = g) (BM M gf KT CF) := Firm.and hf (Firm.ht (by omega))
theorem box_row (h : QM w g B v t (fun x => M9 x ∧ HT x gf KT CF) x) (hx : ∀ x, M9 x → LB M ga TX C F u0 enc K TE gb u L x) : QM w g B v t (LB (BM M gf KT CF) ga TX C F u0 enc K TE gb u L) x := ⟨h.1, ⟨(hx _ h.2.1).1, h.2.2⟩, (hx _ h.2.1).2⟩
theorem row_appB (hA : QM w g B v t (LB (BM M gf KT CF) ga TX C F u0 enc K TE gb u0 L) x) (hf : Firm (fun k => k = g ∨ k = ga ∨ gb ≤ k) M) (hne : g < ga ∧ w.heap.size ≤ ga ∧ ga < gb) (hob : ∀ k, u0.ownBlock = some k → k < gf) (hg : x.grownBy x' u0.ownBlock) (ho : OwnR enc K TE x' gb u1 L') : QM w g B v t (LB (BM M gf KT CF) ga TX C F u0 enc K TE gb u1 L') x' := by
 have hge := OwnR.ge hA.2.2.2
 have hk := Kept.of_grown hg
 exact ⟨hA.1.keptS hk (fun k e => by have := hge k e; omega), ⟨hf _ _ hA.2.1.1 (hk.weaken (fun k e => .inr (.inr (hge k e)))), hA.2.1.2.keptH hk (fun e => by have := hob _ e; omega)⟩, hA.2.2.1.keptH hk (fun e => by have := hge _ e; omega), ho⟩
theorem LB.unbox (h : QM w g B v t (LB (BM M gf KT CF) ga TX C F u0 enc K TE gb u L) x) : QM w g B v t (LB M ga TX C F u0 enc K TE gb u L) x := ⟨h.1, h.2.1.1, h.2.2⟩
theorem eff_load_row {P : Program} {op : Oper} {a : Act} {w : World} (ty : TypeId) (x : Operand) (ho : op.op = .load ty x)
  (b : Nat) (hx : a.eval x = .pointer (some ⟨b, 0, none⟩)) (cs : List Value) (d : TypeDesc) (hc : HT w b ty cs)
  (hu : P.underlying ty = some d) (hd : (match d with | .struct _ | .array _ _ => true | _ => false) = true) (hi : (P.info? ty).map (·.size) = some cs.toArray.size) : EffR P (.agg cs.toArray) w ((execOp a.eval op).run P w) :=
 EffR.same (by
  unfold execOp
  simp only [ho, hx, Instr.loadAt, Instr.sureAddr, Sem.run_bind, Sem.run_pure, Result.andThen_ok, run_loadVar_row w b ty ty cs.toArray (0, 0) d hc hu hd hi])
theorem qkeySz : (Tryz.prog.info? 96).map (·.size) = some 2 := by kernel_rfl
theorem qacctSz : (Tryz.prog.info? 100).map (·.size) = some 3 := by kernel_rfl
theorem qdueSz : (Tryz.prog.info? 106).map (·.size) = some 3 := by kernel_rfl
theorem set_at (hC : F < C.length) (u : Value) : (C.set F u)[F]? = some u := by
 rw [List.getElem?_set_self hC]
end
end Cam
