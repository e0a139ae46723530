import Derived.Test.YtgeclnjkkjmbaaaGreatWsKz
import Derived.Test.YtgeclnjkkjmbaaaGreatVe
/- wire's reading of a state and the page's end alike. No program in sight; a box ahead of the next part of a state. -/
namespace Cam
open Go Go.RowKit Go.Proofs
set_option linter.unusedVariables false
set_option linter.unusedSimpArgs false
set_option maxHeartbeats 200000
theorem sticks_MbT : Sticks rdMbT := fun _ h => rIs_stick 3 h
theorem sticks_InT : Sticks rdInT := fun _ h => rIs_stick 12 h
theorem sticks_AsT : Sticks rdAsT := fun _ h => rIs_stick 4 h
theorem sticks_TrT : Sticks rdTrT := fun s h => by
 show (rM (rIs 6 s).2).2.2 ≠ 0
 unfold rM
 rw [if_pos (rIs_stick 6 h)]
 exact rIs_stick 6 h
theorem sticks_PoT : Sticks rdPoT := fun _ h => rIs_stick 4 h
theorem sticks_BaT : Sticks rdBaT := fun _ h => rIs_stick 4 h
theorem sticks_PlT : Sticks rdPlT := fun _ h => rIs_stick 3 h
theorem sticks_CaT : Sticks rdCaT := fun _ h => rIs_stick 4 h
theorem sticks_BiT : Sticks rdBiT := fun _ h => rIs_stick 5 h
theorem mny_err {s : RS} (h : s.2 ≠ 0) : mny s = (0, s) := by unfold mny; rw [rI_err s h, if_neg h]
theorem QL.sticks {α : Type} {rd : RS → α × RS} {s s' : RS} {L : List α} (hq : QL rd s L s') (h : s.2 ≠ 0) : s'.2 ≠ 0 := by
 obtain ⟨j, hj, _, rfl, _⟩ := hq
 rw [mny_err h] at hj ⊢
 obtain rfl : j = 0 := by simpa using hj
 exact h
def QSe (s : RS) (x : SeT) (s' : RS) : Prop := ∃ r, QRep (rIs 2 s).2 r s' ∧ x = ⟨(rIs 2 s).1.getD 0 0, (rIs 2 s).1.getD 1 0, r⟩
theorem QSe.sticks {s s' : RS} {x : SeT} (hq : QSe s x s') (h : s.2 ≠ 0) : s'.2 ≠ 0 := by
 obtain ⟨r, ⟨D, s1, F, h1, h2, _⟩, _⟩ := hq
 exact h2.sticks (h1.sticks (rIs_stick 3 (rIs_stick 2 h)))
def QSs : Nat → RS → List SeT → RS → Prop
 | 0, s, M, s' => M = [] ∧ s' = s
 | k + 1, s, M, s' => ∃ M0 s0 x, QSs k s M0 s0 ∧ QSe s0 x s' ∧ M = M0 ++ [x]
def QSL (s : RS) (M : List SeT) (s' : RS) : Prop := ∃ j, j ≤ (mny s).1.toNat ∧ QSs j (mny s).2 M s' ∧ (j = (mny s).1.toNat ∨ s'.2 ≠ 0)
theorem Inv.bad {wb : Bool} {s p : RS} (h : Inv wb s p) (hb : wb = true ∨ s.2 ≠ 0) : p.2 ≠ 0 := by
 rcases h with ⟨rfl, h2, rfl⟩ | ⟨_, h2⟩
 ·
  rcases hb with h | h
  ·
   cases h
  ·
   exact absurd h2 h
 ·
  exact h2
theorem Inv.seat {wb : Bool} {s p p' : RS} {x : SeT} (h : Inv wb s p) (hq : QSe p x p') : Inv (seW wb s) (seS wb s) p' ∧ (Good (seW wb s) (seS wb s) → x = seT wb s) := by
 obtain ⟨r, h1, rfl⟩ := hq
 have i := Inv.rep (h.ints 2) h1
 refine ⟨i.1, fun hg => ?_⟩
 have g0 : Good wb (rIs 2 s).2 := Good.rep hg
 have e0 := rIs_good h (Good.ints 2 g0) 2
 unfold seT
 rw [e0, i.2 hg]
theorem QSs.inv {wb : Bool} {s p : RS} (h : Inv wb s p) : ∀ {k : Nat} {M : List SeT} {p' : RS}, QSs k p M p' → Inv (sesN k wb s).2.2 (sesN k wb s).2.1 p' ∧ (Good (sesN k wb s).2.2 (sesN k wb s).2.1 → M = (sesN k wb s).1)
 | 0, M, p', hq => by
  obtain ⟨rfl, rfl⟩ := hq
  exact ⟨h, fun _ => rfl⟩
 | k + 1, M, p', hq => by
  obtain ⟨M0, s0, x, h0, h1, rfl⟩ := hq
  have ih := QSs.inv h h0
  by_cases hw : (sesN k wb s).2.2 = true
  ·
   rw [show sesN (k + 1) wb s = sesN k wb s from sesN_stop hw 1]
   exact ⟨.inr ⟨.inl hw, h1.sticks (ih.1.bad (.inl hw))⟩, fun hg => by rw [hg.1] at hw; cases hw⟩
  ·
   rw [show sesN (k + 1) wb s = ((sesN k wb s).1 ++ [seT (sesN k wb s).2.2 (sesN k wb s).2.1], seS (sesN k wb s).2.2 (sesN k wb s).2.1, seW (sesN k wb s).2.2 (sesN k wb s).2.1) from if_neg hw]
   have i := Inv.seat ih.1 h1
   refine ⟨i.1, fun hg => ?_⟩
   have g : Good (sesN k wb s).2.2 (sesN k wb s).2.1 := Good.ints 2 (Good.rep hg)
   rw [ih.2 g, i.2 hg]
theorem sesN_bad {k : Nat} {wb : Bool} {s : RS} (h : (sesN k wb s).2.2 = true ∨ (sesN k wb s).2.1.2 ≠ 0) : ∀ m, (sesN (k + m) wb s).2.2 = true ∨ (sesN (k + m) wb s).2.1.2 ≠ 0
 | 0 => h
 | m + 1 => by
  have ih := sesN_bad h m
  rw [← Nat.add_assoc]
  by_cases hw : (sesN (k + m) wb s).2.2 = true
  ·
   rw [show sesN (k + m + 1) wb s = sesN (k + m) wb s from sesN_stop hw 1]
   exact .inl hw
  ·
   have h2 := ih.resolve_left hw
   rw [show sesN (k + m + 1) wb s = ((sesN (k + m) wb s).1 ++ [seT (sesN (k + m) wb s).2.2 (sesN (k + m) wb s).2.1], seS (sesN (k + m) wb s).2.2 (sesN (k + m) wb s).2.1, seW (sesN (k + m) wb s).2.2 (sesN (k + m) wb s).2.1) from if_neg hw]
   exact .inr (elL_stick _ (elL_stick _ (rIs_stick 3 (rIs_stick 2 h2))))
theorem seL_bad {wb : Bool} {s : RS} (h : wb = true ∨ s.2 ≠ 0) : (seL wb s).2.2 = true ∨ (seL wb s).2.1.2 ≠ 0 := by
 unfold seL
 by_cases he : elW wb (rI s).1 = true
 ·
  rw [if_pos he]
  exact .inl rfl
 ·
  rw [if_neg he]
  rcases h with h | h
  ·
   exact absurd (by unfold elW; rw [h]; simp) he
  ·
   have := sesN_bad (k := 0) (wb := wb) (s := (rI s).2) (.inr (rI_stick h)) (rI s).1.toNat
   rw [Nat.zero_add] at this
   exact this
theorem Good.seats {wb : Bool} {s : RS} (h : Good (seL wb s).2.2 (seL wb s).2.1) : Good wb s := by
 have key : ¬ (wb = true ∨ s.2 ≠ 0) := fun hb => by
  rcases seL_bad hb with h1 | h1
  ·
   rw [h.1] at h1; cases h1
  ·
   exact h1 h.2
 refine ⟨?_, Decidable.byContradiction fun hn => key (.inr hn)⟩
 cases wb
 ·
  rfl
 ·
  exact absurd (.inl rfl) key
theorem Inv.seats {wb : Bool} {s p p' : RS} {M : List SeT} (h : Inv wb s p) (hq : QSL p M p') : Inv (seL wb s).2.2 (seL wb s).2.1 p' ∧ (Good (seL wb s).2.2 (seL wb s).2.1 → M = (seL wb s).1) := by
 obtain ⟨j, hj, hs, hor⟩ := hq
 rcases h with ⟨rfl, h2, rfl⟩ | ⟨h1, h2⟩
 ·
  by_cases h0 : (rI p).2.2 = 0
  ·
   by_cases hb : (rI p).1 < 0 ∨ 1024 < (rI p).1
   ·
    have hm : mny p = (0, ((rI p).2.1, 4)) := by unfold mny; rw [if_pos h0, if_pos hb]
    have hE : elW false (rI p).1 = true := by unfold elW; simp; exact hb
    rw [hm] at hj hs
    obtain rfl : j = 0 := by simpa using hj
    obtain ⟨rfl, rfl⟩ := hs
    have hL : seL false p = ([], (rI p).2, true) := by unfold seL; rw [if_pos hE]
    rw [hL]
    exact ⟨.inr ⟨.inl rfl, by simp⟩, fun hg => by have := hg.1; cases this⟩
   ·
    have hm : mny p = rI p := by unfold mny; rw [if_pos h0, if_neg hb]
    have hE : elW false (rI p).1 = false := by unfold elW; simp; omega
    have hL : seL false p = sesN (rI p).1.toNat false (rI p).2 := by unfold seL; rw [hE]; simp
    rw [hm] at hj hor hs
    rw [hL]
    have i := QSs.inv (Inv.of_eq (s := (rI p).2) rfl) hs
    by_cases he : j = (rI p).1.toNat
    ·
     rw [← he]
     exact i
    ·
     have h3 := hor.resolve_left he
     obtain ⟨m, hm2⟩ : ∃ m, (rI p).1.toNat = j + m := ⟨(rI p).1.toNat - j, by omega⟩
     rw [hm2]
     have h5 : (sesN j false (rI p).2).2.2 = true ∨ (sesN j false (rI p).2).2.1.2 ≠ 0 := by
      rcases i.1 with ⟨_, h5, h6⟩ | ⟨h5, _⟩
      ·
       rw [h6] at h3; exact absurd h5 h3
      ·
       exact h5
     have h6 := sesN_bad h5 m
     refine ⟨.inr ⟨h6, h3⟩, fun hg => ?_⟩
     rcases h6 with h | h
     ·
      rw [hg.1] at h; cases h
     ·
      exact absurd hg.2 h
  ·
   have hz := rI_zero h0
   have hm : mny p = (0, (rI p).2) := by unfold mny; rw [if_neg h0]
   have hE : elW false (rI p).1 = false := by unfold elW; rw [hz]; simp
   have hL : seL false p = ([], (rI p).2, false) := by unfold seL; rw [hE, hz]; simp [sesN]
   rw [hm] at hj hs
   obtain rfl : j = 0 := by simpa using hj
   obtain ⟨rfl, rfl⟩ := hs
   rw [hL]
   exact ⟨Inv.of_eq rfl, fun _ => rfl⟩
 ·
  rw [mny_err h2] at hj hs
  obtain rfl : j = 0 := by simpa using hj
  obtain ⟨rfl, rfl⟩ := hs
  have hbad := seL_bad h1
  refine ⟨.inr ⟨hbad, h2⟩, fun hg => ?_⟩
  rcases hbad with h | h
  ·
   rw [hg.1] at h; cases h
  ·
   exact absurd hg.2 h
theorem Inv.state {B : List UInt8} {y0 y1 y2 yb yl : Int} {p1 p2 p3 p4 p5 p6 p7 p8 p9 p10 p11 p12 p13 : RS} {LM : List MbT} {LI : List InT} {LA : List AsT} {LT : List TrT} {LO : List PoT} {LB : List BaT} {LG : List PlT} {LC : List CaT} {LD : List BiT} {LS : List SeT}
  (e0 : rIs 3 (B, 0) = ([y0, y1, y2], p1)) (e1 : QL rdMbT p1 LM p2) (e2 : QL rdInT p2 LI p3) (e3 : QL rdAsT p3 LA p4) (e4 : rI p4 = (yb, p5)) (e5 : QL rdTrT p5 LT p6) (e6 : QL rdPoT p6 LO p7) (e7 : rI p7 = (yl, p8)) (e8 : QL rdBaT p8 LB p9) (e9 : QL rdPlT p9 LG p10) (e10 : QL rdCaT p10 LC p11) (e11 : QL rdBiT p11 LD p12) (e12 : QSL p12 LS p13) :
  Inv (sW13 (B, 0)) (sR13 (B, 0)) p13 ∧ (Good (sW13 (B, 0)) (sR13 (B, 0)) → (⟨y0, y1, y2, LM, LI, LA, yb, LT, LO, yl, LB, LG, LC, LD, LS⟩ : StT) = stT (B, 0)) := by
 have i1 : Inv (sW1 (B, 0)) (sR1 (B, 0)) p1 := by
  have h := (Inv.start B).ints 3
  obtain rfl : (rIs 3 (B, 0)).2 = p1 := by rw [e0]
  exact h
 have i2 := Inv.list sticks_MbT i1 e1
 have i3 := Inv.list sticks_InT i2.1 e2
 have i4 := Inv.list sticks_AsT i3.1 e3
 have i5 : Inv (sW5 (B, 0)) (sR5 (B, 0)) p5 := by
  have h := i4.1.ints 1
  obtain rfl : (rI p4).2 = p5 := by rw [e4]
  exact h
 have i6 := Inv.list sticks_TrT i5 e5
 have i7 := Inv.list sticks_PoT i6.1 e6
 have i8 : Inv (sW8 (B, 0)) (sR8 (B, 0)) p8 := by
  have h := i7.1.ints 1
  obtain rfl : (rI p7).2 = p8 := by rw [e7]
  exact h
 have i9 := Inv.list sticks_BaT i8 e8
 have i10 := Inv.list sticks_PlT i9.1 e9
 have i11 := Inv.list sticks_CaT i10.1 e10
 have i12 := Inv.list sticks_BiT i11.1 e11
 have i13 := Inv.seats i12.1 e12
 refine ⟨i13.1, fun g13 => ?_⟩
 have g12 : Good (sW12 (B, 0)) (sR12 (B, 0)) := Good.seats g13
 have g11 : Good (sW11 (B, 0)) (sR11 (B, 0)) := Good.list (rd := rdBiT) g12
 have g10 : Good (sW10 (B, 0)) (sR10 (B, 0)) := Good.list (rd := rdCaT) g11
 have g9 : Good (sW9 (B, 0)) (sR9 (B, 0)) := Good.list (rd := rdPlT) g10
 have g8 : Good (sW8 (B, 0)) (sR8 (B, 0)) := Good.list (rd := rdBaT) g9
 have g7 : Good (sW7 (B, 0)) (sR7 (B, 0)) := Good.ints 1 g8
 have g6 : Good (sW6 (B, 0)) (sR6 (B, 0)) := Good.list (rd := rdPoT) g7
 have g5 : Good (sW5 (B, 0)) (sR5 (B, 0)) := Good.list (rd := rdTrT) g6
 have g4 : Good (sW4 (B, 0)) (sR4 (B, 0)) := Good.ints 1 g5
 have g3 : Good (sW3 (B, 0)) (sR3 (B, 0)) := Good.list (rd := rdAsT) g4
 have g2 : Good (sW2 (B, 0)) (sR2 (B, 0)) := Good.list (rd := rdInT) g3
 have h4 : yb = (rIs 1 (sR4 (B, 0))).1.getD 0 0 := by
  have h : p4 = sR4 (B, 0) := i4.1.good g4
  rw [h] at e4
  show yb = (rI (sR4 (B, 0))).1
  rw [e4]
 have h7 : yl = (rIs 1 (sR7 (B, 0))).1.getD 0 0 := by
  have h : p7 = sR7 (B, 0) := i7.1.good g7
  rw [h] at e7
  show yl = (rI (sR7 (B, 0))).1
  rw [e7]
 unfold stT
 rw [i2.2 g2, i3.2 g3, i4.2 g4, i6.2 g6, i7.2 g7, i9.2 g9, i10.2 g10, i11.2 g11, i12.2 g12, i13.2 g13, ← h4, ← h7, show sR0 (B, 0) = (B, 0) from rfl, e0]
 rfl
theorem stage_call {w w1 : World} {g ga gb : Nat} {B : List UInt8} {v : Value} {t : RS} {M O : World → Prop} {TX : TypeId} {C vs : List Value} {o : Nat}
  (hq : QM w g B v t (fun x => M x ∧ HT x ga TX C) w1) (HFM : Firm (fun k => k = g ∨ k = ga ∨ gb ≤ k) M) (HB : ∀ x, M x → gb ≤ x.heap.size) (hne : g < ga ∧ w.heap.size ≤ ga ∧ ga < gb) (ho : O w1) (hf : Firm (fun k => k = g ∨ k = ga ∨ w1.heap.size ≤ k) O) (hl : o + vs.length ≤ C.length) :
  ∃ (M' : World → Prop) (gb' : Nat), Firm (fun k => k = g ∨ k = ga ∨ gb' ≤ k) M' ∧ (∀ x, M' x → gb' ≤ x.heap.size) ∧ (∀ x, M' x → M x ∧ O x) ∧ QM w g B v t (fun x => M' x ∧ HT x ga TX (splice C o vs)) (w1.setCells ga o vs) ∧ (g < ga ∧ w.heap.size ≤ ga ∧ ga < gb') ∧ gb ≤ gb' := by
 have hb := HB _ hq.2.1
 have hkS := setCells_kept ga vs o w1
 have hf' : Firm (fun k => k = g ∨ k = ga ∨ w1.heap.size ≤ k) (fun x => (M x ∧ O x) ∧ w1.heap.size ≤ x.heap.size) :=
  Firm.and (Firm.and (Firm.mono HFM (fun k h => by rcases h with h | h | h; exact .inl h; exact .inr (.inl h); exact .inr (.inr (by omega)))) hf) Firm.size
 exact ⟨_, w1.heap.size, hf', fun x h => h.2, fun x h => h.1, ⟨hq.1.keptS hkS (fun k (e : k = ga) => by omega), hf' _ _ ⟨⟨hq.2.1, ho⟩, Nat.le_refl _⟩ (hkS.weaken (fun k (e : k = ga) => .inr (.inl e))), hq.2.2.puts hl⟩, ⟨hne.1, hne.2.1, by omega⟩, hb⟩
theorem QM_rep {W w : World} {g : Nat} {B : List UInt8} {v : Value} {s : RS} {M : World → Prop} (hf : Firm (fun k => k = g) M) (h : QM W g B v s M w) (hlen : B.length ≤ 70368744177664) :
  Calls Tryz.prog 38 #[.pointer (some ⟨g, 0, none⟩)] w fun e w' => ∃ val x s', e = .returned val ∧ RepV w' w.heap.size val x ∧ QRep s x s' ∧ QM W g B v s' M w' := by
 refine (rrep_any w g B v s h.1.rebase hlen).mono ?_
 rintro e w' ⟨val, x, s', he, hv, hr, hq⟩
 obtain ⟨h1, h2⟩ := h.1.since hq
 exact ⟨val, x, s', he, hv, hr, h1, hf _ _ h.2 h2⟩
def SeLt (b : Nat) (v : Value) (L : List SV) : Prop := (∀ k, v.ownBlock = some k → k < b) ∧ ∀ i (h : i < L.length), (∀ k, L[i].vd.ownBlock = some k → k < b) ∧ ∀ k, L[i].vf.ownBlock = some k → k < b
theorem SeOwn.lts {w : World} {base : Nat} {v : Value} {L : List SV} {M : List SeT} (h : SeOwn w base v L M) : SeLt w.heap.size v L :=
 ⟨fun k e => OwnR.lt h.1 k e, fun i hi => ⟨fun k e => ((h.2.2.1 i hi (by rw [← h.2.1]; exact hi)).ge.1 k e).2, fun k e => ((h.2.2.1 i hi (by rw [← h.2.1]; exact hi)).ge.2 k e).2⟩⟩
theorem SeOwn.keptL {S : Nat → Prop} {w w' : World} {base b : Nat} {v : Value} {L : List SV} {M : List SeT} (h : SeOwn w base v L M) (hl : SeLt b v L) (hk : Kept S w w') (hS : ∀ k, base ≤ k → k < b → ¬ S k) : SeOwn w' base v L M :=
 ⟨OwnR.keptS h.1 hk (fun k e => hS k (OwnR.ge h.1 k e) (hl.1 k e)), h.2.1, fun i h1 h2 => (h.2.2.1 i h1 h2).kept hk (fun k e => hS k ((h.2.2.1 i h1 h2).ge.1 k e).1 ((hl.2 i h1).1 k e)) (fun k e => hS k ((h.2.2.1 i h1 h2).ge.2 k e).1 ((hl.2 i h1).2 k e)), h.2.2.2⟩
theorem Firm.seo {S : Nat → Prop} {base b : Nat} {v : Value} {L : List SV} {M : List SeT} (hl : SeLt b v L) (hS : ∀ k, base ≤ k → k < b → ¬ S k) : Firm S (fun w => SeOwn w base v L M) := fun _ _ hm hk => hm.keptL hl hk hS
theorem qstSz : (Tryz.prog.info? 41).map (·.size) = some 15 := by kernel_rfl
theorem QSs.len : ∀ {k : Nat} {s s' : RS} {M : List SeT}, QSs k s M s' → M.length = k
 | 0, _, _, _, h => by rw [h.1]; rfl
 | k + 1, _, _, _, h => by
  obtain ⟨M0, s0, x, h0, _, rfl⟩ := h
  rw [List.length_append, QSs.len h0]
  rfl
end Cam
