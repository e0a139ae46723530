import Derived.Test.YtgeclnjkkjmbaaaGreatYp2
import Derived.Test.YtgeclnjkkjmbaaaGreatYpM
import Derived.Test.YtgeclnjkkjmbaaaGreatWqB
import Derived.Test.YtgeclnjkkjmbaaaGreatWsJ
import Derived.Test.YtgeclnjkkjmbaaaGreatVd
/- Several small texts in one: WqD, WqF, WsK. No condition. -/
namespace Cam
open Go Go.RowKit Go.Proofs
set_option linter.unusedVariables false
set_option linter.unusedSimpArgs false
set_option maxRecDepth 100000
set_option maxHeartbeats 6400000
theorem qbookSz : (Tryz.prog.info? 32).map (·.size) = some 3 := by kernel_rfl
def QbookPost (w : World) (g : Nat) (B : List UInt8) (v : Value) (s : RS) (e : Ending) (w' : World) : Prop := ∃ (y : Int) (a1 : Option Addr) (n1 c1 : Nat) (a2 : Option Addr) (n2 c2 : Nat) (T : List TrT) (O : List PoT) (s1 s2 s3 : RS),
 e = .returned (.agg #[y, .slice a1 n1 c1, .slice a2 n2 c2]) ∧ rI s = (y, s1) ∧ OwnR TrT.vs 7 93 w' w.heap.size (.slice a1 n1 c1) T ∧ OwnR PoT.vs 4 98 w' w.heap.size (.slice a2 n2 c2) O ∧
 QL rdTrT s1 T s2 ∧ QL rdPoT s2 O s3 ∧ QPost 122 w g B v s3 w'
theorem rbook_any (w : World) (g : Nat) (B : List UInt8) (v : Value) (s : RS) (h : QPost 122 w g B v s w) (hlen : B.length ≤ 70368744177664) :
  Calls Tryz.prog 36 #[.pointer (some ⟨g, 0, none⟩)] w (QbookPost w g B v s) := by
 have hg := h.lt
 have hb1 : Below w.heap.size w (w.alloc (.cells #[(0:Int), (), ()] 32)) := Bn
 have hc : HT (w.alloc (.cells #[(0:Int), (), ()] 32)) w.heap.size 32 [(0:Int), (), ()] := HT.new (w := w)
 have hq0 : QM w g B v s (fun x => w.heap.size + 1 ≤ x.heap.size ∧ HT x w.heap.size 32 [(0:Int), (), ()]) (w.alloc (.cells #[(0:Int), (), ()] 32)) := ⟨h.below hb1, by simp, hc⟩
 obtain ⟨gb, hgb⟩ : ∃ b, b = w.heap.size + 1 := ⟨_, rfl⟩
 obtain ⟨g2, hg2⟩ : ∃ b, b = w.heap.size := ⟨_, rfl⟩
 have HG2 : Hid (g2 = w.heap.size ∧ gb = g2 + 1 ∧ g < g2) := ⟨hg2, by omega, by omega⟩
 rw [← hgb, ← hg2] at hq0
 obtain ⟨M0, hM0⟩ : ∃ M : World → Prop, M = (fun x => gb ≤ x.heap.size ∧ HT x g2 32 [(0:Int), (), ()]) := ⟨_, rfl⟩
 rw [← hM0] at hq0
 have HF0 : Hid (Firm (fun k => k = g) M0) := by show Firm _ _; rw [hM0]; exact Firm.and Firm.size (Firm.ht (by omega))
 have HFM : Hid (Firm (fun k => k = g ∨ gb ≤ k) M0) := by show Firm _ _; rw [hM0]; exact Firm.and Firm.size (Firm.ht (by omega))
 have HB0 : Hid (∀ x, M0 x → gb ≤ x.heap.size) := by intro x hx; rw [hM0] at hx; exact hx.1
 have HX0 : Hid (∀ x, M0 x → HT x g2 32 [(0:Int), (), ()]) := by intro x hx; rw [hM0] at hx; exact hx.2
 have HQ0 := Lh hq0
 have HLEN := Lh hlen
 obtain ⟨s0, hs0⟩ : ∃ s0, s0 = s := ⟨_, rfl⟩
 rw [← hs0] at HQ0 ⊢
 obtain ⟨y0, s1, p0, HQ⟩ := rI1 s0
 have HY0 : Hid (rI s0 = (y0, s1)) := p0
 clear hs0 hM0 hb1 hc hq0 h hlen hg hgb hg2
 go_in
 go_upto_region 1 with fail
 rw [← HG2.out.1]
 generalize hW0 : (w.alloc (.cells #[(0:Int), (), ()] 32)) = W0 at *
 clear hW0
 go_cut [3] (fun v3 wx => ∃ ga, v3 = .pointer (some ⟨ga, 0, none⟩) ∧ QM w g B v s1 (fun x => M0 x ∧ HT x ga 32 [y0, (), ()]) wx ∧ g < ga ∧ w.heap.size ≤ ga ∧ gb ≤ ga)
 case first =>
  have qi := QE HF0.out HQ0.out p0 HLEN
  go_wp2_with fail
  refine qi.mono ?_
  clear qi
  rintro e w1 ⟨rfl, hq1⟩
  have HQ1 := Lh hq1
  have hgl := hq1.1.lt
  have hgs := hq1.1.size
  have hgb2 := HB0.out _ hq1.2
  have HNE : Hid (g < w1.heap.size ∧ w.heap.size ≤ w1.heap.size ∧ gb ≤ w1.heap.size) := by show _ ∧ _ ∧ _; omega
  have HG4 : Hid ((w1.alloc (.cells #[.int .i64 0, .slice none 0 0, .slice none 0 0] 32)).heap[w1.heap.size]? = some (.cells #[.int .i64 0, .slice none 0 0, .slice none 0 0] 32 (0, 0))) := HT.new (w := w1) (t := 32) (C := [.int .i64 0, .slice none 0 0, .slice none 0 0])
  have HSZ : Hid ((Tryz.prog.info? 32).map (·.size) = some (#[y0, (), ()] : Array Value).size) := by show _ = _; rw [qbookSz]; rfl
  have HSE : Hid ((#[(0:Int), (), ()] : Array Value).size = (#[y0, (), ()] : Array Value).size) := by show _ = _; rfl
  have HONE : Hid ((#[y0, (), ()] : Array Value).all (·.oneCell') = true) := by show _ = true; simp [Value.oneCell']
  clear hq1 hgl hgs hgb2
  go_wp2_with (first
   | (refine wpList_store_row rfl 32 (.tmp 3) (.tmp 11) rfl w1.heap.size #[y0, (), ()] rfl rfl 32 #[(0:Int), (), ()] HG4.out HSZ.out HSE.out HONE.out ?_)
   | fail)
  go_meet
  have hbx : Below w1.heap.size w1 (w1.alloc (.cells #[(0:Int), (), ()] 32)) := Bn
  have hkr : Kept (fun k => k = w1.heap.size) (w1.alloc (.cells #[(0:Int), (), ()] 32)) ((w1.alloc (.cells #[(0:Int), (), ()] 32)).setRow w1.heap.size #[y0, (), ()]) := ⟨rfl, rfl, rfl, by simp [World.setRow], fun k _ hn => setRow_other _ _ _ _ hn⟩
  exact ⟨w1.heap.size, rfl, ⟨(HQ1.out.1.below hbx).keptS hkr (fun k (e : k = w1.heap.size) => by have := HNE.out; omega), HFM.out _ _ (Firm.below HF0.out HQ1.out.2 hbx) (hkr.weaken (fun k (e : k = w1.heap.size) => .inr (by have := HNE.out; omega))), setRow_heap _ _ _ _ _ _ HG4.out⟩, HNE.out⟩
 case rest =>
  obtain ⟨ga, rfl, hq, hne⟩ := hcut
  have hgl := hq.2.2.lt
  obtain ⟨gb1, hgb1⟩ : ∃ b, b = ga + 1 := ⟨_, rfl⟩
  obtain ⟨M1, hM1⟩ : ∃ M : World → Prop, M = (fun x => M0 x ∧ gb1 ≤ x.heap.size) := ⟨_, rfl⟩
  have HFM1 : Hid (Firm (fun k => k = g ∨ k = ga ∨ gb1 ≤ k) M1) := by show Firm _ _; rw [hM1]; exact Firm.and (Firm.mono HFM.out (fun k h => by rcases h with h | h | h; exact .inl h; exact .inr (by omega); exact .inr (by omega))) Firm.size
  have HB1 : Hid (∀ x, M1 x → gb1 ≤ x.heap.size) := by intro x hx; rw [hM1] at hx; exact hx.2
  have HX1 : Hid (∀ x, M1 x → HT x g2 32 [(0:Int), (), ()]) := by intro x hx; rw [hM1] at hx; exact HX0.out _ hx.1
  have HNE1 : Hid (g < ga ∧ w.heap.size ≤ ga ∧ ga < gb1) := by show _ ∧ _ ∧ _; omega
  have HQS1 : Hid (QM w g B v s1 (fun x => M1 x ∧ HT x ga 32 [y0, (), ()]) _) := ⟨hq.1, by rw [hM1]; exact ⟨hq.2.1, by omega⟩, hq.2.2⟩
  clear hq hne hgl hgb1 hM1 HB0 HFM HF0 HQ0 HX0
  obtain ⟨N, mt, mn, HMN⟩ := loop_in (F := 1) TrT.len HQS1.out HFM1.out HNE1.out HLEN.out rfl
  go_wp2_with fail
  refine mn.mono ?_
  clear mn
  rintro e w1 ⟨rfl, hq1⟩
  have HQ1 := Lh hq1
  clear hq1
  go_upto_block 0 with fail
  refine rs_trd HLEN HNE1 HFM1 HB1 (Lh (by simp)) HMN HQ1 ?_
  intros
  rename_i wx hx
  obtain ⟨D1, u2, a1, n1, c1, hQL, hq⟩ := hx
  obtain ⟨M2, gb2, HFM2, HB2, HX2, HQS, HNE2, HGB2⟩ := stage_nx hq HFM1.out HB1.out HNE1.out
  have HQL1 := Lh hQL
  have HQS2 : Hid (QM w g B v u2 (fun x => M2 x ∧ HT x ga 32 [y0, .slice a1 n1 c1, ()]) wx) := HQS
  clear hQL hq HQS HMN HQ1
  obtain ⟨N, mt, mn, HMN⟩ := loop_in (F := 2) PoT.len HQS2.out HFM2.out HNE2.out HLEN.out rfl
  go_wp2_with fail
  refine mn.mono ?_
  clear mn
  rintro e w1 ⟨rfl, hq1⟩
  have HQ1 := Lh hq1
  clear hq1
  go_upto_block 2 with fail
  refine rs_pos HLEN HNE2 HFM2 HB2 (Lh (by simp)) HMN HQ1 ?_
  intros
  rename_i wx hx
  obtain ⟨D2, u3, a2, n2, c2, hQL, hq⟩ := hx
  obtain ⟨M3, gb3, HFM3, HB3, HX3, HQS, HNE3, HGB3⟩ := stage_nx hq HFM2.out HB2.out HNE2.out
  have HQL2 := Lh hQL
  have HQS3 : Hid (QM w g B v u3 (fun x => M3 x ∧ HT x ga 32 [y0, .slice a1 n1 c1, .slice a2 n2 c2]) wx) := HQS
  clear hQL hq HQS HMN HQ1
  have hq := HQS3.out
  have m2 := HX3.out _ hq.2.1
  have m1 := HX2.out _ m2.1
  have h2 := HX1.out _ m1.1
  have HG3 : Hid (wx.heap[ga]? = some (.cells #[y0, .slice a1 n1 c1, .slice a2 n2 c2] 32 (0, 0))) := hq.2.2
  have HG4 : Hid (wx.heap[g2]? = some (.cells #[(0:Int), (), ()] 32 (0, 0))) := h2
  have HSZ : Hid ((Tryz.prog.info? 32).map (·.size) = some (#[y0, .slice a1 n1 c1, .slice a2 n2 c2] : Array Value).size) := by show _ = _; rw [qbookSz]; rfl
  have HSE : Hid ((#[(0:Int), (), ()] : Array Value).size = (#[y0, .slice a1 n1 c1, .slice a2 n2 c2] : Array Value).size) := by show _ = _; rfl
  have HONE : Hid ((#[y0, .slice a1 n1 c1, .slice a2 n2 c2] : Array Value).all (·.oneCell') = true) := by show _ = true; simp [Value.oneCell']
  have HQE := Lh (⟨hq.1, m1.2, m2.2⟩ : _ ∧ _ ∧ _)
  clear hq m2 m1 h2
  go_wp2_with (first
   | (refine wpList_load_row rfl 32 (.tmp 3) rfl ga rfl 32 #[y0, .slice a1 n1 c1, .slice a2 n2 c2] (0, 0) _ HG3.out Tryz.underlying32 rfl HSZ.out ?_)
   | (refine wpList_store_row rfl 32 (.tmp 2) (.tmp 98) rfl g2 #[y0, .slice a1 n1 c1, .slice a2 n2 c2] rfl rfl 32 #[(0:Int), (), ()] HG4.out HSZ.out HSE.out HONE.out ?_)
   | fail)
  refine bodyPost_ret (results_cell_row rfl _ _ g2 32 #[y0, .slice a1 n1 c1, .slice a2 n2 c2] (0, 0) _ rfl (setRow_heap _ _ _ _ _ _ HG4.out) Tryz.underlying32 rfl HSZ.out) rfl ?_
  have hkr : Kept (fun k => k = g2) wx (wx.setRow g2 #[y0, .slice a1 n1 c1, .slice a2 n2 c2]) := ⟨rfl, rfl, rfl, by simp [World.setRow], fun k _ hn => setRow_other _ _ _ _ hn⟩
  obtain ⟨e1, e2, e3⟩ := HQE.out
  have hG := HG2.out
  have hN1 := HNE1.out
  have hg1 := HGB2.out
  refine ⟨y0, a1, n1, c1, a2, n2, c2, D1, D2, s1, u2, u3, rfl, HY0.out, OwnR.base (OwnR.keptS e2 hkr (fun k hk (e : k = g2) => by have := OwnR.ge e2 k hk; omega)) (by omega), OwnR.base (OwnR.keptS e3 hkr (fun k hk (e : k = g2) => by have := OwnR.ge e3 k hk; omega)) (by omega), HQL1.out, HQL2.out, e1.keptS hkr (fun k (e : k = g2) => by omega)⟩
end Cam
namespace Cam
open Go Go.RowKit Go.Proofs
set_option linter.unusedVariables false
set_option linter.unusedSimpArgs false
set_option maxHeartbeats 200000
def QrollAt (W w : World) (g : Nat) (B : List UInt8) (v : Value) (s : RS) (M : World → Prop) (e : Ending) (w' : World) : Prop := ∃ (a1 : Option Addr) (n1 c1 : Nat) (a2 : Option Addr) (n2 c2 : Nat) (a3 : Option Addr) (n3 c3 : Nat) (D1 : List MbT) (D2 : List InT) (D3 : List AsT) (s1 s2 s3 : RS),
 e = .returned (.agg #[.slice a1 n1 c1, .slice a2 n2 c2, .slice a3 n3 c3]) ∧ OwnR MbT.vs 3 86 w' w.heap.size (.slice a1 n1 c1) D1 ∧ OwnR InT.vs 12 88 w' w.heap.size (.slice a2 n2 c2) D2 ∧ OwnR AsT.vs 4 91 w' w.heap.size (.slice a3 n3 c3) D3 ∧
 QL rdMbT s D1 s1 ∧ QL rdInT s1 D2 s2 ∧ QL rdAsT s2 D3 s3 ∧ QM W g B v s3 M w'
theorem qroll_any {W w : World} {g : Nat} {B : List UInt8} {v : Value} {s : RS} {M : World → Prop} (hf : Firm (fun k => k = g) M) (h : QM W g B v s M w) (hlen : B.length ≤ 70368744177664) :
  Calls Tryz.prog 35 #[.pointer (some ⟨g, 0, none⟩)] w (QrollAt W w g B v s M) := by
 refine (rroll_any w g B v s h.1.rebase hlen).mono ?_
 rintro e w' ⟨a1, n1, c1, a2, n2, c2, a3, n3, c3, D1, D2, D3, s1, s2, s3, e1, o1, o2, o3, q1, q2, q3, hq⟩
 obtain ⟨h1, h2⟩ := h.1.since hq
 exact ⟨a1, n1, c1, a2, n2, c2, a3, n3, c3, D1, D2, D3, s1, s2, s3, e1, o1, o2, o3, q1, q2, q3, h1, hf _ _ h.2 h2⟩
def QbookAt (W w : World) (g : Nat) (B : List UInt8) (v : Value) (s : RS) (M : World → Prop) (e : Ending) (w' : World) : Prop := ∃ (y : Int) (a1 : Option Addr) (n1 c1 : Nat) (a2 : Option Addr) (n2 c2 : Nat) (T : List TrT) (O : List PoT) (s1 s2 s3 : RS),
 e = .returned (.agg #[y, .slice a1 n1 c1, .slice a2 n2 c2]) ∧ rI s = (y, s1) ∧ OwnR TrT.vs 7 93 w' w.heap.size (.slice a1 n1 c1) T ∧ OwnR PoT.vs 4 98 w' w.heap.size (.slice a2 n2 c2) O ∧
 QL rdTrT s1 T s2 ∧ QL rdPoT s2 O s3 ∧ QM W g B v s3 M w'
theorem qbook_any {W w : World} {g : Nat} {B : List UInt8} {v : Value} {s : RS} {M : World → Prop} (hf : Firm (fun k => k = g) M) (h : QM W g B v s M w) (hlen : B.length ≤ 70368744177664) :
  Calls Tryz.prog 36 #[.pointer (some ⟨g, 0, none⟩)] w (QbookAt W w g B v s M) := by
 refine (rbook_any w g B v s h.1.rebase hlen).mono ?_
 rintro e w' ⟨y, a1, n1, c1, a2, n2, c2, T, O, s1, s2, s3, e1, y1, o1, o2, q1, q2, hq⟩
 obtain ⟨h1, h2⟩ := h.1.since hq
 exact ⟨y, a1, n1, c1, a2, n2, c2, T, O, s1, s2, s3, e1, y1, o1, o2, q1, q2, h1, hf _ _ h.2 h2⟩
end Cam
namespace Cam
open Go Go.RowKit Go.Proofs
set_option linter.unusedVariables false
set_option linter.unusedSimpArgs false
set_option maxHeartbeats 200000
def Sticks {α : Type} (rd : RS → α × RS) : Prop := ∀ s : RS, s.2 ≠ 0 → (rd s).2.2 ≠ 0
theorem sticks_DT : Sticks rdDT := fun _ h => rIs_stick 3 h
theorem sticks_FT : Sticks rdFT := fun _ h => rIs_stick 8 h
theorem rRs_stick {α : Type} {rd : RS → α × RS} (hs : Sticks rd) {j : Nat} {s : RS} (h : (rRs rd j s).2.2 ≠ 0) : ∀ m, (rRs rd (j + m) s).2.2 ≠ 0
 | 0 => h
 | m + 1 => hs _ (rRs_stick hs h m)
theorem rI_zero {s : RS} (h : (rI s).2.2 ≠ 0) : (rI s).1 = 0 := by
 unfold rI at *
 split
 ·
  rfl
 ·
  next h0 =>
  rw [if_neg h0] at h
  cases hv : vdec 0 1 0 s.1 with
  | none => rfl
  | some z => rw [hv] at h; exact absurd rfl h
def Inv (wb : Bool) (s p : RS) : Prop := (wb = false ∧ s.2 = 0 ∧ p = s) ∨ ((wb = true ∨ s.2 ≠ 0) ∧ p.2 ≠ 0)
theorem Inv.start (l : List UInt8) : Inv false (l, 0) (l, 0) := .inl ⟨rfl, rfl, rfl⟩
theorem Inv.of_eq {s p : RS} (h : p = s) : Inv false s p := by
 subst h
 by_cases h0 : p.2 = 0
 ·
  exact .inl ⟨rfl, h0, rfl⟩
 ·
  exact .inr ⟨.inr h0, h0⟩
theorem Inv.ints {wb : Bool} {s p : RS} (k : Nat) (h : Inv wb s p) : Inv wb (rIs k s).2 (rIs k p).2 := by
 rcases h with ⟨rfl, h2, rfl⟩ | ⟨h1, h2⟩
 ·
  exact Inv.of_eq rfl
 ·
  refine .inr ⟨h1.imp id (fun h => rIs_stick k h), rIs_stick k h2⟩
theorem Inv.good {wb : Bool} {s p : RS} (h : Inv wb s p) (hg : Good wb s) : p = s := by
 rcases h with ⟨_, _, h⟩ | ⟨h, _⟩
 ·
  exact h
 ·
  rcases h with h | h
  ·
   rw [hg.1] at h; cases h
  ·
   exact absurd hg.2 h
theorem Inv.list {α : Type} {rd : RS → α × RS} (hs : Sticks rd) {wb : Bool} {s p p' : RS} {L : List α} (h : Inv wb s p) (hq : QL rd p L p') :
  Inv (elW wb (rI s).1) (elL rd wb s).2 p' ∧ (Good (elW wb (rI s).1) (elL rd wb s).2 → L = (elL rd wb s).1) := by
 obtain ⟨j, hj, rfl, rfl, hor⟩ := hq
 rcases h with ⟨rfl, h2, rfl⟩ | ⟨h1, h2⟩
 ·
  by_cases h0 : (rI p).2.2 = 0
  ·
   by_cases hb : (rI p).1 < 0 ∨ 1024 < (rI p).1
   ·
    have hm : mny p = (0, ((rI p).2.1, 4)) := by unfold mny; rw [if_pos h0, if_pos hb]
    have hE : elW false (rI p).1 = true := by unfold elW; simp; exact hb
    rw [hm] at hj ⊢
    obtain rfl : j = 0 := by simpa using hj
    refine ⟨.inr ⟨.inl hE, by simp [rRs]⟩, fun hg => ?_⟩
    rw [hE] at hg
    exact absurd hg.1 (by decide)
   ·
    have hm : mny p = rI p := by unfold mny; rw [if_pos h0, if_neg hb]
    have hE : elW false (rI p).1 = false := by unfold elW; simp; omega
    have hL : elL rd false p = rRs rd (rI p).1.toNat (rI p).2 := by unfold elL; rw [hE]; simp
    rw [hm] at hj hor ⊢
    rw [hL, hE]
    by_cases he : j = (rI p).1.toNat
    ·
     rw [he]
     exact ⟨Inv.of_eq rfl, fun _ => rfl⟩
    ·
     have h3 := hor.resolve_left he
     obtain ⟨m, hm2⟩ : ∃ m, (rI p).1.toNat = j + m := ⟨(rI p).1.toNat - j, by omega⟩
     rw [hm2]
     have h4 := rRs_stick hs h3 m
     exact ⟨.inr ⟨.inr h4, h3⟩, fun hg => absurd hg.2 h4⟩
  ·
   have hz := rI_zero h0
   have hm : mny p = (0, (rI p).2) := by unfold mny; rw [if_neg h0]
   have hE : elW false (rI p).1 = false := by unfold elW; rw [hz]; simp
   have hL : elL rd false p = ([], (rI p).2) := by unfold elL; rw [hE, hz]; simp [rRs]
   rw [hm] at hj ⊢
   obtain rfl : j = 0 := by simpa using hj
   rw [hL, hE]
   exact ⟨Inv.of_eq rfl, fun _ => rfl⟩
 ·
  have hm : mny p = (0, p) := by unfold mny; rw [rI_err p h2, if_neg h2]
  rw [hm] at hj ⊢
  obtain rfl : j = 0 := by simpa using hj
  have hbad : elW wb (rI s).1 = true ∨ (elL rd wb s).2.2 ≠ 0 := by
   rcases h1 with h1 | h1
   ·
    exact .inl (by unfold elW; rw [h1]; simp)
   ·
    exact .inr (elL_stick wb h1)
  refine ⟨.inr ⟨hbad, h2⟩, fun hg => ?_⟩
  rcases hbad with h | h
  ·
   rw [hg.1] at h; cases h
  ·
   exact absurd hg.2 h
theorem rIs_good {wb : Bool} {s p : RS} (h : Inv wb s p) (hg : Good wb s) (k : Nat) : rIs k p = rIs k s := by rw [h.good hg]
theorem Inv.done {wb : Bool} {s p : RS} (h : Inv wb s p) : (dE wb s = 0 ↔ rD p = 0) ∧ (dE wb s = 0 → Good wb s) := by
 refine ⟨?_, fun hd => ⟨(dE_zero.1 hd).1, rD_zero (dE_zero.1 hd).2⟩⟩
 rcases h with ⟨rfl, h2, rfl⟩ | ⟨h1, h2⟩
 ·
  rw [dE_zero]
  exact ⟨fun h => h.2, fun h => ⟨rfl, h⟩⟩
 ·
  constructor
  ·
   intro hd
   have h3 := dE_zero.1 hd
   rcases h1 with h1 | h1
   ·
    rw [h3.1] at h1; cases h1
   ·
    exact absurd (rD_zero h3.2) h1
  ·
   intro hd
   exact absurd (rD_zero hd) h2
theorem Inv.rep {wb : Bool} {s p p' : RS} {x : RepT} (h : Inv wb s p) (hq : QRep p x p') : Inv (rpW wb s) (rpF wb s).2 p' ∧ (Good (rpW wb s) (rpF wb s).2 → x = rpT wb s) := by
 obtain ⟨D, s1, F, h1, h2, rfl⟩ := hq
 have i1 := Inv.list sticks_DT (h.ints 3) h1
 have i2 := Inv.list sticks_FT i1.1 h2
 refine ⟨i2.1, fun hg => ?_⟩
 have g1 : Good (rpV wb s) (rpD wb s).2 := Good.list (rd := rdFT) hg
 have g0 : Good wb (rIs 3 s).2 := Good.list (rd := rdDT) g1
 have e0 := rIs_good h (Good.ints 3 g0) 3
 unfold rpT
 rw [e0, i1.2 g1, i2.2 hg]
 rfl
end Cam
