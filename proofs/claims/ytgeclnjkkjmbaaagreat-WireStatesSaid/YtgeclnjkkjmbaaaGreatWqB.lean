import Derived.Test.YtgeclnjkkjmbaaaGreatYp1
import Derived.Test.YtgeclnjkkjmbaaaGreatYpM
/- cambistref24: R.roll. -/
namespace Cam
open Go Go.RowKit Go.Proofs
set_option linter.unusedVariables false
set_option linter.unusedSimpArgs false
set_option maxRecDepth 100000
set_option maxHeartbeats 6400000
theorem qrollSz : (Tryz.prog.info? 28).map (·.size) = some 3 := by kernel_rfl
def QrollPost (w : World) (g : Nat) (B : List UInt8) (v : Value) (s : RS) (e : Ending) (w' : World) : Prop := ∃ (a1 : Option Addr) (n1 c1 : Nat) (a2 : Option Addr) (n2 c2 : Nat) (a3 : Option Addr) (n3 c3 : Nat) (M : List MbT) (I : List InT) (A : List AsT) (s1 s2 s3 : RS),
 e = .returned (.agg #[.slice a1 n1 c1, .slice a2 n2 c2, .slice a3 n3 c3]) ∧ OwnR MbT.vs 3 86 w' w.heap.size (.slice a1 n1 c1) M ∧ OwnR InT.vs 12 88 w' w.heap.size (.slice a2 n2 c2) I ∧ OwnR AsT.vs 4 91 w' w.heap.size (.slice a3 n3 c3) A ∧
 QL rdMbT s M s1 ∧ QL rdInT s1 I s2 ∧ QL rdAsT s2 A s3 ∧ QPost 122 w g B v s3 w'
theorem rroll_any (w : World) (g : Nat) (B : List UInt8) (v : Value) (s : RS) (h : QPost 122 w g B v s w) (hlen : B.length ≤ 70368744177664) :
  Calls Tryz.prog 35 #[.pointer (some ⟨g, 0, none⟩)] w (QrollPost w g B v s) := by
 have hg := h.lt
 have hb1 : Below w.heap.size w ((w.alloc (.cells #[(), (), ()] 28)).alloc (.cells #[(), (), ()] 28)) := (Bn).alloc (by simp) _
 have hc1 : HT ((w.alloc (.cells #[(), (), ()] 28)).alloc (.cells #[(), (), ()] 28)) w.heap.size 28 [(), (), ()] := (HT.new (w := w)).below (Bn)
 have hc2 : HT ((w.alloc (.cells #[.slice none 0 0, .slice none 0 0, .slice none 0 0] 28)).alloc (.cells #[.slice none 0 0, .slice none 0 0, .slice none 0 0] 28)) (w.heap.size + 1) 28 [.slice none 0 0, .slice none 0 0, .slice none 0 0] := by have := HT.new (w := w.alloc (.cells #[.slice none 0 0, .slice none 0 0, .slice none 0 0] 28)) (t := 28) (C := [.slice none 0 0, .slice none 0 0, .slice none 0 0]); rw [show (w.alloc (.cells #[.slice none 0 0, .slice none 0 0, .slice none 0 0] 28)).heap.size = w.heap.size + 1 by simp] at this; exact this
 obtain ⟨g2, hg2⟩ : ∃ b, b = w.heap.size := ⟨_, rfl⟩
 obtain ⟨ga, hga⟩ : ∃ b, b = w.heap.size + 1 := ⟨_, rfl⟩
 obtain ⟨gb1, hgb⟩ : ∃ b, b = w.heap.size + 2 := ⟨_, rfl⟩
 have HG2 : Hid (g2 = w.heap.size ∧ ga = w.heap.size + 1 ∧ g < g2 ∧ ga = g2 + 1) := ⟨hg2, hga, by omega, by omega⟩
 rw [← hg2] at hc1
 rw [← hga] at hc2
 obtain ⟨M1, hM1⟩ : ∃ M : World → Prop, M = (fun x => gb1 ≤ x.heap.size ∧ HT x g2 28 [(), (), ()]) := ⟨_, rfl⟩
 have HFM1 : Hid (Firm (fun k => k = g ∨ k = ga ∨ gb1 ≤ k) M1) := by show Firm _ _; rw [hM1]; exact Firm.and Firm.size (Firm.ht (by omega))
 have HB1 : Hid (∀ x, M1 x → gb1 ≤ x.heap.size) := by intro x hx; rw [hM1] at hx; exact hx.1
 have HX1 : Hid (∀ x, M1 x → HT x g2 28 [(), (), ()]) := by intro x hx; rw [hM1] at hx; exact hx.2
 have HNE1 : Hid (g < ga ∧ w.heap.size ≤ ga ∧ ga < gb1) := by show _ ∧ _ ∧ _; omega
 obtain ⟨s1, hs1⟩ : ∃ s1, s1 = s := ⟨_, rfl⟩
 have HQS1 : Hid (QM w g B v s1 (fun x => M1 x ∧ HT x ga 28 [(), (), ()]) ((w.alloc (.cells #[(), (), ()] 28)).alloc (.cells #[(), (), ()] 28))) := by show QM _ _ _ _ _ _ _; rw [hs1]; exact ⟨h.below hb1, by rw [hM1]; exact ⟨by simp; omega, hc1⟩, hc2⟩
 rw [← hs1]
 have HLEN := Lh hlen
 clear hs1 hM1 hb1 hc1 hc2 h hlen hg hgb hg2 hga
 go_in
 go_upto_region 2 with fail
 rw [← HG2.out.2.1, ← HG2.out.1]
 generalize hW0 : ((w.alloc (.cells #[(), (), ()] 28)).alloc (.cells #[(), (), ()] 28)) = W0 at *
 clear hW0
 obtain ⟨N, mt, mn, HMN⟩ := loop_in (F := 0) MbT.len HQS1.out HFM1.out HNE1.out HLEN.out rfl
 go_wp2_with fail
 refine mn.mono ?_
 clear mn
 rintro e w1 ⟨rfl, hq1⟩
 have HQ1 := Lh hq1
 clear hq1
 go_upto_block 0 with fail
 refine rs_mem HLEN HNE1 HFM1 HB1 (Lh (by simp)) HMN HQ1 ?_
 intros
 rename_i wx hx
 obtain ⟨D1, u2, a1, n1, c1, hQL, hq⟩ := hx
 obtain ⟨M2, gb2, HFM2, HB2, HX2, HQS, HNE2, HGB2⟩ := stage_nx hq HFM1.out HB1.out HNE1.out
 have HQL1 := Lh hQL
 have HQS2 : Hid (QM w g B v u2 (fun x => M2 x ∧ HT x ga 28 [.slice a1 n1 c1, (), ()]) wx) := HQS
 clear hQL hq HQS HMN HQ1
 obtain ⟨N, mt, mn, HMN⟩ := loop_in (F := 1) InT.len HQS2.out HFM2.out HNE2.out HLEN.out rfl
 go_wp2_with fail
 refine mn.mono ?_
 clear mn
 rintro e w1 ⟨rfl, hq1⟩
 have HQ1 := Lh hq1
 clear hq1
 go_upto_block 2 with fail
 refine rs_ins HLEN HNE2 HFM2 HB2 (Lh (by simp)) HMN HQ1 ?_
 intros
 rename_i wx hx
 obtain ⟨D2, u3, a2, n2, c2, hQL, hq⟩ := hx
 obtain ⟨M3, gb3, HFM3, HB3, HX3, HQS, HNE3, HGB3⟩ := stage_nx hq HFM2.out HB2.out HNE2.out
 have HQL2 := Lh hQL
 have HQS3 : Hid (QM w g B v u3 (fun x => M3 x ∧ HT x ga 28 [.slice a1 n1 c1, .slice a2 n2 c2, ()]) wx) := HQS
 clear hQL hq HQS HMN HQ1
 obtain ⟨N, mt, mn, HMN⟩ := loop_in (F := 2) AsT.len HQS3.out HFM3.out HNE3.out HLEN.out rfl
 go_wp2_with fail
 refine mn.mono ?_
 clear mn
 rintro e w1 ⟨rfl, hq1⟩
 have HQ1 := Lh hq1
 clear hq1
 go_upto_block 4 with fail
 refine rs_ass HLEN HNE3 HFM3 HB3 (Lh (by simp)) HMN HQ1 ?_
 intros
 rename_i wx hx
 obtain ⟨D3, u4, a3, n3, c3, hQL, hq⟩ := hx
 obtain ⟨M4, gb4, HFM4, HB4, HX4, HQS, HNE4, HGB4⟩ := stage_nx hq HFM3.out HB3.out HNE3.out
 have HQL3 := Lh hQL
 have HQS4 : Hid (QM w g B v u4 (fun x => M4 x ∧ HT x ga 28 [.slice a1 n1 c1, .slice a2 n2 c2, .slice a3 n3 c3]) wx) := HQS
 clear hQL hq HQS HMN HQ1
 have hq := HQS4.out
 have m3 := HX4.out _ hq.2.1
 have m2 := HX3.out _ m3.1
 have m1 := HX2.out _ m2.1
 have h2 := HX1.out _ m1.1
 have HG3 : Hid (wx.heap[ga]? = some (.cells #[.slice a1 n1 c1, .slice a2 n2 c2, .slice a3 n3 c3] 28 (0, 0))) := hq.2.2
 have HG4 : Hid (wx.heap[g2]? = some (.cells #[(), (), ()] 28 (0, 0))) := h2
 have HSZ : Hid ((Tryz.prog.info? 28).map (·.size) = some (#[.slice a1 n1 c1, .slice a2 n2 c2, .slice a3 n3 c3] : Array Value).size) := by show _ = _; rw [qrollSz]; rfl
 have HSE : Hid ((#[(), (), ()] : Array Value).size = (#[.slice a1 n1 c1, .slice a2 n2 c2, .slice a3 n3 c3] : Array Value).size) := by show _ = _; rfl
 have HONE : Hid ((#[.slice a1 n1 c1, .slice a2 n2 c2, .slice a3 n3 c3] : Array Value).all (·.oneCell') = true) := by show _ = true; simp [Value.oneCell']
 have HQE := Lh (⟨hq.1, m1.2, m2.2, m3.2⟩ : _ ∧ _ ∧ _ ∧ _)
 clear hq m3 m2 m1 h2
 go_wp2_with (first
  | (refine wpList_load_row rfl 28 (.tmp 3) rfl ga rfl 28 #[.slice a1 n1 c1, .slice a2 n2 c2, .slice a3 n3 c3] (0, 0) _ HG3.out Tryz.underlying28 rfl HSZ.out ?_)
  | (refine wpList_store_row rfl 28 (.tmp 2) (.tmp 124) rfl g2 #[.slice a1 n1 c1, .slice a2 n2 c2, .slice a3 n3 c3] rfl rfl 28 #[(), (), ()] HG4.out HSZ.out HSE.out HONE.out ?_)
  | fail)
 refine bodyPost_ret (results_cell_row rfl _ _ g2 28 #[.slice a1 n1 c1, .slice a2 n2 c2, .slice a3 n3 c3] (0, 0) _ rfl (setRow_heap _ _ _ _ _ _ HG4.out) Tryz.underlying28 rfl HSZ.out) rfl ?_
 have hkr : Kept (fun k => k = g2) wx (wx.setRow g2 #[.slice a1 n1 c1, .slice a2 n2 c2, .slice a3 n3 c3]) := ⟨rfl, rfl, rfl, by simp [World.setRow], fun k _ hn => setRow_other _ _ _ _ hn⟩
 obtain ⟨e1, e2, e3, e4⟩ := HQE.out
 have hG := HG2.out
 have hN1 := HNE1.out
 have hg1 := HGB2.out
 have hg2 := HGB3.out
 refine ⟨a1, n1, c1, a2, n2, c2, a3, n3, c3, D1, D2, D3, u2, u3, u4, rfl, OwnR.base (OwnR.keptS e2 hkr (fun k hk (e : k = g2) => by have := OwnR.ge e2 k hk; omega)) (by omega), OwnR.base (OwnR.keptS e3 hkr (fun k hk (e : k = g2) => by have := OwnR.ge e3 k hk; omega)) (by omega), OwnR.base (OwnR.keptS e4 hkr (fun k hk (e : k = g2) => by have := OwnR.ge e4 k hk; omega)) (by omega), HQL1.out, HQL2.out, HQL3.out, e1.keptS hkr (fun k (e : k = g2) => by omega)⟩
end Cam
