import Derived.Test.YtgeclnjkkjmbaaaGreatYp3
import Derived.Test.YtgeclnjkkjmbaaaGreatYp4
import Derived.Test.YtgeclnjkkjmbaaaGreatYpM
import Derived.Test.YtgeclnjkkjmbaaaGreatWqJ
/- cambistref24: ReadState. -/
namespace Cam
open Go Go.RowKit Go.Proofs
set_option linter.unusedVariables false
set_option linter.unusedSimpArgs false
set_option maxRecDepth 100000
set_option maxHeartbeats 12800000
def RqSt (w : World) (l : List UInt8) (e : Ending) (w' : World) : Prop := ∃ val, e = .returned (.tuple #[val, .bool (decide ((readSt l).2 = 0))]) ∧ StOwn w' w.heap.size val (readSt l).1 ∧ Below w.heap.size w w'
theorem rstate_any (wo : World) (v0 : Value) (B : List UInt8) (h : Bs wo v0 B) (hlen : B.length ≤ 70368744177664) :
  Calls Tryz.prog 13 #[v0] wo (RqSt wo B) := by
 obtain ⟨av, cv, rfl, hcv, hmv⟩ := h.shape
 obtain ⟨n, hn⟩ : ∃ n, n = B.length := ⟨_, rfl⟩
 rw [← hn] at h hcv ⊢
 have hb1 : Below wo.heap.size wo (wo.alloc (.cells #[(0:Int), (0:Int), (0:Int), (), (), (), (0:Int), (), (), (0:Int), (), (), (), (), ()] 41)) := Bn
 have hb2 : Below wo.heap.size wo ((wo.alloc (.cells #[(0:Int), (0:Int), (0:Int), (), (), (), (0:Int), (), (), (0:Int), (), (), (), (), ()] 41)).alloc (.cells #[.slice av n cv, (0:Int), (0:Int)] 122)) := hb1.alloc hb1.size _
 have hc1 : HT ((wo.alloc (.cells #[.int .i64 0, .int .i64 0, .int .i64 0, .slice none 0 0, .slice none 0 0, .slice none 0 0, .int .i64 0, .slice none 0 0, .slice none 0 0, .int .i64 0, .slice none 0 0, .slice none 0 0, .slice none 0 0, .slice none 0 0, .slice none 0 0] 41)).alloc (.cells #[.slice av n cv, .int .i64 0, .int .i64 0] 122)) wo.heap.size 41 [.int .i64 0, .int .i64 0, .int .i64 0, .slice none 0 0, .slice none 0 0, .slice none 0 0, .int .i64 0, .slice none 0 0, .slice none 0 0, .int .i64 0, .slice none 0 0, .slice none 0 0, .slice none 0 0, .slice none 0 0, .slice none 0 0] := (HT.new (w := wo) (t := 41) (C := [.int .i64 0, .int .i64 0, .int .i64 0, .slice none 0 0, .slice none 0 0, .slice none 0 0, .int .i64 0, .slice none 0 0, .slice none 0 0, .int .i64 0, .slice none 0 0, .slice none 0 0, .slice none 0 0, .slice none 0 0, .slice none 0 0])).below (Bn)
 have hq : QPost 122 ((wo.alloc (.cells #[(0:Int), (0:Int), (0:Int), (), (), (), (0:Int), (), (), (0:Int), (), (), (), (), ()] 41)).alloc (.cells #[.slice av n cv, (0:Int), (0:Int)] 122)) (wo.heap.size + 1) B (.slice av n cv) (B, 0) ((wo.alloc (.cells #[(0:Int), (0:Int), (0:Int), (), (), (), (0:Int), (), (), (0:Int), (), (), (), (), ()] 41)).alloc (.cells #[.slice av n cv, (0:Int), (0:Int)] 122)) :=
  ⟨0, ⟨heap_new (by simp), h.mono hb2, fun hn k hi => by have := h.inlt hn hi; omega, Nat.zero_le _⟩, by simp, Kept.refl _ _⟩
 have HN := Lh hn
 have HLEN := Lh hlen
 have HCV := Lh hcv
 obtain ⟨w, hW⟩ : ∃ w, w = (wo.alloc (.cells #[(0:Int), (0:Int), (0:Int), (), (), (), (0:Int), (), (), (0:Int), (), (), (), (), ()] 41)).alloc (.cells #[.slice av n cv, (0:Int), (0:Int)] 122) := ⟨_, rfl⟩
 obtain ⟨g, hg⟩ : ∃ b, b = wo.heap.size + 1 := ⟨_, rfl⟩
 obtain ⟨g2, hg2⟩ : ∃ b, b = wo.heap.size := ⟨_, rfl⟩
 obtain ⟨gb, hgb⟩ : ∃ b, b = w.heap.size := ⟨_, rfl⟩
 have HG2 : Hid (g2 = wo.heap.size ∧ g = wo.heap.size + 1 ∧ gb = w.heap.size ∧ w.heap.size = wo.heap.size + 2) := by show _ ∧ _ ∧ _ ∧ _; exact ⟨hg2, hg, hgb, by rw [hW]; simp⟩
 have HBO : Hid (Below wo.heap.size wo w) := by show Below _ _ _; rw [hW]; exact hb2
 obtain ⟨v, hv⟩ : ∃ v : Value, v = .slice av n cv := ⟨_, rfl⟩
 rw [← hW, ← hg, ← hv] at hq
 rw [← hW, ← hg2] at hc1
 obtain ⟨M0, hM0⟩ : ∃ M : World → Prop, M = (fun x => gb ≤ x.heap.size ∧ HT x g2 41 [(0:Int), (0:Int), (0:Int), (), (), (), (0:Int), (), (), (0:Int), (), (), (), (), ()]) := ⟨_, rfl⟩
 have hq0 : QM w g B v (B, 0) M0 w := ⟨hq, by rw [hM0]; exact ⟨by omega, hc1⟩⟩
 have HF0 : Hid (Firm (fun k => k = g) M0) := by show Firm _ _; rw [hM0]; exact Firm.and Firm.size (Firm.ht (by omega))
 have HFM : Hid (Firm (fun k => k = g ∨ gb ≤ k) M0) := by show Firm _ _; rw [hM0]; exact Firm.and Firm.size (Firm.ht (by have := HG2.out; omega))
 have HB0 : Hid (∀ x, M0 x → gb ≤ x.heap.size) := by intro x hx; rw [hM0] at hx; exact hx.1
 have HX0 : Hid (∀ x, M0 x → HT x g2 41 [(0:Int), (0:Int), (0:Int), (), (), (), (0:Int), (), (), (0:Int), (), (), (), (), ()]) := by intro x hx; rw [hM0] at hx; exact hx.2
 have HQ0 := Lh hq0
 obtain ⟨s0, hs0⟩ : ∃ s0 : RS, s0 = (B, 0) := ⟨_, rfl⟩
 rw [← hs0] at HQ0
 obtain ⟨y0, y1, y2, s1, s2, s3, p0, p1, p2, HQ⟩ := rI3 s0
 rw [hs0] at HQ
 have HW := Lh hW
 clear hM0 hb1 hb2 hc1 hq hq0 h hlen hn hcv hv hW hg hg2 hgb hs0
 go_in
 go_upto_region 3 with fail
 rw [← HW.out, ← HG2.out.2.1, ← HG2.out.1]
 go_cut [5] (fun v3 wx => BoxP w g B v s3 M0 41 [y0, y1, y2, (), (), (), (0:Int), (), (), (0:Int), (), (), (), (), ()] gb v3 wx)
 case first =>
  refine wp_region_uni (S0 := fun _ => True) (S := QM w g B v s0 M0) 15 (by kernel_rfl) (QM.below HF0.out HQ0.out (Below.refl _ _).drew) ?_
  refine uP 9 [(0, some 22, .pointer (some ⟨g, 0, none⟩)), (1, some 23, .pointer (some ⟨g, 0, none⟩)), (2, some 24, .pointer (some ⟨g, 0, none⟩)), (4, some 26, .pointer (some ⟨g, 0, none⟩)), (5, some 27, .pointer (some ⟨g, 0, none⟩)), (6, some 28, .pointer (some ⟨g, 0, none⟩)), (8, some 30, .pointer (some ⟨g, 0, none⟩)), (9, some 31, .pointer (some ⟨g, 0, none⟩)), (10, some 32, .pointer (some ⟨g, 0, none⟩))] (QM.cls HF0.out (fun _ _ => trivial)) ?_
  simp only [zq]
  refine wpAnyU_ready (rs := [3, 14]) (by kernel_rfl) (by simp) ?_
  refine uD rfl (fun wA3 hA3 K hK => ?_) (uD rfl (fun wA14 hA14 K hK => ?_) AllReadyU.nil)
  ·
   go_simp
   refine (QE HF0.out hA3 p0 HLEN).mono ?_
   rintro e wn0 ⟨rfl, hn⟩
   refine hK.out _ _ _ (QM.cls HF0.out (fun _ _ => trivial)) hn ?_
   clear hK K
   try simp only [zq]
   refine wpAnyU_ready (rs := [7, 14]) (by kernel_rfl) (by simp) ?_
   refine uD rfl (fun wA7 hA7 K hK => ?_) (uD rfl (fun wA14 hA14 K hK => ?_) AllReadyU.nil)
   ·
    go_simp
    refine (QE HF0.out hA7 p1 HLEN).mono ?_
    rintro e wn1 ⟨rfl, hn⟩
    refine hK.out _ _ _ (QM.cls HF0.out (fun _ _ => trivial)) hn ?_
    clear hK K
    try simp only [zq]
    refine wpAnyU_ready (rs := [11, 14]) (by kernel_rfl) (by simp) ?_
    refine uD rfl (fun wA11 hA11 K hK => ?_) (uD rfl (fun wA14 hA14 K hK => ?_) AllReadyU.nil)
    ·
     go_simp
     refine (QE HF0.out hA11 p2 HLEN).mono ?_
     rintro e wn2 ⟨rfl, hn⟩
     refine hK.out _ _ _ (QM.cls HF0.out (fun _ _ => trivial)) hn ?_
     clear hK K
     try simp only [zq]
     refine uG 12 (some 34) (.agg #[y0, y1, y2]) (QM.cls HF0.out (fun _ _ => trivial)) ?_
     simp only [zq]
     refine uG 13 (some 35) (.agg #[y0, y1, y2, (), (), (), (0:Int), (), (), (0:Int), (), (), (), (), ()]) (QM.cls HF0.out (fun _ _ => trivial)) ?_
     simp only [zq]
     refine uS 14 rfl (fun wA14 hA14 K hK => ?_)
     go_simp
     obtain ⟨gf, hgf, HNE9, HF1, hnq⟩ := box_new (Z := [(0:Int), (0:Int), (0:Int), (), (), (), (0:Int), (), (), (0:Int), (), (), (), (), ()]) (KT := 41) hA14 HF0.out HB0.out
     rw [hgf]
     clear hgf
     refine hK.out _ _ _ (QM.cls HF1.out (fun _ _ => trivial)) hnq ?_
     clear hnq
     clear hK K
     try simp only [zq]
     refine uZ rfl (fun w1 hb1 K hK => ?_)
     refine step_store_mid rfl 41 (.tmp 5) (.tmp 35) rfl gf 0 [y0, y1, y2, (), (), (), (0:Int), (), (), (0:Int), (), (), (), (), ()] rfl rfl (fun j hj => ⟨hb1.2.2.isSome (by simpa using hj), hb1.2.2.frozen _⟩) (by rw [qstSz]; rfl) (by simp [Value.oneCell']) ?_
     have HQ9 := Lh (box_put (CF := [y0, y1, y2, (), (), (), (0:Int), (), (), (0:Int), (), (), (), (), ()]) hb1 HFM.out HNE9.out rfl)
     obtain ⟨w9, hw9⟩ : ∃ w9, w9 = w1.setCells gf 0 [y0, y1, y2, (), (), (), (0:Int), (), (), (0:Int), (), (), (), (), ()] := ⟨_, rfl⟩
     rw [← hw9] at HQ9 ⊢
     clear hb1 hw9
     refine hK.out _ _ ?_
     clear hK K
     try simp only [Act.put]
     go_wp2_with fail
     go_meet
     exact HQ9.out
    ·
     go_simp
     obtain ⟨gf, hgf, HNE9, HF1, hnq⟩ := box_new (Z := [(0:Int), (0:Int), (0:Int), (), (), (), (0:Int), (), (), (0:Int), (), (), (), (), ()]) (KT := 41) hA14 HF0.out HB0.out
     rw [hgf]
     clear hgf
     refine hK.out _ _ _ (QM.cls HF1.out (fun _ _ => trivial)) hnq ?_
     clear hnq
     clear hK K
     try simp only [zq]
     refine uS 11 rfl (fun wA11 hA11 K hK => ?_)
     go_simp
     refine (QE HF1.out hA11 p2 HLEN).mono ?_
     rintro e wn2 ⟨rfl, hn⟩
     refine hK.out _ _ _ (QM.cls HF1.out (fun _ _ => trivial)) hn ?_
     clear hK K
     try simp only [zq]
     refine uG 12 (some 34) (.agg #[y0, y1, y2]) (QM.cls HF1.out (fun _ _ => trivial)) ?_
     simp only [zq]
     refine uG 13 (some 35) (.agg #[y0, y1, y2, (), (), (), (0:Int), (), (), (0:Int), (), (), (), (), ()]) (QM.cls HF1.out (fun _ _ => trivial)) ?_
     simp only [zq]
     refine uZ rfl (fun w1 hb1 K hK => ?_)
     refine step_store_mid rfl 41 (.tmp 5) (.tmp 35) rfl gf 0 [y0, y1, y2, (), (), (), (0:Int), (), (), (0:Int), (), (), (), (), ()] rfl rfl (fun j hj => ⟨hb1.2.2.isSome (by simpa using hj), hb1.2.2.frozen _⟩) (by rw [qstSz]; rfl) (by simp [Value.oneCell']) ?_
     have HQ9 := Lh (box_put (CF := [y0, y1, y2, (), (), (), (0:Int), (), (), (0:Int), (), (), (), (), ()]) hb1 HFM.out HNE9.out rfl)
     obtain ⟨w9, hw9⟩ : ∃ w9, w9 = w1.setCells gf 0 [y0, y1, y2, (), (), (), (0:Int), (), (), (0:Int), (), (), (), (), ()] := ⟨_, rfl⟩
     rw [← hw9] at HQ9 ⊢
     clear hb1 hw9
     refine hK.out _ _ ?_
     clear hK K
     try simp only [Act.put]
     go_wp2_with fail
     go_meet
     exact HQ9.out
   ·
    go_simp
    obtain ⟨gf, hgf, HNE9, HF1, hnq⟩ := box_new (Z := [(0:Int), (0:Int), (0:Int), (), (), (), (0:Int), (), (), (0:Int), (), (), (), (), ()]) (KT := 41) hA14 HF0.out HB0.out
    rw [hgf]
    clear hgf
    refine hK.out _ _ _ (QM.cls HF1.out (fun _ _ => trivial)) hnq ?_
    clear hnq
    clear hK K
    try simp only [zq]
    refine uS 7 rfl (fun wA7 hA7 K hK => ?_)
    go_simp
    refine (QE HF1.out hA7 p1 HLEN).mono ?_
    rintro e wn1 ⟨rfl, hn⟩
    refine hK.out _ _ _ (QM.cls HF1.out (fun _ _ => trivial)) hn ?_
    clear hK K
    try simp only [zq]
    refine uS 11 rfl (fun wA11 hA11 K hK => ?_)
    go_simp
    refine (QE HF1.out hA11 p2 HLEN).mono ?_
    rintro e wn2 ⟨rfl, hn⟩
    refine hK.out _ _ _ (QM.cls HF1.out (fun _ _ => trivial)) hn ?_
    clear hK K
    try simp only [zq]
    refine uG 12 (some 34) (.agg #[y0, y1, y2]) (QM.cls HF1.out (fun _ _ => trivial)) ?_
    simp only [zq]
    refine uG 13 (some 35) (.agg #[y0, y1, y2, (), (), (), (0:Int), (), (), (0:Int), (), (), (), (), ()]) (QM.cls HF1.out (fun _ _ => trivial)) ?_
    simp only [zq]
    refine uZ rfl (fun w1 hb1 K hK => ?_)
    refine step_store_mid rfl 41 (.tmp 5) (.tmp 35) rfl gf 0 [y0, y1, y2, (), (), (), (0:Int), (), (), (0:Int), (), (), (), (), ()] rfl rfl (fun j hj => ⟨hb1.2.2.isSome (by simpa using hj), hb1.2.2.frozen _⟩) (by rw [qstSz]; rfl) (by simp [Value.oneCell']) ?_
    have HQ9 := Lh (box_put (CF := [y0, y1, y2, (), (), (), (0:Int), (), (), (0:Int), (), (), (), (), ()]) hb1 HFM.out HNE9.out rfl)
    obtain ⟨w9, hw9⟩ : ∃ w9, w9 = w1.setCells gf 0 [y0, y1, y2, (), (), (), (0:Int), (), (), (0:Int), (), (), (), (), ()] := ⟨_, rfl⟩
    rw [← hw9] at HQ9 ⊢
    clear hb1 hw9
    refine hK.out _ _ ?_
    clear hK K
    try simp only [Act.put]
    go_wp2_with fail
    go_meet
    exact HQ9.out
  ·
   go_simp
   obtain ⟨gf, hgf, HNE9, HF1, hnq⟩ := box_new (Z := [(0:Int), (0:Int), (0:Int), (), (), (), (0:Int), (), (), (0:Int), (), (), (), (), ()]) (KT := 41) hA14 HF0.out HB0.out
   rw [hgf]
   clear hgf
   refine hK.out _ _ _ (QM.cls HF1.out (fun _ _ => trivial)) hnq ?_
   clear hnq
   clear hK K
   try simp only [zq]
   refine uS 3 rfl (fun wA3 hA3 K hK => ?_)
   go_simp
   refine (QE HF1.out hA3 p0 HLEN).mono ?_
   rintro e wn0 ⟨rfl, hn⟩
   refine hK.out _ _ _ (QM.cls HF1.out (fun _ _ => trivial)) hn ?_
   clear hK K
   try simp only [zq]
   refine uS 7 rfl (fun wA7 hA7 K hK => ?_)
   go_simp
   refine (QE HF1.out hA7 p1 HLEN).mono ?_
   rintro e wn1 ⟨rfl, hn⟩
   refine hK.out _ _ _ (QM.cls HF1.out (fun _ _ => trivial)) hn ?_
   clear hK K
   try simp only [zq]
   refine uS 11 rfl (fun wA11 hA11 K hK => ?_)
   go_simp
   refine (QE HF1.out hA11 p2 HLEN).mono ?_
   rintro e wn2 ⟨rfl, hn⟩
   refine hK.out _ _ _ (QM.cls HF1.out (fun _ _ => trivial)) hn ?_
   clear hK K
   try simp only [zq]
   refine uG 12 (some 34) (.agg #[y0, y1, y2]) (QM.cls HF1.out (fun _ _ => trivial)) ?_
   simp only [zq]
   refine uG 13 (some 35) (.agg #[y0, y1, y2, (), (), (), (0:Int), (), (), (0:Int), (), (), (), (), ()]) (QM.cls HF1.out (fun _ _ => trivial)) ?_
   simp only [zq]
   refine uZ rfl (fun w1 hb1 K hK => ?_)
   refine step_store_mid rfl 41 (.tmp 5) (.tmp 35) rfl gf 0 [y0, y1, y2, (), (), (), (0:Int), (), (), (0:Int), (), (), (), (), ()] rfl rfl (fun j hj => ⟨hb1.2.2.isSome (by simpa using hj), hb1.2.2.frozen _⟩) (by rw [qstSz]; rfl) (by simp [Value.oneCell']) ?_
   have HQ9 := Lh (box_put (CF := [y0, y1, y2, (), (), (), (0:Int), (), (), (0:Int), (), (), (), (), ()]) hb1 HFM.out HNE9.out rfl)
   obtain ⟨w9, hw9⟩ : ∃ w9, w9 = w1.setCells gf 0 [y0, y1, y2, (), (), (), (0:Int), (), (), (0:Int), (), (), (), (), ()] := ⟨_, rfl⟩
   rw [← hw9] at HQ9 ⊢
   clear hb1 hw9
   refine hK.out _ _ ?_
   clear hK K
   try simp only [Act.put]
   go_wp2_with fail
   go_meet
   exact HQ9.out
 case rest =>
  obtain ⟨ga, rfl, hq, hn1, hn2, hn3, hn4⟩ := hcut
  have hne : g < ga ∧ w.heap.size ≤ ga ∧ gb ≤ ga := ⟨hn1, hn2, hn3⟩
  have hgl := hq.2.2.lt
  obtain ⟨gb20, hgb1⟩ : ∃ b, b = ga + 1 := ⟨_, rfl⟩
  obtain ⟨M20, hM1⟩ : ∃ M : World → Prop, M = (fun x => M0 x ∧ gb20 ≤ x.heap.size) := ⟨_, rfl⟩
  have HFM20 : Hid (Firm (fun k => k = g ∨ k = ga ∨ gb20 ≤ k) M20) := by show Firm _ _; rw [hM1]; exact Firm.and (Firm.mono HFM.out (fun k h => by rcases h with h | h | h; exact .inl h; exact .inr (by omega); exact .inr (by omega))) Firm.size
  have HB20 : Hid (∀ x, M20 x → gb20 ≤ x.heap.size) := by intro x hx; rw [hM1] at hx; exact hx.2
  have HX20 : Hid (∀ x, M20 x → HT x g2 41 [(0:Int), (0:Int), (0:Int), (), (), (), (0:Int), (), (), (0:Int), (), (), (), (), ()]) := by intro x hx; rw [hM1] at hx; exact HX0.out _ hx.1
  have HNE20 : Hid (g < ga ∧ w.heap.size ≤ ga ∧ ga < gb20) := by show _ ∧ _ ∧ _; omega
  have HQS20 : Hid (QM w g B v s3 (fun x => M20 x ∧ HT x ga 41 [y0, y1, y2, (), (), (), (0:Int), (), (), (0:Int), (), (), (), (), ()]) wc) := ⟨hq.1, by rw [hM1]; exact ⟨hq.2.1, by omega⟩, hq.2.2⟩
  clear hq hne hgl hgb1 hM1 hn1 hn2 hn3 hn4 HB0 HFM HF0 HQ0 HX0
  have hfr : Firm (fun k => k = g) (fun x => M20 x ∧ HT x ga 41 [y0, y1, y2, (), (), (), (0:Int), (), (), (0:Int), (), (), (), (), ()]) := Firm.and (Firm.mono HFM20.out (fun k h => .inl h)) (Firm.ht (by have := HNE20.out; omega))
  have rl := qroll_any hfr HQS20.out HLEN.out
  unfold QrollAt at rl
  have HBZ20 : Hid (gb20 ≤ wc.heap.size) := HB20.out _ HQS20.out.2.1
  obtain ⟨gc20, hgc⟩ : ∃ b, b = wc.heap.size := ⟨_, rfl⟩
  rw [← hgc] at rl HBZ20
  clear hfr hgc
  go_wp2_with fail
  refine rl.mono ?_
  clear rl
  rintro e w1 ⟨ra1, rn1, rc1, ra2, rn2, rc2, ra3, rn3, rc3, RM, RI, RA, s4, s5, s6, rfl, ro1, ro2, ro3, rq1, rq2, rq3, hq1⟩
  have HRQ20 := Lh (⟨rq1, rq2, rq3⟩ : _ ∧ _ ∧ _)
  clear rq1 rq2 rq3
  have HTH : Hid (w1.there ga 3 (#[.slice ra1 rn1 rc1, .slice ra2 rn2 rc2, .slice ra3 rn3 rc3] : Array Value).size) := fun j hj => ⟨hq1.2.2.isSome (by simp at hj ⊢; omega), hq1.2.2.frozen _⟩
  have HSR : Hid ((Tryz.prog.info? 28).map (·.size) = some (#[.slice ra1 rn1 rc1, .slice ra2 rn2 rc2, .slice ra3 rn3 rc3] : Array Value).size) := by show _ = _; rw [qrollSz]; rfl
  have HON : Hid ((#[.slice ra1 rn1 rc1, .slice ra2 rn2 rc2, .slice ra3 rn3 rc3] : Array Value).all (·.oneCell') = true) := by show _ = _; simp [Value.oneCell']
  have hst := stage_call (o := 3) (vs := [.slice ra1 rn1 rc1, .slice ra2 rn2 rc2, .slice ra3 rn3 rc3]) (O := fun x => OwnR MbT.vs 3 86 x gc20 (.slice ra1 rn1 rc1) RM ∧ OwnR InT.vs 12 88 x gc20 (.slice ra2 rn2 rc2) RI ∧ OwnR AsT.vs 4 91 x gc20 (.slice ra3 rn3 rc3) RA) hq1 HFM20.out HB20.out HNE20.out ⟨ro1, ro2, ro3⟩ (Firm.and (Firm.own' (fun k hk e => by have h1 := OwnR.ge ro1 k hk; have h2 := OwnR.lt ro1 k hk; have := HBZ20.out; have := HNE20.out; omega)) (Firm.and (Firm.own' (fun k hk e => by have h1 := OwnR.ge ro2 k hk; have h2 := OwnR.lt ro2 k hk; have := HBZ20.out; have := HNE20.out; omega)) (Firm.own' (fun k hk e => by have h1 := OwnR.ge ro3 k hk; have h2 := OwnR.lt ro3 k hk; have := HBZ20.out; have := HNE20.out; omega)))) (by simp)
  obtain ⟨w2, hw2⟩ : ∃ x, x = w1.setCells ga 3 [.slice ra1 rn1 rc1, .slice ra2 rn2 rc2, .slice ra3 rn3 rc3] := ⟨_, rfl⟩
  rw [← hw2] at hst
  obtain ⟨M21, gb21, hf1, hb1, hx1, hq2, hn1, hg1⟩ := hst
  have HFM21 := Lh hf1
  have HB21 := Lh hb1
  have HX21 := Lh hx1
  have HNE21 := Lh hn1
  have HGB21 := Lh hg1
  have HQS21 : Hid (QM w g B v s6 (fun x => M21 x ∧ HT x ga 41 [y0, y1, y2, .slice ra1 rn1 rc1, .slice ra2 rn2 rc2, .slice ra3 rn3 rc3, (0:Int), (), (), (0:Int), (), (), (), (), ()]) w2) := hq2
  have HW2 := Lh hw2
  clear ro1 ro2 ro3 hq1 hf1 hb1 hx1 hq2 hn1 hg1 hw2
  go_upto_region 5 with (first
   | (refine wpList_store_mid rfl 28 (.tmp 38) (.tmp 37) rfl ga 3 #[.slice ra1 rn1 rc1, .slice ra2 rn2 rc2, .slice ra3 rn3 rc3] rfl rfl HTH.out HSR.out HON.out ?_; change wpList _ _ _ _ _ (w1.setCells ga 3 [.slice ra1 rn1 rc1, .slice ra2 rn2 rc2, .slice ra3 rn3 rc3]); rw [← HW2.out])
   | fail)
  clear HTH HSR HON HW2
  have hfr : Firm (fun k => k = g) (fun x => M21 x ∧ HT x ga 41 [y0, y1, y2, .slice ra1 rn1 rc1, .slice ra2 rn2 rc2, .slice ra3 rn3 rc3, (0:Int), (), (), (0:Int), (), (), (), (), ()]) := Firm.and (Firm.mono HFM21.out (fun k h => .inl h)) (Firm.ht (by have := HNE21.out; omega))
  have rl := qbook_any hfr HQS21.out HLEN.out
  unfold QbookAt at rl
  have HBZ21 : Hid (gb21 ≤ w2.heap.size) := HB21.out _ HQS21.out.2.1
  obtain ⟨gc21, hgc⟩ : ∃ b, b = w2.heap.size := ⟨_, rfl⟩
  rw [← hgc] at rl HBZ21
  clear hfr hgc
  go_wp2_with fail
  refine rl.mono ?_
  clear rl
  rintro e w3 ⟨yb, ba1, bn1, bc1, ba2, bn2, bc2, BT, BO, s7, s8, s9, rfl, bq0, bo1, bo2, bq1, bq2, hq1⟩
  have HRQ21 := Lh (⟨bq0, bq1, bq2⟩ : _ ∧ _ ∧ _)
  clear bq0 bq1 bq2
  have HTH : Hid (w3.there ga 6 (#[yb, .slice ba1 bn1 bc1, .slice ba2 bn2 bc2] : Array Value).size) := fun j hj => ⟨hq1.2.2.isSome (by simp at hj ⊢; omega), hq1.2.2.frozen _⟩
  have HSR : Hid ((Tryz.prog.info? 32).map (·.size) = some (#[yb, .slice ba1 bn1 bc1, .slice ba2 bn2 bc2] : Array Value).size) := by show _ = _; rw [qbookSz]; rfl
  have HON : Hid ((#[yb, .slice ba1 bn1 bc1, .slice ba2 bn2 bc2] : Array Value).all (·.oneCell') = true) := by show _ = _; simp [Value.oneCell']
  have hst := stage_call (o := 6) (vs := [yb, .slice ba1 bn1 bc1, .slice ba2 bn2 bc2]) (O := fun x => OwnR TrT.vs 7 93 x gc21 (.slice ba1 bn1 bc1) BT ∧ OwnR PoT.vs 4 98 x gc21 (.slice ba2 bn2 bc2) BO) hq1 HFM21.out HB21.out HNE21.out ⟨bo1, bo2⟩ (Firm.and (Firm.own' (fun k hk e => by have h1 := OwnR.ge bo1 k hk; have h2 := OwnR.lt bo1 k hk; have := HBZ21.out; have := HNE21.out; omega)) (Firm.own' (fun k hk e => by have h1 := OwnR.ge bo2 k hk; have h2 := OwnR.lt bo2 k hk; have := HBZ21.out; have := HNE21.out; omega))) (by simp)
  obtain ⟨w4, hw2⟩ : ∃ x, x = w3.setCells ga 6 [yb, .slice ba1 bn1 bc1, .slice ba2 bn2 bc2] := ⟨_, rfl⟩
  rw [← hw2] at hst
  obtain ⟨M22, gb22, hf1, hb1, hx1, hq2, hn1, hg1⟩ := hst
  have HFM22 := Lh hf1
  have HB22 := Lh hb1
  have HX22 := Lh hx1
  have HNE22 := Lh hn1
  have HGB22 := Lh hg1
  have HQS22 : Hid (QM w g B v s9 (fun x => M22 x ∧ HT x ga 41 [y0, y1, y2, .slice ra1 rn1 rc1, .slice ra2 rn2 rc2, .slice ra3 rn3 rc3, yb, .slice ba1 bn1 bc1, .slice ba2 bn2 bc2, (0:Int), (), (), (), (), ()]) w4) := hq2
  have HW2 := Lh hw2
  clear bo1 bo2 hq1 hf1 hb1 hx1 hq2 hn1 hg1 hw2
  go_upto_region 6 with (first
   | (refine wpList_store_mid rfl 32 (.tmp 41) (.tmp 40) rfl ga 6 #[yb, .slice ba1 bn1 bc1, .slice ba2 bn2 bc2] rfl rfl HTH.out HSR.out HON.out ?_; change wpList _ _ _ _ _ (w3.setCells ga 6 [yb, .slice ba1 bn1 bc1, .slice ba2 bn2 bc2]); rw [← HW2.out])
   | fail)
  clear HTH HSR HON HW2
  obtain ⟨yl, hyl⟩ : ∃ y, y = (rI s9).1 := ⟨_, rfl⟩
  obtain ⟨s10, hs10⟩ : ∃ y, y = (rI s9).2 := ⟨_, rfl⟩
  have HRQ22 : Hid (rI s9 = (yl, s10)) := by show _ = _; rw [hyl, hs10]
  have hfr : Firm (fun k => k = g) (fun x => M22 x ∧ HT x ga 41 [y0, y1, y2, .slice ra1 rn1 rc1, .slice ra2 rn2 rc2, .slice ra3 rn3 rc3, yb, .slice ba1 bn1 bc1, .slice ba2 bn2 bc2, (0:Int), (), (), (), (), ()]) := Firm.and (Firm.mono HFM22.out (fun k h => .inl h)) (Firm.ht (by have := HNE22.out; omega))
  have rl := QM_Int hfr rfl HQS22.out HLEN.out
  have HBZ22 : Hid (gb22 ≤ w4.heap.size) := HB22.out _ HQS22.out.2.1
  obtain ⟨gc22, hgc⟩ : ∃ b, b = w4.heap.size := ⟨_, rfl⟩
  rw [← hgc] at HBZ22
  clear hfr hgc
  go_wp2_with fail
  refine rl.mono ?_
  clear rl
  rintro e w5 ⟨rfl, hq1⟩
  rw [← hs10] at hq1
  rw [← hyl]
  clear hyl hs10
  have hcx := hq1.2.2.cell (j := 9) rfl
  have hfx := hq1.2.2.frozen 9
  have hst := stage_call (o := 9) (vs := [yl]) (O := fun _ => True) hq1 HFM22.out HB22.out HNE22.out trivial (fun _ _ _ _ => trivial) (by simp)
  rw [show w5.setCells ga 9 [yl] = w5.setCell ⟨ga, 9, none⟩ (.int .i64 yl) from rfl] at hst
  obtain ⟨w6, hw2⟩ : ∃ x, x = w5.setCell ⟨ga, 9, none⟩ (.int .i64 yl) := ⟨_, rfl⟩
  rw [← hw2] at hst
  obtain ⟨M23, gb23, hf1, hb1, hx1, hq2, hn1, hg1⟩ := hst
  have HFM23 := Lh hf1
  have HB23 := Lh hb1
  have HX23 := Lh hx1
  have HNE23 := Lh hn1
  have HGB23 := Lh hg1
  have HQS23 : Hid (QM w g B v s10 (fun x => M23 x ∧ HT x ga 41 [y0, y1, y2, .slice ra1 rn1 rc1, .slice ra2 rn2 rc2, .slice ra3 rn3 rc3, yb, .slice ba1 bn1 bc1, .slice ba2 bn2 bc2, yl, (), (), (), (), ()]) w6) := hq2
  have HW2 := Lh hw2
  clear hq1 hf1 hb1 hx1 hq2 hn1 hg1 hw2
  go_upto_region 7 with fail
  rw [← HW2.out]
  clear HW2 hcx hfx
  obtain ⟨N, mt, mn, HMN⟩ := loop_in (F := 10) BaT.len HQS23.out HFM23.out HNE23.out HLEN.out rfl
  go_wp2_with fail
  refine mn.mono ?_
  clear mn
  rintro e w1 ⟨rfl, hq1⟩
  have HQ1 := Lh hq1
  clear hq1
  go_upto_block 0 with fail
  refine rs_bal HLEN HNE23 HFM23 HB23 (Lh (by simp)) HMN HQ1 ?_
  intros
  rename_i wx hx
  obtain ⟨D23, u24, a23, n23, c23, hQL, hq⟩ := hx
  obtain ⟨M24, gb24, HFM24, HB24, HX24, HQS, HNE24, HGB24⟩ := stage_nx hq HFM23.out HB23.out HNE23.out
  have HQL23 := Lh hQL
  have HQS24 : Hid (QM w g B v u24 (fun x => M24 x ∧ HT x ga 41 [y0, y1, y2, .slice ra1 rn1 rc1, .slice ra2 rn2 rc2, .slice ra3 rn3 rc3, yb, .slice ba1 bn1 bc1, .slice ba2 bn2 bc2, yl, .slice a23 n23 c23, (), (), (), ()]) wx) := HQS
  clear hQL hq HQS HMN HQ1
  obtain ⟨N, mt, mn, HMN⟩ := loop_in (F := 11) PlT.len HQS24.out HFM24.out HNE24.out HLEN.out rfl
  go_wp2_with fail
  refine mn.mono ?_
  clear mn
  rintro e w1 ⟨rfl, hq1⟩
  have HQ1 := Lh hq1
  clear hq1
  go_upto_block 2 with fail
  refine rs_ple HLEN HNE24 HFM24 HB24 (Lh (by simp)) HMN HQ1 ?_
  intros
  rename_i wx hx
  obtain ⟨D24, u25, a24, n24, c24, hQL, hq⟩ := hx
  obtain ⟨M25, gb25, HFM25, HB25, HX25, HQS, HNE25, HGB25⟩ := stage_nx hq HFM24.out HB24.out HNE24.out
  have HQL24 := Lh hQL
  have HQS25 : Hid (QM w g B v u25 (fun x => M25 x ∧ HT x ga 41 [y0, y1, y2, .slice ra1 rn1 rc1, .slice ra2 rn2 rc2, .slice ra3 rn3 rc3, yb, .slice ba1 bn1 bc1, .slice ba2 bn2 bc2, yl, .slice a23 n23 c23, .slice a24 n24 c24, (), (), ()]) wx) := HQS
  clear hQL hq HQS HMN HQ1
  obtain ⟨N, mt, mn, HMN⟩ := loop_in (F := 12) CaT.len HQS25.out HFM25.out HNE25.out HLEN.out rfl
  go_wp2_with fail
  refine mn.mono ?_
  clear mn
  rintro e w1 ⟨rfl, hq1⟩
  have HQ1 := Lh hq1
  clear hq1
  go_upto_block 4 with fail
  refine rs_cal HLEN HNE25 HFM25 HB25 (Lh (by simp)) HMN HQ1 ?_
  intros
  rename_i wx hx
  obtain ⟨D25, u26, a25, n25, c25, hQL, hq⟩ := hx
  obtain ⟨M26, gb26, HFM26, HB26, HX26, HQS, HNE26, HGB26⟩ := stage_nx hq HFM25.out HB25.out HNE25.out
  have HQL25 := Lh hQL
  have HQS26 : Hid (QM w g B v u26 (fun x => M26 x ∧ HT x ga 41 [y0, y1, y2, .slice ra1 rn1 rc1, .slice ra2 rn2 rc2, .slice ra3 rn3 rc3, yb, .slice ba1 bn1 bc1, .slice ba2 bn2 bc2, yl, .slice a23 n23 c23, .slice a24 n24 c24, .slice a25 n25 c25, (), ()]) wx) := HQS
  clear hQL hq HQS HMN HQ1
  obtain ⟨N, mt, mn, HMN⟩ := loop_in (F := 13) BiT.len HQS26.out HFM26.out HNE26.out HLEN.out rfl
  go_wp2_with fail
  refine mn.mono ?_
  clear mn
  rintro e w1 ⟨rfl, hq1⟩
  have HQ1 := Lh hq1
  clear hq1
  go_upto_block 6 with fail
  refine rs_bid HLEN HNE26 HFM26 HB26 (Lh (by simp)) HMN HQ1 ?_
  intros
  rename_i wx hx
  obtain ⟨D26, u27, a26, n26, c26, hQL, hq⟩ := hx
  obtain ⟨M27, gb27, HFM27, HB27, HX27, HQS, HNE27, HGB27⟩ := stage_nx hq HFM26.out HB26.out HNE26.out
  have HQL26 := Lh hQL
  have HQS27 : Hid (QM w g B v u27 (fun x => M27 x ∧ HT x ga 41 [y0, y1, y2, .slice ra1 rn1 rc1, .slice ra2 rn2 rc2, .slice ra3 rn3 rc3, yb, .slice ba1 bn1 bc1, .slice ba2 bn2 bc2, yl, .slice a23 n23 c23, .slice a24 n24 c24, .slice a25 n25 c25, .slice a26 n26 c26, ()]) wx) := HQS
  clear hQL hq HQS HMN HQ1
  have hqm : QM w g B v u27 (fun x => M27 x ∧ HT x ga 41 [y0, y1, y2, .slice ra1 rn1 rc1, .slice ra2 rn2 rc2, .slice ra3 rn3 rc3, yb, .slice ba1 bn1 bc1, .slice ba2 bn2 bc2, yl, .slice a23 n23 c23, .slice a24 n24 c24, .slice a25 n25 c25, .slice a26 n26 c26, ()] ∧ SeOwn x gb27 (.slice none 0 0) [] []) _ := ⟨HQS27.out.1, HQS27.out.2.1, HQS27.out.2.2, SeOwn.nil _ _⟩
  have hfm : Firm (fun k => k = g) (fun x => M27 x ∧ HT x ga 41 [y0, y1, y2, .slice ra1 rn1 rc1, .slice ra2 rn2 rc2, .slice ra3 rn3 rc3, yb, .slice ba1 bn1 bc1, .slice ba2 bn2 bc2, yl, .slice a23 n23 c23, .slice a24 n24 c24, .slice a25 n25 c25, .slice a26 n26 c26, ()] ∧ SeOwn x gb27 (.slice none 0 0) [] []) := Firm.and (Firm.mono HFM27.out (fun k h => .inl h)) (Firm.and (Firm.ht (by have := HNE27.out; omega)) (fun _ _ _ _ => SeOwn.nil _ _))
  have mn := many_any hfm hqm HLEN.out
  unfold MnPost at mn
  have hmr := mny_range u27
  obtain ⟨N, hN⟩ : ∃ N : Nat, (mny u27).1 = N := ⟨(mny u27).1.toNat, by omega⟩
  obtain ⟨mt, hmt⟩ : ∃ t, t = (mny u27).2 := ⟨_, rfl⟩
  rw [hN, ← hmt] at mn
  have HMN : Hid ((mny u27).1.toNat = N ∧ mt = (mny u27).2 ∧ N ≤ 1024) := ⟨by omega, hmt, by omega⟩
  clear hqm hfm hmr hN hmt
  go_wp2_with fail
  refine mn.mono ?_
  clear mn
  rintro e w1 ⟨rfl, hq1⟩
  have HQ1 := Lh hq1
  clear hq1
  go_upto_block 8 with fail
  refine rs_sea HLEN HNE27 HFM27 HB27 HMN HQ1 ?_
  intros
  rename_i wx hx
  have hcut := hx
  clear hx
  obtain ⟨LV, LQ, u28, aS, nS, cS, hQL, hq⟩ := hcut
  have h27 := HX27.out _ hq.2.1
  have h26 := HX26.out _ h27.1
  have h25 := HX25.out _ h26.1
  have h24 := HX24.out _ h25.1
  have h23 := HX23.out _ h24.1
  have h22 := HX22.out _ h23.1
  have h21 := HX21.out _ h22.1
  have h2 := HX20.out _ h21.1
  have hgs := HG2.out
  have hn20 := HNE20.out
  have hg21 := HGB21.out
  have hg22 := HGB22.out
  have hg23 := HGB23.out
  have hg24 := HGB24.out
  have hg25 := HGB25.out
  have hg26 := HGB26.out
  have hg27 := HGB27.out
  have hz20 := HBZ20.out
  have hz21 := HBZ21.out
  have hv : StOwn wx w.heap.size (.agg #[y0, y1, y2, .slice ra1 rn1 rc1, .slice ra2 rn2 rc2, .slice ra3 rn3 rc3, yb, .slice ba1 bn1 bc1, .slice ba2 bn2 bc2, yl, .slice a23 n23 c23, .slice a24 n24 c24, .slice a25 n25 c25, .slice a26 n26 c26, .slice aS nS cS]) (⟨y0, y1, y2, RM, RI, RA, yb, BT, BO, yl, D23, D24, D25, D26, LQ⟩ : StT) := ⟨ra1, rn1, rc1, ra2, rn2, rc2, ra3, rn3, rc3, ba1, bn1, bc1, ba2, bn2, bc2, a23, n23, c23, a24, n24, c24, a25, n25, c25, a26, n26, c26, aS, nS, cS, LV, rfl, OwnR.base h21.2.1 (by omega), OwnR.base h21.2.2.1 (by omega), OwnR.base h21.2.2.2 (by omega), OwnR.base h22.2.1 (by omega), OwnR.base h22.2.2 (by omega), OwnR.base h24.2 (by omega), OwnR.base h25.2 (by omega), OwnR.base h26.2 (by omega), OwnR.base h27.2 (by omega), hq.2.2.2.base (by omega)⟩
  have HIS := Lh (Inv.state HQ.out HRQ20.out.1 HRQ20.out.2.1 HRQ20.out.2.2 HRQ21.out.1 HRQ21.out.2.1 HRQ21.out.2.2 HRQ22.out HQL23.out HQL24.out HQL25.out HQL26.out hQL)
  have hgx := hq.2.2.1
  obtain ⟨m2, hq2, hd2, hk2⟩ := hq.1
  have dn := QDone_any wx g B _ m2 u28.2 hq2
  rw [hd2, show (u28.1, u28.2) = u28 from rfl] at dn
  have HB3 : Hid (Below wo.heap.size wo wx) := HBO.out.trans (hk2.below (fun k hk (e : k = g) => by omega) HBO.out.size)
  have HC3 : Hid (HT wx ga 41 [y0, y1, y2, .slice ra1 rn1 rc1, .slice ra2 rn2 rc2, .slice ra3 rn3 rc3, yb, .slice ba1 bn1 bc1, .slice ba2 bn2 bc2, yl, .slice a23 n23 c23, .slice a24 n24 c24, .slice a25 n25 c25, .slice a26 n26 c26, .slice aS nS cS] ∧ HT wx g2 41 [(0:Int), (0:Int), (0:Int), (), (), (), (0:Int), (), (), (0:Int), (), (), (), (), ()]) := ⟨hgx, h2⟩
  have HV := Lh hv
  have HWS : Hid (wo.heap.size ≤ w.heap.size ∧ g2 < w.heap.size ∧ g2 = wo.heap.size) := by show _ ∧ _ ∧ _; omega
  obtain ⟨d, hd⟩ : ∃ d, d = rD u28 := ⟨_, rfl⟩
  rw [← hd] at dn
  have HE : Hid (readSt B = if 65536 < n then (StT.zero, 6) else if d = 0 then ((⟨y0, y1, y2, RM, RI, RA, yb, BT, BO, yl, D23, D24, D25, D26, LQ⟩ : StT), 0) else (StT.zero, 6)) := by
   show _ = _
   have hdn := Inv.done HIS.out.1
   unfold readSt
   rw [← HN.out]
   split
   ·
    rfl
   ·
    by_cases hz : dE (sWF false (B, 0)) (sRF false (B, 0)).2 = 0
    ·
     rw [if_pos hz, if_pos (by rw [hd]; exact hdn.1.1 hz), HIS.out.2 (hdn.2 hz)]
     rfl
    ·
     rw [if_neg hz, if_neg (by rw [hd]; exact fun h => hz (hdn.1.2 h))]
  have HSZ : Hid ((Tryz.prog.info? 41).map (·.size) = some (#[y0, y1, y2, .slice ra1 rn1 rc1, .slice ra2 rn2 rc2, .slice ra3 rn3 rc3, yb, .slice ba1 bn1 bc1, .slice ba2 bn2 bc2, yl, .slice a23 n23 c23, .slice a24 n24 c24, .slice a25 n25 c25, .slice a26 n26 c26, .slice aS nS cS] : Array Value).size) := by show _ = _; rw [qstSz]; rfl
  have HSE : Hid ((#[(0:Int), (0:Int), (0:Int), (), (), (), (0:Int), (), (), (0:Int), (), (), (), (), ()] : Array Value).size = (#[y0, y1, y2, .slice ra1 rn1 rc1, .slice ra2 rn2 rc2, .slice ra3 rn3 rc3, yb, .slice ba1 bn1 bc1, .slice ba2 bn2 bc2, yl, .slice a23 n23 c23, .slice a24 n24 c24, .slice a25 n25 c25, .slice a26 n26 c26, .slice aS nS cS] : Array Value).size) := by show _ = _; rfl
  have HONE : Hid ((#[y0, y1, y2, .slice ra1 rn1 rc1, .slice ra2 rn2 rc2, .slice ra3 rn3 rc3, yb, .slice ba1 bn1 bc1, .slice ba2 bn2 bc2, yl, .slice a23 n23 c23, .slice a24 n24 c24, .slice a25 n25 c25, .slice a26 n26 c26, .slice aS nS cS] : Array Value).all (·.oneCell') = true) := by show _ = true; simp [Value.oneCell']
  clear hQL hq h27 h26 h25 h24 h23 h22 h21 h2 hgs hn20 hg21 hg22 hg23 hg24 hg25 hg26 hg27 hz20 hz21 hv hgx hq2 hd2 hk2 hd
  go_wp2_with fail
  refine dn.mono ?_
  clear dn
  rintro e w9 ⟨rfl, hb4⟩
  have HG5 : Hid (w9.heap[ga]? = some (.cells #[y0, y1, y2, .slice ra1 rn1 rc1, .slice ra2 rn2 rc2, .slice ra3 rn3 rc3, yb, .slice ba1 bn1 bc1, .slice ba2 bn2 bc2, yl, .slice a23 n23 c23, .slice a24 n24 c24, .slice a25 n25 c25, .slice a26 n26 c26, .slice aS nS cS] 41 (0, 0))) := HC3.out.1.below hb4
  have HG4 : Hid (w9.heap[g2]? = some (.cells #[(0:Int), (0:Int), (0:Int), (), (), (), (0:Int), (), (), (0:Int), (), (), (), (), ()] 41 (0, 0))) := HC3.out.2.below hb4
  have HB4 := Lh (HB3.out.trans (hb4.mono HB3.out.size))
  have HV4 := Lh (HV.out.below hb4)
  clear hb4
  by_cases hz : d = 0
  ·
   subst hz
   by_cases hlong : 65536 < n
   ·
    have HEE := Lh (show readSt B = (StT.zero, 6) by rw [HE.out, if_pos hlong])
    go_wp2_with (first
     | (refine wpList_store_row rfl 41 (.tmp 2) (.tmp 242) rfl g2 #[(0:Int), (0:Int), (0:Int), (), (), (), (0:Int), (), (), (0:Int), (), (), (), (), ()] rfl rfl 41 #[(0:Int), (0:Int), (0:Int), (), (), (), (0:Int), (), (), (0:Int), (), (), (), (), ()] HG4.out readSt_zsz rfl readSt_zone ?_)
     | fail)
    refine bodyPost_ret (results_row_tmp rfl _ _ g2 41 #[(0:Int), (0:Int), (0:Int), (), (), (), (0:Int), (), (), (0:Int), (), (), (), (), ()] (0, 0) _ rfl (setRow_heap _ _ _ _ _ _ HG4.out) Tryz.underlying41 rfl readSt_zsz rfl) rfl ?_
    exact ⟨_, by rw [HEE.out]; rfl, by rw [HEE.out]; exact StOwn_zero _ _, HB4.out.trans (setRow_below (by have := HWS.out; omega) _)⟩
   ·
    have HEE := Lh (show readSt B = ((⟨y0, y1, y2, RM, RI, RA, yb, BT, BO, yl, D23, D24, D25, D26, LQ⟩ : StT), 0) by rw [HE.out, if_neg hlong, if_pos rfl])
    go_wp2_with (first
     | (refine wpList_load_row rfl 41 (.tmp 5) rfl ga rfl 41 #[y0, y1, y2, .slice ra1 rn1 rc1, .slice ra2 rn2 rc2, .slice ra3 rn3 rc3, yb, .slice ba1 bn1 bc1, .slice ba2 bn2 bc2, yl, .slice a23 n23 c23, .slice a24 n24 c24, .slice a25 n25 c25, .slice a26 n26 c26, .slice aS nS cS] (0, 0) _ HG5.out Tryz.underlying41 rfl HSZ.out ?_)
     | (refine wpList_store_row rfl 41 (.tmp 2) (.tmp 243) rfl g2 #[y0, y1, y2, .slice ra1 rn1 rc1, .slice ra2 rn2 rc2, .slice ra3 rn3 rc3, yb, .slice ba1 bn1 bc1, .slice ba2 bn2 bc2, yl, .slice a23 n23 c23, .slice a24 n24 c24, .slice a25 n25 c25, .slice a26 n26 c26, .slice aS nS cS] rfl rfl 41 #[(0:Int), (0:Int), (0:Int), (), (), (), (0:Int), (), (), (0:Int), (), (), (), (), ()] HG4.out HSZ.out HSE.out HONE.out ?_)
     | fail)
    refine bodyPost_ret (results_row_tmp rfl _ _ g2 41 #[y0, y1, y2, .slice ra1 rn1 rc1, .slice ra2 rn2 rc2, .slice ra3 rn3 rc3, yb, .slice ba1 bn1 bc1, .slice ba2 bn2 bc2, yl, .slice a23 n23 c23, .slice a24 n24 c24, .slice a25 n25 c25, .slice a26 n26 c26, .slice aS nS cS] (0, 0) _ rfl (setRow_heap _ _ _ _ _ _ HG4.out) Tryz.underlying41 rfl HSZ.out rfl) rfl ?_
    refine ⟨_, by rw [HEE.out]; rfl, ?_, HB4.out.trans (setRow_below (by have := HWS.out; omega) _)⟩
    rw [HEE.out]
    have hkr : Kept (fun k => k = g2) w9 (w9.setRow g2 #[y0, y1, y2, .slice ra1 rn1 rc1, .slice ra2 rn2 rc2, .slice ra3 rn3 rc3, yb, .slice ba1 bn1 bc1, .slice ba2 bn2 bc2, yl, .slice a23 n23 c23, .slice a24 n24 c24, .slice a25 n25 c25, .slice a26 n26 c26, .slice aS nS cS]) := ⟨rfl, rfl, rfl, by simp [World.setRow], fun k _ hn => setRow_other _ _ _ _ hn⟩
    exact (HV4.out.kept hkr (fun k hk (e : k = g2) => by have := HWS.out; omega)).base HWS.out.1
  ·
   have hz' : (d != 0) = true := by rw [bne_iff_ne]; exact hz
   have HEE := Lh (show readSt B = (StT.zero, 6) by rw [HE.out, if_neg hz]; split <;> rfl)
   clear hz
   go_wp2_with (first
    | (refine wpList_store_row rfl 41 (.tmp 2) (.tmp 242) rfl g2 #[(0:Int), (0:Int), (0:Int), (), (), (), (0:Int), (), (), (0:Int), (), (), (), (), ()] rfl rfl 41 #[(0:Int), (0:Int), (0:Int), (), (), (), (0:Int), (), (), (0:Int), (), (), (), (), ()] HG4.out readSt_zsz rfl readSt_zone ?_)
    | fail)
   refine bodyPost_ret (results_row_tmp rfl _ _ g2 41 #[(0:Int), (0:Int), (0:Int), (), (), (), (0:Int), (), (), (0:Int), (), (), (), (), ()] (0, 0) _ rfl (setRow_heap _ _ _ _ _ _ HG4.out) Tryz.underlying41 rfl readSt_zsz rfl) rfl ?_
   exact ⟨_, by rw [HEE.out]; rfl, by rw [HEE.out]; exact StOwn_zero _ _, HB4.out.trans (setRow_below (by have := HWS.out; omega) _)⟩
end Cam
