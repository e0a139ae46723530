import Derived.Test.YtgeclnjkkjmbaaaGreatWsIz
/- cambistref24: R.reply. -/
namespace Cam
open Go Go.RowKit Go.Proofs
set_option linter.unusedVariables false
set_option linter.unusedSimpArgs false
set_option maxRecDepth 100000
set_option maxHeartbeats 6400000
theorem go_num_sub {N j : Nat} (_ : j < N) : (Value.int .i64 ((N : Int) - (j : Int) - 1)) = .int .i64 ((N : Int) - ((j + 1 : Nat) : Int)) := by congr 1; push_cast; omega
theorem fallSz : (Tryz.prog.info? 159).map (·.size) = some 8 := by kernel_rfl
def QRep (s : RS) (x : RepT) (s' : RS) : Prop := ∃ D s1 F, QL rdDT (rIs 3 s).2 D s1 ∧ QL rdFT s1 F s' ∧ x = ⟨(rIs 3 s).1.getD 0 0, (rIs 3 s).1.getD 1 0, (rIs 3 s).1.getD 2 0, D, F⟩
def QrPost (w : World) (g : Nat) (B : List UInt8) (v : Value) (s : RS) (e : Ending) (w' : World) : Prop := ∃ val x s', e = .returned val ∧ RepV w' w.heap.size val x ∧ QRep s x s' ∧ QPost 122 w g B v s' w'
theorem rrep_any (w : World) (g : Nat) (B : List UInt8) (v : Value) (s : RS) (h : QPost 122 w g B v s w) (hlen : B.length ≤ 70368744177664) :
  Calls Tryz.prog 38 #[.pointer (some ⟨g, 0, none⟩)] w (QrPost w g B v s) := by
 have hg := h.lt
 have hb1 : Below w.heap.size w (w.alloc (.cells #[(0:Int), (0:Int), (0:Int), (), ()] 63)) := Bn
 have hc : HT (w.alloc (.cells #[(0:Int), (0:Int), (0:Int), (), ()] 63)) w.heap.size 63 [(0:Int), (0:Int), (0:Int), (), ()] := HT.new (w := w)
 have hq0 : QM w g B v s (fun x => w.heap.size + 1 ≤ x.heap.size ∧ HT x w.heap.size 63 [(0:Int), (0:Int), (0:Int), (), ()]) (w.alloc (.cells #[(0:Int), (0:Int), (0:Int), (), ()] 63)) := ⟨h.below hb1, by simp, hc⟩
 obtain ⟨gb, hgb⟩ : ∃ b, b = w.heap.size + 1 := ⟨_, rfl⟩
 obtain ⟨g2, hg2⟩ : ∃ b, b = w.heap.size := ⟨_, rfl⟩
 have HG2 : Hid (g2 = w.heap.size ∧ gb = g2 + 1 ∧ g < g2) := ⟨hg2, by omega, by omega⟩
 rw [← hgb, ← hg2] at hq0
 obtain ⟨M0, hM0⟩ : ∃ M : World → Prop, M = (fun x => gb ≤ x.heap.size ∧ HT x g2 63 [(0:Int), (0:Int), (0:Int), (), ()]) := ⟨_, rfl⟩
 rw [← hM0] at hq0
 have HF0 : Hid (Firm (fun k => k = g) M0) := by show Firm _ _; rw [hM0]; exact Firm.and Firm.size (Firm.ht (by omega))
 have HFM : Hid (Firm (fun k => k = g ∨ gb ≤ k) M0) := by show Firm _ _; rw [hM0]; exact Firm.and Firm.size (Firm.ht (by omega))
 have HB0 : Hid (∀ x, M0 x → gb ≤ x.heap.size) := by intro x hx; rw [hM0] at hx; exact hx.1
 have HX0 : Hid (∀ x, M0 x → HT x g2 63 [(0:Int), (0:Int), (0:Int), (), ()]) := by intro x hx; rw [hM0] at hx; exact hx.2
 have HQ0 := Lh hq0
 have HLEN := Lh hlen
 obtain ⟨s0, hs0⟩ : ∃ s0, s0 = s := ⟨_, rfl⟩
 rw [← hs0] at HQ0 ⊢
 obtain ⟨y0, hy0⟩ : ∃ y, y = (rI s0).1 := ⟨_, rfl⟩
 obtain ⟨s1, hs1⟩ : ∃ s, s = (rI s0).2 := ⟨_, rfl⟩
 have q0 : ∀ (M : World → Prop) w1, Firm (fun k => k = g) M → QM w g B v s0 M w1 → Calls Tryz.prog 34 #[.pointer (some ⟨g, 0, none⟩)] w1 fun r w2 => r = .returned (.int .i64 y0) ∧ QM w g B v s1 M w2 := fun M w1 hf h => by rw [hy0, hs1]; exact QM_Int hf rfl h HLEN.out
 obtain ⟨y1, hy1⟩ : ∃ y, y = (rI s1).1 := ⟨_, rfl⟩
 obtain ⟨s2, hs2⟩ : ∃ s, s = (rI s1).2 := ⟨_, rfl⟩
 have q1 : ∀ (M : World → Prop) w1, Firm (fun k => k = g) M → QM w g B v s1 M w1 → Calls Tryz.prog 34 #[.pointer (some ⟨g, 0, none⟩)] w1 fun r w2 => r = .returned (.int .i64 y1) ∧ QM w g B v s2 M w2 := fun M w1 hf h => by rw [hy1, hs2]; exact QM_Int hf rfl h HLEN.out
 obtain ⟨y2, hy2⟩ : ∃ y, y = (rI s2).1 := ⟨_, rfl⟩
 obtain ⟨s3, hs3⟩ : ∃ s, s = (rI s2).2 := ⟨_, rfl⟩
 have q2 : ∀ (M : World → Prop) w1, Firm (fun k => k = g) M → QM w g B v s2 M w1 → Calls Tryz.prog 34 #[.pointer (some ⟨g, 0, none⟩)] w1 fun r w2 => r = .returned (.int .i64 y2) ∧ QM w g B v s3 M w2 := fun M w1 hf h => by rw [hy2, hs3]; exact QM_Int hf rfl h HLEN.out
 have HQ : Hid (rIs 3 s0 = ([y0, y1, y2], s3)) := by
  show _ = _
  simp only [rIs, List.nil_append, List.cons_append]
  rw [← hy0, ← hs1, ← hy1, ← hs2, ← hy2, ← hs3]
 clear hy0 hs1 hy1 hs2 hy2 hs3
 clear hs0 hM0 hb1 hc hq0 h hlen hg hgb hg2
 go_in
 go_upto_region 1 with fail
 rw [← HG2.out.1]
 generalize hW0 : (w.alloc (.cells #[(0:Int), (0:Int), (0:Int), (), ()] 63)) = W0 at *
 clear hW0
 go_cut [3] (fun v3 wx => ∃ ga, v3 = .pointer (some ⟨ga, 0, none⟩) ∧ QM w g B v s3 (fun x => M0 x ∧ HT x ga 63 [y0, y1, y2, (), ()]) wx ∧ g < ga ∧ w.heap.size ≤ ga ∧ gb ≤ ga)
 case first =>
  refine wp_region_uni (S0 := fun _ => True) (S := QM w g B v s0 M0) 14 (by kernel_rfl) (QM.below HF0.out HQ0.out (Below.refl _ _).drew) ?_
  refine uP 9 [(0, some 8, .pointer (some ⟨g, 0, none⟩)), (1, some 9, .pointer (some ⟨g, 0, none⟩)), (2, some 10, .pointer (some ⟨g, 0, none⟩)), (4, some 12, .pointer (some ⟨g, 0, none⟩)), (5, some 13, .pointer (some ⟨g, 0, none⟩)), (6, some 14, .pointer (some ⟨g, 0, none⟩)), (8, some 16, .pointer (some ⟨g, 0, none⟩)), (9, some 17, .pointer (some ⟨g, 0, none⟩)), (10, some 18, .pointer (some ⟨g, 0, none⟩))] (QM.cls HF0.out (fun _ _ => trivial)) ?_
  simp only [zq]
  refine wpAnyU_ready (rs := [3, 13]) (by kernel_rfl) (by simp) ?_
  refine uD rfl (fun wA3 hA3 K hK => ?_) (uD rfl (fun wA13 hA13 K hK => ?_) AllReadyU.nil)
  ·
   go_simp
   refine (q0 _ wA3 HF0.out hA3).mono ?_
   rintro e wn0 ⟨rfl, hn⟩
   refine hK.out _ _ (QM w g B v s1 M0) (QM.cls HF0.out (fun _ _ => trivial)) hn ?_
   clear hK K
   try simp only [zq]
   refine wpAnyU_ready (rs := [7, 13]) (by kernel_rfl) (by simp) ?_
   refine uD rfl (fun wA7 hA7 K hK => ?_) (uD rfl (fun wA13 hA13 K hK => ?_) AllReadyU.nil)
   ·
    go_simp
    refine (q1 _ wA7 HF0.out hA7).mono ?_
    rintro e wn1 ⟨rfl, hn⟩
    refine hK.out _ _ (QM w g B v s2 M0) (QM.cls HF0.out (fun _ _ => trivial)) hn ?_
    clear hK K
    try simp only [zq]
    refine wpAnyU_ready (rs := [11, 13]) (by kernel_rfl) (by simp) ?_
    refine uD rfl (fun wA11 hA11 K hK => ?_) (uD rfl (fun wA13 hA13 K hK => ?_) AllReadyU.nil)
    ·
     go_simp
     refine (q2 _ wA11 HF0.out hA11).mono ?_
     rintro e wn2 ⟨rfl, hn⟩
     refine hK.out _ _ (QM w g B v s3 M0) (QM.cls HF0.out (fun _ _ => trivial)) hn ?_
     clear hK K
     try simp only [zq]
     refine uG 12 (some 20) (.agg #[y0, y1, y2, (), ()]) (QM.cls HF0.out (fun _ _ => trivial)) ?_
     simp only [zq]
     refine uS 13 rfl (fun wA13 hA13 K hK => ?_)
     go_simp
     have hgq := hA13.1.lt
     have hgz := hA13.1.size
     have hgb := HB0.out _ hA13.2
     obtain ⟨ga, hgae⟩ : ∃ ga, ga = wA13.heap.size := ⟨_, rfl⟩
     have HNE : Hid (g < ga ∧ w.heap.size ≤ ga ∧ gb ≤ ga) := by show _ ∧ _ ∧ _; exact ⟨by omega, by omega, by omega⟩
     have HF1 : Hid (Firm (fun k => k = g) (fun x => M0 x ∧ HT x ga 63 [(0:Int), (0:Int), (0:Int), (), ()])) := Firm.and HF0.out (Firm.ht (by have := HNE.out.1; omega))
     have hbx : Below wA13.heap.size wA13 (wA13.alloc (.cells #[(0:Int), (0:Int), (0:Int), (), ()] 63)) := Bn
     have hnew : HT (wA13.alloc (.cells #[(0:Int), (0:Int), (0:Int), (), ()] 63)) ga 63 [(0:Int), (0:Int), (0:Int), (), ()] := by rw [hgae]; exact HT.new (w := wA13)
     rw [← hgae]
     clear hgq hgz hgb hgae
     refine hK.out _ _ (QM w g B v s3 (fun x => M0 x ∧ HT x ga 63 [(0:Int), (0:Int), (0:Int), (), ()])) (QM.cls HF1.out (fun _ _ => trivial)) ⟨hA13.1.below hbx, Firm.below HF0.out hA13.2 hbx, hnew⟩ ?_
     clear hK K
     try simp only [zq]
     refine uZ rfl (fun w1 hb1 K hK => ?_)
     refine step_store_mid rfl 63 (.tmp 3) (.tmp 20) rfl ga 0 [y0, y1, y2, (), ()] rfl rfl (fun j hj => ⟨hb1.2.2.isSome (by simpa using hj), hb1.2.2.frozen _⟩) (by rw [repSz]; rfl) (by simp [Value.oneCell']) ?_
     have hput := hb1.2.2.puts (o := 0) (vs := [y0, y1, y2, (), ()]) (by simp)
     rw [splice_all (by simp)] at hput
     have hk9 := setCells_kept ga [y0, y1, y2, (), ()] 0 w1
     have hq9 := hb1.1.keptS hk9 (fun k (e : k = ga) => by have := HNE.out; omega)
     have hm9 := HFM.out _ _ hb1.2.1 (hk9.weaken (fun k (e : k = ga) => by have := HNE.out; show _ ∨ _; omega))
     have HQ9 := Lh (⟨hq9, hm9, hput⟩ : QM w g B v s3 (fun x => M0 x ∧ HT x ga 63 [y0, y1, y2, (), ()]) _)
     obtain ⟨w9, hw9⟩ : ∃ w9, w9 = w1.setCells ga 0 [y0, y1, y2, (), ()] := ⟨_, rfl⟩
     rw [← hw9] at HQ9 ⊢
     clear hput hk9 hq9 hm9 hb1 hw9
     refine hK.out _ _ ?_
     clear hK K
     try simp only [Act.put]
     go_wp2_with fail
     go_meet
     exact ⟨ga, rfl, HQ9.out, HNE.out⟩
    ·
     go_simp
     have hgq := hA13.1.lt
     have hgz := hA13.1.size
     have hgb := HB0.out _ hA13.2
     obtain ⟨ga, hgae⟩ : ∃ ga, ga = wA13.heap.size := ⟨_, rfl⟩
     have HNE : Hid (g < ga ∧ w.heap.size ≤ ga ∧ gb ≤ ga) := by show _ ∧ _ ∧ _; exact ⟨by omega, by omega, by omega⟩
     have HF1 : Hid (Firm (fun k => k = g) (fun x => M0 x ∧ HT x ga 63 [(0:Int), (0:Int), (0:Int), (), ()])) := Firm.and HF0.out (Firm.ht (by have := HNE.out.1; omega))
     have hbx : Below wA13.heap.size wA13 (wA13.alloc (.cells #[(0:Int), (0:Int), (0:Int), (), ()] 63)) := Bn
     have hnew : HT (wA13.alloc (.cells #[(0:Int), (0:Int), (0:Int), (), ()] 63)) ga 63 [(0:Int), (0:Int), (0:Int), (), ()] := by rw [hgae]; exact HT.new (w := wA13)
     rw [← hgae]
     clear hgq hgz hgb hgae
     refine hK.out _ _ (QM w g B v s2 (fun x => M0 x ∧ HT x ga 63 [(0:Int), (0:Int), (0:Int), (), ()])) (QM.cls HF1.out (fun _ _ => trivial)) ⟨hA13.1.below hbx, Firm.below HF0.out hA13.2 hbx, hnew⟩ ?_
     clear hK K
     try simp only [zq]
     refine uS 11 rfl (fun wA11 hA11 K hK => ?_)
     go_simp
     refine (q2 _ wA11 HF1.out hA11).mono ?_
     rintro e wn2 ⟨rfl, hn⟩
     refine hK.out _ _ (QM w g B v s3 (fun x => M0 x ∧ HT x ga 63 [(0:Int), (0:Int), (0:Int), (), ()])) (QM.cls HF1.out (fun _ _ => trivial)) hn ?_
     clear hK K
     try simp only [zq]
     refine uG 12 (some 20) (.agg #[y0, y1, y2, (), ()]) (QM.cls HF1.out (fun _ _ => trivial)) ?_
     simp only [zq]
     refine uZ rfl (fun w1 hb1 K hK => ?_)
     refine step_store_mid rfl 63 (.tmp 3) (.tmp 20) rfl ga 0 [y0, y1, y2, (), ()] rfl rfl (fun j hj => ⟨hb1.2.2.isSome (by simpa using hj), hb1.2.2.frozen _⟩) (by rw [repSz]; rfl) (by simp [Value.oneCell']) ?_
     have hput := hb1.2.2.puts (o := 0) (vs := [y0, y1, y2, (), ()]) (by simp)
     rw [splice_all (by simp)] at hput
     have hk9 := setCells_kept ga [y0, y1, y2, (), ()] 0 w1
     have hq9 := hb1.1.keptS hk9 (fun k (e : k = ga) => by have := HNE.out; omega)
     have hm9 := HFM.out _ _ hb1.2.1 (hk9.weaken (fun k (e : k = ga) => by have := HNE.out; show _ ∨ _; omega))
     have HQ9 := Lh (⟨hq9, hm9, hput⟩ : QM w g B v s3 (fun x => M0 x ∧ HT x ga 63 [y0, y1, y2, (), ()]) _)
     obtain ⟨w9, hw9⟩ : ∃ w9, w9 = w1.setCells ga 0 [y0, y1, y2, (), ()] := ⟨_, rfl⟩
     rw [← hw9] at HQ9 ⊢
     clear hput hk9 hq9 hm9 hb1 hw9
     refine hK.out _ _ ?_
     clear hK K
     try simp only [Act.put]
     go_wp2_with fail
     go_meet
     exact ⟨ga, rfl, HQ9.out, HNE.out⟩
   ·
    go_simp
    have hgq := hA13.1.lt
    have hgz := hA13.1.size
    have hgb := HB0.out _ hA13.2
    obtain ⟨ga, hgae⟩ : ∃ ga, ga = wA13.heap.size := ⟨_, rfl⟩
    have HNE : Hid (g < ga ∧ w.heap.size ≤ ga ∧ gb ≤ ga) := by show _ ∧ _ ∧ _; exact ⟨by omega, by omega, by omega⟩
    have HF1 : Hid (Firm (fun k => k = g) (fun x => M0 x ∧ HT x ga 63 [(0:Int), (0:Int), (0:Int), (), ()])) := Firm.and HF0.out (Firm.ht (by have := HNE.out.1; omega))
    have hbx : Below wA13.heap.size wA13 (wA13.alloc (.cells #[(0:Int), (0:Int), (0:Int), (), ()] 63)) := Bn
    have hnew : HT (wA13.alloc (.cells #[(0:Int), (0:Int), (0:Int), (), ()] 63)) ga 63 [(0:Int), (0:Int), (0:Int), (), ()] := by rw [hgae]; exact HT.new (w := wA13)
    rw [← hgae]
    clear hgq hgz hgb hgae
    refine hK.out _ _ (QM w g B v s1 (fun x => M0 x ∧ HT x ga 63 [(0:Int), (0:Int), (0:Int), (), ()])) (QM.cls HF1.out (fun _ _ => trivial)) ⟨hA13.1.below hbx, Firm.below HF0.out hA13.2 hbx, hnew⟩ ?_
    clear hK K
    try simp only [zq]
    refine uS 7 rfl (fun wA7 hA7 K hK => ?_)
    go_simp
    refine (q1 _ wA7 HF1.out hA7).mono ?_
    rintro e wn1 ⟨rfl, hn⟩
    refine hK.out _ _ (QM w g B v s2 (fun x => M0 x ∧ HT x ga 63 [(0:Int), (0:Int), (0:Int), (), ()])) (QM.cls HF1.out (fun _ _ => trivial)) hn ?_
    clear hK K
    try simp only [zq]
    refine uS 11 rfl (fun wA11 hA11 K hK => ?_)
    go_simp
    refine (q2 _ wA11 HF1.out hA11).mono ?_
    rintro e wn2 ⟨rfl, hn⟩
    refine hK.out _ _ (QM w g B v s3 (fun x => M0 x ∧ HT x ga 63 [(0:Int), (0:Int), (0:Int), (), ()])) (QM.cls HF1.out (fun _ _ => trivial)) hn ?_
    clear hK K
    try simp only [zq]
    refine uG 12 (some 20) (.agg #[y0, y1, y2, (), ()]) (QM.cls HF1.out (fun _ _ => trivial)) ?_
    simp only [zq]
    refine uZ rfl (fun w1 hb1 K hK => ?_)
    refine step_store_mid rfl 63 (.tmp 3) (.tmp 20) rfl ga 0 [y0, y1, y2, (), ()] rfl rfl (fun j hj => ⟨hb1.2.2.isSome (by simpa using hj), hb1.2.2.frozen _⟩) (by rw [repSz]; rfl) (by simp [Value.oneCell']) ?_
    have hput := hb1.2.2.puts (o := 0) (vs := [y0, y1, y2, (), ()]) (by simp)
    rw [splice_all (by simp)] at hput
    have hk9 := setCells_kept ga [y0, y1, y2, (), ()] 0 w1
    have hq9 := hb1.1.keptS hk9 (fun k (e : k = ga) => by have := HNE.out; omega)
    have hm9 := HFM.out _ _ hb1.2.1 (hk9.weaken (fun k (e : k = ga) => by have := HNE.out; show _ ∨ _; omega))
    have HQ9 := Lh (⟨hq9, hm9, hput⟩ : QM w g B v s3 (fun x => M0 x ∧ HT x ga 63 [y0, y1, y2, (), ()]) _)
    obtain ⟨w9, hw9⟩ : ∃ w9, w9 = w1.setCells ga 0 [y0, y1, y2, (), ()] := ⟨_, rfl⟩
    rw [← hw9] at HQ9 ⊢
    clear hput hk9 hq9 hm9 hb1 hw9
    refine hK.out _ _ ?_
    clear hK K
    try simp only [Act.put]
    go_wp2_with fail
    go_meet
    exact ⟨ga, rfl, HQ9.out, HNE.out⟩
  ·
   go_simp
   have hgq := hA13.1.lt
   have hgz := hA13.1.size
   have hgb := HB0.out _ hA13.2
   obtain ⟨ga, hgae⟩ : ∃ ga, ga = wA13.heap.size := ⟨_, rfl⟩
   have HNE : Hid (g < ga ∧ w.heap.size ≤ ga ∧ gb ≤ ga) := by show _ ∧ _ ∧ _; exact ⟨by omega, by omega, by omega⟩
   have HF1 : Hid (Firm (fun k => k = g) (fun x => M0 x ∧ HT x ga 63 [(0:Int), (0:Int), (0:Int), (), ()])) := Firm.and HF0.out (Firm.ht (by have := HNE.out.1; omega))
   have hbx : Below wA13.heap.size wA13 (wA13.alloc (.cells #[(0:Int), (0:Int), (0:Int), (), ()] 63)) := Bn
   have hnew : HT (wA13.alloc (.cells #[(0:Int), (0:Int), (0:Int), (), ()] 63)) ga 63 [(0:Int), (0:Int), (0:Int), (), ()] := by rw [hgae]; exact HT.new (w := wA13)
   rw [← hgae]
   clear hgq hgz hgb hgae
   refine hK.out _ _ (QM w g B v s0 (fun x => M0 x ∧ HT x ga 63 [(0:Int), (0:Int), (0:Int), (), ()])) (QM.cls HF1.out (fun _ _ => trivial)) ⟨hA13.1.below hbx, Firm.below HF0.out hA13.2 hbx, hnew⟩ ?_
   clear hK K
   try simp only [zq]
   refine uS 3 rfl (fun wA3 hA3 K hK => ?_)
   go_simp
   refine (q0 _ wA3 HF1.out hA3).mono ?_
   rintro e wn0 ⟨rfl, hn⟩
   refine hK.out _ _ (QM w g B v s1 (fun x => M0 x ∧ HT x ga 63 [(0:Int), (0:Int), (0:Int), (), ()])) (QM.cls HF1.out (fun _ _ => trivial)) hn ?_
   clear hK K
   try simp only [zq]
   refine uS 7 rfl (fun wA7 hA7 K hK => ?_)
   go_simp
   refine (q1 _ wA7 HF1.out hA7).mono ?_
   rintro e wn1 ⟨rfl, hn⟩
   refine hK.out _ _ (QM w g B v s2 (fun x => M0 x ∧ HT x ga 63 [(0:Int), (0:Int), (0:Int), (), ()])) (QM.cls HF1.out (fun _ _ => trivial)) hn ?_
   clear hK K
   try simp only [zq]
   refine uS 11 rfl (fun wA11 hA11 K hK => ?_)
   go_simp
   refine (q2 _ wA11 HF1.out hA11).mono ?_
   rintro e wn2 ⟨rfl, hn⟩
   refine hK.out _ _ (QM w g B v s3 (fun x => M0 x ∧ HT x ga 63 [(0:Int), (0:Int), (0:Int), (), ()])) (QM.cls HF1.out (fun _ _ => trivial)) hn ?_
   clear hK K
   try simp only [zq]
   refine uG 12 (some 20) (.agg #[y0, y1, y2, (), ()]) (QM.cls HF1.out (fun _ _ => trivial)) ?_
   simp only [zq]
   refine uZ rfl (fun w1 hb1 K hK => ?_)
   refine step_store_mid rfl 63 (.tmp 3) (.tmp 20) rfl ga 0 [y0, y1, y2, (), ()] rfl rfl (fun j hj => ⟨hb1.2.2.isSome (by simpa using hj), hb1.2.2.frozen _⟩) (by rw [repSz]; rfl) (by simp [Value.oneCell']) ?_
   have hput := hb1.2.2.puts (o := 0) (vs := [y0, y1, y2, (), ()]) (by simp)
   rw [splice_all (by simp)] at hput
   have hk9 := setCells_kept ga [y0, y1, y2, (), ()] 0 w1
   have hq9 := hb1.1.keptS hk9 (fun k (e : k = ga) => by have := HNE.out; omega)
   have hm9 := HFM.out _ _ hb1.2.1 (hk9.weaken (fun k (e : k = ga) => by have := HNE.out; show _ ∨ _; omega))
   have HQ9 := Lh (⟨hq9, hm9, hput⟩ : QM w g B v s3 (fun x => M0 x ∧ HT x ga 63 [y0, y1, y2, (), ()]) _)
   obtain ⟨w9, hw9⟩ : ∃ w9, w9 = w1.setCells ga 0 [y0, y1, y2, (), ()] := ⟨_, rfl⟩
   rw [← hw9] at HQ9 ⊢
   clear hput hk9 hq9 hm9 hb1 hw9
   refine hK.out _ _ ?_
   clear hK K
   try simp only [Act.put]
   go_wp2_with fail
   go_meet
   exact ⟨ga, rfl, HQ9.out, HNE.out⟩
 case rest =>
  obtain ⟨ga, rfl, hq, hne⟩ := hcut
  obtain ⟨gb1, hgb1⟩ : ∃ b, b = ga + 1 := ⟨_, rfl⟩
  have HNE1 : Hid (g < ga ∧ w.heap.size ≤ ga ∧ gb ≤ ga ∧ ga < gb1) := ⟨hne.1, hne.2.1, hne.2.2, by omega⟩
  obtain ⟨M1, hM1⟩ : ∃ M : World → Prop, M = (fun x => M0 x ∧ gb1 ≤ x.heap.size) := ⟨_, rfl⟩
  have HFM1 : Hid (Firm (fun k => k = g ∨ k = ga ∨ gb1 ≤ k) M1) := by
   show Firm _ _
   rw [hM1]
   exact Firm.and (Firm.mono HFM.out (fun k h => by rcases h with h | h | h; exact .inl h; exact .inr (by omega); exact .inr (by omega))) Firm.size
  have HB1 : Hid (∀ x, M1 x → gb1 ≤ x.heap.size) := by intro x hx; rw [hM1] at hx; exact hx.2
  have HX1 : Hid (∀ x, M1 x → M0 x) := by intro x hx; rw [hM1] at hx; exact hx.1
  have hqm : QM w g B v s3 (fun x => M1 x ∧ HT x ga 63 [y0, y1, y2, (), ()] ∧ OwnR DT.vs 3 106 x gb1 (.slice none 0 0) []) wc := ⟨hq.1, by rw [hM1]; exact ⟨hq.2.1, by have := hq.2.2.lt; omega⟩, hq.2.2, OwnR.empty DT.len _ _ _⟩
  have hfm : Firm (fun k => k = g) (fun x => M1 x ∧ HT x ga 63 [y0, y1, y2, (), ()] ∧ OwnR DT.vs 3 106 x gb1 (.slice none 0 0) []) := Firm.and (Firm.mono HFM1.out (fun k h => .inl h)) (Firm.and (Firm.ht (by omega)) (Firm.own (by omega)))
  have mn := many_any hfm hqm HLEN.out
  unfold MnPost at mn
  have hmr := mny_range s3
  obtain ⟨N, hN⟩ : ∃ N : Nat, (mny s3).1 = N := ⟨(mny s3).1.toNat, by omega⟩
  obtain ⟨mt, hmt⟩ : ∃ t, t = (mny s3).2 := ⟨_, rfl⟩
  rw [hN, ← hmt] at mn
  have HMN : Hid ((mny s3).1.toNat = N ∧ mt = (mny s3).2 ∧ N ≤ 1024) := ⟨by omega, hmt, by omega⟩
  clear hq hne hgb1 hM1 hqm hfm hmr hN hmt
  go_wp2_with fail
  refine mn.mono ?_
  clear mn
  rintro e w1 ⟨rfl, hq1⟩
  have HQ1 := Lh hq1
  clear hq1
  go_upto_block 0 with fail
  go_cut [] (fun wx => ∃ D t a n c, QL rdDT s3 D t ∧ QM w g B v t (fun x => M1 x ∧ HT x ga 63 [y0, y1, y2, .slice a n c, ()] ∧ OwnR DT.vs 3 106 x gb1 (.slice a n c) D) wx)
  case first =>
   go_wp2_with fail
   go_loopw [4] (fun v4 wr => ∃ (j : Nat) (a0 : Option Addr) (n0 c0 : Nat), j ≤ N ∧ v4 = .int .i64 ((N : Int) - j) ∧ QM w g B v (rRs rdDT j mt).2 (fun x => M1 x ∧ HT x ga 63 [y0, y1, y2, .slice a0 n0 c0, ()] ∧ OwnR DT.vs 3 106 x gb1 (.slice a0 n0 c0) (rRs rdDT j mt).1) wr) (fun i _ => (intOf i).toNat)
   case atStart => exact ⟨0, none, 0, 0, Nat.zero_le _, by simp, HQ1.out⟩
   case round =>
    obtain ⟨j, a0, n0, c0, hj, rfl, hq⟩ := hrel
    have hlr := rRs_len rdDT j mt
    have HLE : Hid (((rRs rdDT j mt).1.length + 1) * 24 ≤ 140737488355328) := by have := HMN.out.2.2; show _ ≤ _; rw [hlr]; omega
    obtain ⟨t0, ht0⟩ : ∃ t, t = (rRs rdDT j mt).2 := ⟨_, rfl⟩
    rw [← ht0] at hq
    have hcb : wr.cell? ⟨g, 2, none⟩ = some (.int .i64 t0.2) := by obtain ⟨m, h1, _⟩ := hq.1; exact h1.cells.2.2.1
    have HQB := Lh hq
    have HQL : Hid ((j = N ∨ t0.2 ≠ 0) → QL rdDT s3 (rRs rdDT j mt).1 t0) := fun h => ⟨j, by rw [HMN.out.1]; exact hj, by rw [HMN.out.2.1], by rw [← HMN.out.2.1]; exact ht0, by rw [HMN.out.1]; exact h⟩
    obtain ⟨b, hb⟩ : ∃ b, b = t0.2 := ⟨_, rfl⟩
    rw [← hb] at hcb HQL
    clear hq hlr hb
    by_cases hltN : j < N
    ·
     have hpos : (0 : Int) < (N : Int) - (j : Int) := by omega
     have hup : (N : Int) - (j : Int) ≤ 1024 := by have := HMN.out.2.2; omega
     by_cases hz : b = 0
     ·
      subst hz
      obtain ⟨z0, hz0⟩ : ∃ y, y = (rI t0).1 := ⟨_, rfl⟩
      obtain ⟨t1, ht1⟩ : ∃ s, s = (rI t0).2 := ⟨_, rfl⟩
      have p0 : ∀ (M : World → Prop) w1, Firm (fun k => k = g) M → QM w g B v t0 M w1 → Calls Tryz.prog 34 #[.pointer (some ⟨g, 0, none⟩)] w1 fun r w2 => r = .returned (.int .i64 z0) ∧ QM w g B v t1 M w2 := fun M w1 hf h => by rw [hz0, ht1]; exact QM_Int hf rfl h HLEN.out
      obtain ⟨z1, hz1⟩ : ∃ y, y = (rI t1).1 := ⟨_, rfl⟩
      obtain ⟨t2, ht2⟩ : ∃ s, s = (rI t1).2 := ⟨_, rfl⟩
      have p1 : ∀ (M : World → Prop) w1, Firm (fun k => k = g) M → QM w g B v t1 M w1 → Calls Tryz.prog 34 #[.pointer (some ⟨g, 0, none⟩)] w1 fun r w2 => r = .returned (.int .i64 z1) ∧ QM w g B v t2 M w2 := fun M w1 hf h => by rw [hz1, ht2]; exact QM_Int hf rfl h HLEN.out
      obtain ⟨z2, hz2⟩ : ∃ y, y = (rI t2).1 := ⟨_, rfl⟩
      obtain ⟨t3, ht3⟩ : ∃ s, s = (rI t2).2 := ⟨_, rfl⟩
      have p2 : ∀ (M : World → Prop) w1, Firm (fun k => k = g) M → QM w g B v t2 M w1 → Calls Tryz.prog 34 #[.pointer (some ⟨g, 0, none⟩)] w1 fun r w2 => r = .returned (.int .i64 z2) ∧ QM w g B v t3 M w2 := fun M w1 hf h => by rw [hz2, ht3]; exact QM_Int hf rfl h HLEN.out
      have HP : Hid (rIs 3 t0 = ([z0, z1, z2], t3)) := by
       show _ = _
       simp only [rIs, List.nil_append, List.cons_append]
       rw [← hz0, ← ht1, ← hz1, ← ht2, ← hz2, ← ht3]
      clear hz0 ht1 hz1 ht2 hz2 ht3
      have HN1 : Hid ((rRs rdDT (j + 1) mt).1 = (rRs rdDT j mt).1 ++ [(⟨z0, z1, z2⟩ : DT)] ∧ (rRs rdDT (j + 1) mt).2 = t3) := by
       show _ ∧ _
       simp only [rRs]
       rw [← ht0]
       unfold rdDT
       rw [HP.out]
       exact ⟨rfl, rfl⟩
      have HFB : Hid (Firm (fun k => k = g) (fun x => M1 x ∧ HT x ga 63 [y0, y1, y2, .slice a0 n0 c0, ()] ∧ OwnR DT.vs 3 106 x gb1 (.slice a0 n0 c0) (rRs rdDT j mt).1)) := Firm.and (Firm.mono HFM1.out (fun k h => .inl h)) (Firm.and (Firm.ht (by have := HNE1.out; omega)) (Firm.own (by have := HNE1.out; omega)))
      clear ht0
      go_upto_region 5 with fail
      refine wp_region_uni (S0 := fun x => x.cell? ⟨ga, 3, none⟩ = some (.slice a0 n0 c0)) (S := QM w g B v t0 (fun x => M1 x ∧ HT x ga 63 [y0, y1, y2, .slice a0 n0 c0, ()] ∧ OwnR DT.vs 3 106 x gb1 (.slice a0 n0 c0) (rRs rdDT j mt).1)) 18 (by kernel_rfl) (QM.below HFB.out HQB.out (Below.refl _ _).drew) ?_
      refine uP 1 [(0, some 35, .pointer (some ⟨ga, 3, none⟩))] (QM.cls HFB.out (fun x hx => hx.2.1.cell (j := 3) rfl)) ?_
      refine uL 1 (some 36) (.slice a0 n0 c0) (QM.cls HFB.out (fun x hx => hx.2.1.cell (j := 3) rfl)) (fun w hSw => hSw) ?_
      refine uP 9 [(2, some 37, .pointer (some ⟨g, 0, none⟩)), (3, some 38, .pointer (some ⟨g, 0, none⟩)), (4, some 39, .pointer (some ⟨g, 0, none⟩)), (6, some 41, .pointer (some ⟨g, 0, none⟩)), (7, some 42, .pointer (some ⟨g, 0, none⟩)), (8, some 43, .pointer (some ⟨g, 0, none⟩)), (10, some 45, .pointer (some ⟨g, 0, none⟩)), (11, some 46, .pointer (some ⟨g, 0, none⟩)), (12, some 47, .pointer (some ⟨g, 0, none⟩))] (QM.cls HFB.out (fun x hx => hx.2.1.cell (j := 3) rfl)) ?_
      simp only [zq]
      refine uS 5 rfl (fun wA5 hA5 K hK => ?_)
      go_simp
      refine (p0 _ wA5 HFB.out hA5).mono ?_
      rintro e wn0 ⟨rfl, hn⟩
      refine hK.out _ _ (QM w g B v t1 (fun x => M1 x ∧ HT x ga 63 [y0, y1, y2, .slice a0 n0 c0, ()] ∧ OwnR DT.vs 3 106 x gb1 (.slice a0 n0 c0) (rRs rdDT j mt).1)) (QM.cls HFB.out (fun x hx => hx.2.1.cell (j := 3) rfl)) hn ?_
      clear hK K
      try simp only [zq]
      refine uS 9 rfl (fun wA9 hA9 K hK => ?_)
      go_simp
      refine (p1 _ wA9 HFB.out hA9).mono ?_
      rintro e wn1 ⟨rfl, hn⟩
      refine hK.out _ _ (QM w g B v t2 (fun x => M1 x ∧ HT x ga 63 [y0, y1, y2, .slice a0 n0 c0, ()] ∧ OwnR DT.vs 3 106 x gb1 (.slice a0 n0 c0) (rRs rdDT j mt).1)) (QM.cls HFB.out (fun x hx => hx.2.1.cell (j := 3) rfl)) hn ?_
      clear hK K
      try simp only [zq]
      refine uS 13 rfl (fun wA13 hA13 K hK => ?_)
      go_simp
      refine (p2 _ wA13 HFB.out hA13).mono ?_
      rintro e wn2 ⟨rfl, hn⟩
      refine hK.out _ _ (QM w g B v t3 (fun x => M1 x ∧ HT x ga 63 [y0, y1, y2, .slice a0 n0 c0, ()] ∧ OwnR DT.vs 3 106 x gb1 (.slice a0 n0 c0) (rRs rdDT j mt).1)) (QM.cls HFB.out (fun x hx => hx.2.1.cell (j := 3) rfl)) hn ?_
      clear hK K
      try simp only [zq]
      refine uG 14 (some 49) (.agg #[z0, z1, z2]) (QM.cls HFB.out (fun x hx => hx.2.1.cell (j := 3) rfl)) ?_
      simp only [zq]
      refine uS 15 rfl (fun wA15 hA15 K hK => ?_)
      go_simp
      have hbx : Below wA15.heap.size wA15 (wA15.alloc (.cells #[z0, z1, z2] 106)) := Bn
      have hone : Rs DT.vs 3 (wA15.alloc (.cells #[z0, z1, z2] 106)) (.slice (some ⟨wA15.heap.size, 0, none⟩) 1 1) [(⟨z0, z1, z2⟩ : DT)] := Rs.one DT.len wA15 (⟨z0, z1, z2⟩ : DT) 106
      obtain ⟨gx, hgx⟩ : ∃ gx, gx = wA15.heap.size := ⟨_, rfl⟩
      rw [← hgx] at hone ⊢
      refine hK.out _ _ (fun x => QM w g B v t3 (fun x => M1 x ∧ HT x ga 63 [y0, y1, y2, .slice a0 n0 c0, ()] ∧ OwnR DT.vs 3 106 x gb1 (.slice a0 n0 c0) (rRs rdDT j mt).1) x ∧ Rs DT.vs 3 x (.slice (some ⟨gx, 0, none⟩) 1 1) [(⟨z0, z1, z2⟩ : DT)]) (Cls.and (QM.cls HFB.out (fun x hx => hx.2.1.cell (j := 3) rfl)) (fun _ _ h hb => Rs.mono h hb)) ⟨QM.below HFB.out hA15 hbx, hone⟩ ?_
      clear hgx
      clear hK K
      try simp only [zq]
      refine uS 16 rfl (fun wA16 hA16 K hK => ?_)
      have hbase : gb1 ≤ wA16.heap.size := by have := HB1.out _ hA16.1.2.1; omega
      refine step_append_rows (v := .slice a0 n0 c0) (vx := .slice (some ⟨gx, 0, none⟩) 1 1) rfl (.tmp 36) (.tmp 50) 60 rfl (L := (rRs rdDT j mt).1) (M := [(⟨z0, z1, z2⟩ : DT)]) (base := gb1) elem_due rfl rfl hA16.1.2.2.2 hA16.2 DT.one HLE.out (by decide) hbase ?_
      intro a7 n7 c7 w7 Hn7 ho7 hg7 hat7 hb7
      have hge : ∀ k, (Value.slice a0 n0 c0).ownBlock = some k → gb1 ≤ k := OwnR.ge hA16.1.2.2.2
      have hk7 := Kept.of_grown hg7
      have HFB2 : Hid (Firm (fun k => k = g) (fun x => M1 x ∧ HT x ga 63 [y0, y1, y2, .slice a7 n7 c7, ()] ∧ OwnR DT.vs 3 106 x gb1 (.slice a7 n7 c7) ((rRs rdDT j mt).1 ++ [(⟨z0, z1, z2⟩ : DT)]))) := Firm.and (Firm.mono HFM1.out (fun k h => .inl h)) (Firm.and (Firm.ht (by have := HNE1.out; omega)) (Firm.own (by have := HNE1.out; omega)))
      have hx7 : HT w7 ga 63 [y0, y1, y2, .slice a0 n0 c0, ()] := hA16.1.2.2.1.keptH hk7 (fun e => by have := hge _ e; have := HNE1.out; omega)
      have HQ7 : Hid (QM w g B v t3 (fun x => M1 x ∧ HT x ga 63 [y0, y1, y2, .slice a0 n0 c0, ()] ∧ OwnR DT.vs 3 106 x gb1 (.slice a7 n7 c7) ((rRs rdDT j mt).1 ++ [(⟨z0, z1, z2⟩ : DT)])) w7) := ⟨hA16.1.1.keptS hk7 (fun k e => by have := hge k e; have := HNE1.out; omega), HFM1.out _ _ hA16.1.2.1 (hk7.weaken (fun k e => by have := hge k e; show _ ∨ _ ∨ _; omega)), hx7, ho7⟩
      have HFB3 : Hid (Firm (fun k => k = g) (fun x => M1 x ∧ HT x ga 63 [y0, y1, y2, .slice a0 n0 c0, ()] ∧ OwnR DT.vs 3 106 x gb1 (.slice a7 n7 c7) ((rRs rdDT j mt).1 ++ [(⟨z0, z1, z2⟩ : DT)]))) := Firm.and (Firm.mono HFM1.out (fun k h => .inl h)) (Firm.and (Firm.ht (by have := HNE1.out; omega)) (Firm.own (by have := HNE1.out; omega)))
      clear hk7 hx7 hge ho7 hg7 hat7 hb7 Hn7 hbase
      refine hK.out _ _ _ (QM.cls HFB3.out (fun x hx => hx.2.1.cell (j := 3) rfl)) HQ7.out ?_
      clear HQ7
      clear hK K
      try simp only [zq]
      refine uP 1 [(17, some 52, .pointer (some ⟨ga, 3, none⟩))] (QM.cls HFB3.out (fun x hx => hx.2.1.cell (j := 3) rfl)) ?_
      simp only [zq]
      refine uZ rfl (fun w1 hb1 K hK => ?_)
      have hcx := hb1.2.2.1.cell (j := 3) rfl
      have hfx := hb1.2.2.1.frozen 3
      have hkS : Kept (fun k => k = ga) w1 (w1.setCell ⟨ga, 3, none⟩ (.slice a7 n7 c7)) := (Kept.refl _ w1).setCell _ _ rfl
      have HQ9 : Hid (QM w g B v t3 (fun x => M1 x ∧ HT x ga 63 [y0, y1, y2, .slice a7 n7 c7, ()] ∧ OwnR DT.vs 3 106 x gb1 (.slice a7 n7 c7) ((rRs rdDT j mt).1 ++ [(⟨z0, z1, z2⟩ : DT)])) (w1.setCell ⟨ga, 3, none⟩ (.slice a7 n7 c7))) := ⟨hb1.1.keptS hkS (fun k (e : k = ga) => by have := HNE1.out; omega), HFM1.out _ _ hb1.2.1 (hkS.weaken (fun k (e : k = ga) => by show _ ∨ _ ∨ _; omega)), hb1.2.2.1.put' 3 _ rfl, OwnR.keptS hb1.2.2.2 hkS (fun k hk (e : k = ga) => by have := OwnR.ge hb1.2.2.2 k hk; have := HNE1.out; omega)⟩
      clear hb1 hkS HFB3
      go_simp
      refine hK.out _ _ ?_
      clear hK K
      try simp only [Act.put]
      have hqx : QM w g B v t3 (fun x => M1 x ∧ HT x ga 63 [y0, y1, y2, .slice a7 n7 c7, ()] ∧ OwnR DT.vs 3 106 x gb1 (.slice a7 n7 c7) (rRs rdDT (j + 1) mt).1) _ := ⟨HQ9.out.1, HQ9.out.2.1, HQ9.out.2.2.1, by rw [HN1.out.1]; exact HQ9.out.2.2.2⟩
      rw [← HN1.out.2] at hqx
      have HQX := Lh hqx
      clear hqx HQ9
      go_wp2_with fail
      first
       | exact ⟨⟨j + 1, a7, n7, c7, by omega, go_num_sub hltN, HQX.out⟩, by simp [intOf]; omega⟩
       | ((repeat apply Exists.intro); exact ⟨⟨j + 1, a7, n7, c7, by omega, go_num_sub hltN, HQX.out⟩, rfl⟩)
     ·
      have hz1 : (b == 0) = false := by simpa using hz
      have HE := Lh (HQL.out (.inr hz))
      clear hz ht0
      go_wp2_with fail
      go_meet
      exact ⟨_, _, _, _, _, HE.out, HQB.out⟩
    ·
     obtain rfl : j = N := by omega
     have HE := Lh (HQL.out (.inl rfl))
     have hneg : ¬ (0 : Int) < (j : Int) - (j : Int) := by omega
     clear ht0
     go_wp2_with fail
     go_meet
     exact ⟨_, _, _, _, _, HE.out, HQB.out⟩
  case rest =>
   obtain ⟨D, t, aD, nD, cD, hQL, hq⟩ := hcut
   have HQL1 := Lh hQL
   have hlt := OwnR.lt hq.2.2.2
   have hge := OwnR.ge hq.2.2.2
   have hb1 := HB1.out _ hq.2.1
   obtain ⟨gb2, hgb2⟩ : ∃ b, b = wc.heap.size := ⟨_, rfl⟩
   rw [← hgb2] at hlt hb1
   have HNE2 : Hid (g < ga ∧ w.heap.size ≤ ga ∧ ga < gb2 ∧ gb1 ≤ gb2) := by have := HNE1.out; show _ ∧ _ ∧ _ ∧ _; omega
   obtain ⟨M2, hM2⟩ : ∃ M : World → Prop, M = (fun x => (M1 x ∧ OwnR DT.vs 3 106 x gb1 (.slice aD nD cD) D) ∧ gb2 ≤ x.heap.size) := ⟨_, rfl⟩
   have HFM2 : Hid (Firm (fun k => k = g ∨ k = ga ∨ gb2 ≤ k) M2) := by
    show Firm _ _
    rw [hM2]
    exact Firm.and (Firm.and (Firm.mono HFM1.out (fun k h => by rcases h with h | h | h; exact .inl h; exact .inr (.inl h); exact .inr (.inr (by have := HNE2.out; omega)))) (Firm.own' (fun k hk e => by have h1 := hlt k hk; have h2 := hge k hk; have := HNE2.out; have := HNE1.out; omega))) Firm.size
   have HB2 : Hid (∀ x, M2 x → gb2 ≤ x.heap.size) := by intro x hx; rw [hM2] at hx; exact hx.2
   have HX2 : Hid (∀ x, M2 x → M1 x ∧ OwnR DT.vs 3 106 x gb1 (.slice aD nD cD) D) := by intro x hx; rw [hM2] at hx; exact hx.1
   have hqm : QM w g B v t (fun x => M2 x ∧ HT x ga 63 [y0, y1, y2, .slice aD nD cD, ()] ∧ OwnR FT.vs 8 159 x gb2 (.slice none 0 0) []) wc := ⟨hq.1, by rw [hM2]; exact ⟨⟨hq.2.1, hq.2.2.2⟩, by omega⟩, hq.2.2.1, OwnR.empty FT.len _ _ _⟩
   have hfm : Firm (fun k => k = g) (fun x => M2 x ∧ HT x ga 63 [y0, y1, y2, .slice aD nD cD, ()] ∧ OwnR FT.vs 8 159 x gb2 (.slice none 0 0) []) := Firm.and (Firm.mono HFM2.out (fun k h => .inl h)) (Firm.and (Firm.ht (by have := HNE2.out; omega)) (Firm.own (by have := HNE2.out; omega)))
   have mn := many_any hfm hqm HLEN.out
   unfold MnPost at mn
   have hmr := mny_range t
   obtain ⟨N2, hN⟩ : ∃ N : Nat, (mny t).1 = N := ⟨(mny t).1.toNat, by omega⟩
   obtain ⟨mu, hmt⟩ : ∃ u, u = (mny t).2 := ⟨_, rfl⟩
   rw [hN, ← hmt] at mn
   have HMN2 : Hid ((mny t).1.toNat = N2 ∧ mu = (mny t).2 ∧ N2 ≤ 1024) := ⟨by omega, hmt, by omega⟩
   clear hq hQL hlt hge hb1 hgb2 hM2 hqm hfm hmr hN hmt
   go_wp2_with fail
   refine mn.mono ?_
   clear mn
   rintro e w2 ⟨rfl, hq1⟩
   have HQ2 := Lh hq1
   clear hq1
   go_upto_block 2 with fail
   go_cut [] (fun wx => ∃ F t' a n c, QL rdFT t F t' ∧ QM w g B v t' (fun x => M2 x ∧ HT x ga 63 [y0, y1, y2, .slice aD nD cD, .slice a n c] ∧ OwnR FT.vs 8 159 x gb2 (.slice a n c) F) wx)
   case first =>
    go_wp2_with fail
    go_loopw [5] (fun v5 wr => ∃ (j : Nat) (a0 : Option Addr) (n0 c0 : Nat), j ≤ N2 ∧ v5 = .int .i64 ((N2 : Int) - j) ∧ QM w g B v (rRs rdFT j mu).2 (fun x => M2 x ∧ HT x ga 63 [y0, y1, y2, .slice aD nD cD, .slice a0 n0 c0] ∧ OwnR FT.vs 8 159 x gb2 (.slice a0 n0 c0) (rRs rdFT j mu).1) wr) (fun i _ => (intOf i).toNat)
    case atStart => exact ⟨0, none, 0, 0, Nat.zero_le _, by simp, HQ2.out⟩
    case round =>
     obtain ⟨j, a0, n0, c0, hj, rfl, hq⟩ := hrel
     have hlr := rRs_len rdFT j mu
     have HLE : Hid (((rRs rdFT j mu).1.length + 1) * 64 ≤ 140737488355328) := by have := HMN2.out.2.2; show _ ≤ _; rw [hlr]; omega
     obtain ⟨t0, ht0⟩ : ∃ t, t = (rRs rdFT j mu).2 := ⟨_, rfl⟩
     rw [← ht0] at hq
     have hcb : wr.cell? ⟨g, 2, none⟩ = some (.int .i64 t0.2) := by obtain ⟨m, h1, _⟩ := hq.1; exact h1.cells.2.2.1
     have HQB := Lh hq
     have HQL : Hid ((j = N2 ∨ t0.2 ≠ 0) → QL rdFT t (rRs rdFT j mu).1 t0) := fun h => ⟨j, by rw [HMN2.out.1]; exact hj, by rw [HMN2.out.2.1], by rw [← HMN2.out.2.1]; exact ht0, by rw [HMN2.out.1]; exact h⟩
     obtain ⟨b, hb⟩ : ∃ b, b = t0.2 := ⟨_, rfl⟩
     rw [← hb] at hcb HQL
     clear hlr hb
     by_cases hltN : j < N2
     ·
      have hpos : (0 : Int) < (N2 : Int) - (j : Int) := by omega
      have hup : (N2 : Int) - (j : Int) ≤ 1024 := by have := HMN2.out.2.2; omega
      by_cases hz : b = 0
      ·
       subst hz
       obtain ⟨z0, hz0⟩ : ∃ y, y = (rI t0).1 := ⟨_, rfl⟩
       obtain ⟨t1, ht1⟩ : ∃ s, s = (rI t0).2 := ⟨_, rfl⟩
       have p0 : ∀ (M : World → Prop) w1, Firm (fun k => k = g) M → QM w g B v t0 M w1 → Calls Tryz.prog 34 #[.pointer (some ⟨g, 0, none⟩)] w1 fun r w2 => r = .returned (.int .i64 z0) ∧ QM w g B v t1 M w2 := fun M w1 hf h => by rw [hz0, ht1]; exact QM_Int hf rfl h HLEN.out
       obtain ⟨z1, hz1⟩ : ∃ y, y = (rI t1).1 := ⟨_, rfl⟩
       obtain ⟨t2, ht2⟩ : ∃ s, s = (rI t1).2 := ⟨_, rfl⟩
       have p1 : ∀ (M : World → Prop) w1, Firm (fun k => k = g) M → QM w g B v t1 M w1 → Calls Tryz.prog 34 #[.pointer (some ⟨g, 0, none⟩)] w1 fun r w2 => r = .returned (.int .i64 z1) ∧ QM w g B v t2 M w2 := fun M w1 hf h => by rw [hz1, ht2]; exact QM_Int hf rfl h HLEN.out
       have HP : Hid (rIs 2 t0 = ([z0, z1], t2)) := by
        show _ = _
        simp only [rIs, List.nil_append, List.cons_append]
        rw [← hz0, ← ht1, ← hz1, ← ht2]
       clear hz0 ht1 hz1 ht2
       have HN0 : Hid ((rRs rdFT (j + 1) mu).1 = (rRs rdFT j mu).1 ++ [(rdFT t0).1] ∧ (rRs rdFT (j + 1) mu).2 = (rdFT t0).2) := by
        show _ ∧ _
        simp only [rRs]
        rw [← ht0]
        exact ⟨rfl, rfl⟩
       obtain ⟨gb3, hgb3⟩ : ∃ b, b = wr.heap.size := ⟨_, rfl⟩
       have hltF := OwnR.lt hq.2.2.2
       have hgeF := OwnR.ge hq.2.2.2
       have hgaF := hq.2.2.1.lt
       have hszF := HB2.out _ hq.2.1
       rw [← hgb3] at hltF hgaF hszF
       have HNEF : Hid (g < ga ∧ w.heap.size ≤ ga ∧ ga < gb3 ∧ gb2 ≤ gb3) := by have := HNE2.out; show _ ∧ _ ∧ _ ∧ _; omega
       obtain ⟨M3, hM3⟩ : ∃ M : World → Prop, M = (fun x => (M2 x ∧ HT x ga 63 [y0, y1, y2, .slice aD nD cD, .slice a0 n0 c0] ∧ OwnR FT.vs 8 159 x gb2 (.slice a0 n0 c0) (rRs rdFT j mu).1) ∧ gb3 ≤ x.heap.size) := ⟨_, rfl⟩
       have HFM3 : Hid (Firm (fun k => k = g ∨ gb3 ≤ k) M3) := by
        show Firm _ _
        rw [hM3]
        exact Firm.and (Firm.and (Firm.mono HFM2.out (fun k h => by rcases h with h | h; exact .inl h; exact .inr (.inr (by have := HNEF.out; omega)))) (Firm.and (Firm.ht (by have := HNEF.out; omega)) (Firm.own' (fun k hk e => by have h1 := hltF k hk; have h2 := hgeF k hk; have := HNEF.out; have := HNE2.out; omega)))) Firm.size
       have HF3 : Hid (Firm (fun k => k = g) M3) := Firm.mono HFM3.out (fun k h => .inl h)
       have HB3 : Hid (∀ x, M3 x → gb3 ≤ x.heap.size) := by intro x hx; rw [hM3] at hx; exact hx.2
       have HX3 : Hid (∀ x, M3 x → M2 x ∧ HT x ga 63 [y0, y1, y2, .slice aD nD cD, .slice a0 n0 c0] ∧ OwnR FT.vs 8 159 x gb2 (.slice a0 n0 c0) (rRs rdFT j mu).1) := by intro x hx; rw [hM3] at hx; exact hx.1
       have HQ3 : Hid (QM w g B v t0 M3 wr) := ⟨hq.1, by rw [hM3]; exact ⟨hq.2, by omega⟩⟩
       clear ht0 hq hgb3 hltF hgeF hgaF hszF hM3
       go_upto_region 9 with fail
       go_cut [6] (fun v6 wx => ∃ gf, v6 = .pointer (some ⟨gf, 0, none⟩) ∧ QM w g B v t2 (fun x => M3 x ∧ HT x gf 159 [z0, z1, (0:Int), (0:Int), (0:Int), (0:Int), (0:Int), (0:Int)]) wx ∧ g < gf ∧ w.heap.size ≤ gf ∧ gb3 ≤ gf)
       case first =>
        refine wp_region_uni (S0 := fun _ => True) (S := QM w g B v t0 M3) 10 (by kernel_rfl) (QM.below HF3.out HQ3.out (Below.refl _ _).drew) ?_
        refine uP 6 [(0, some 67, .pointer (some ⟨g, 0, none⟩)), (1, some 68, .pointer (some ⟨g, 0, none⟩)), (2, some 69, .pointer (some ⟨g, 0, none⟩)), (4, some 71, .pointer (some ⟨g, 0, none⟩)), (5, some 72, .pointer (some ⟨g, 0, none⟩)), (6, some 73, .pointer (some ⟨g, 0, none⟩))] (QM.cls HF3.out (fun _ _ => trivial)) ?_
        simp only [zq]
        refine wpAnyU_ready (rs := [3, 9]) (by kernel_rfl) (by simp) ?_
        refine uD rfl (fun wA3 hA3 K hK => ?_) (uD rfl (fun wA9 hA9 K hK => ?_) AllReadyU.nil)
        ·
         go_simp
         refine (p0 _ wA3 HF3.out hA3).mono ?_
         rintro e wn0 ⟨rfl, hn⟩
         refine hK.out _ _ (QM w g B v t1 M3) (QM.cls HF3.out (fun _ _ => trivial)) hn ?_
         clear hK K
         try simp only [zq]
         refine wpAnyU_ready (rs := [7, 9]) (by kernel_rfl) (by simp) ?_
         refine uD rfl (fun wA7 hA7 K hK => ?_) (uD rfl (fun wA9 hA9 K hK => ?_) AllReadyU.nil)
         ·
          go_simp
          refine (p1 _ wA7 HF3.out hA7).mono ?_
          rintro e wn1 ⟨rfl, hn⟩
          refine hK.out _ _ (QM w g B v t2 M3) (QM.cls HF3.out (fun _ _ => trivial)) hn ?_
          clear hK K
          try simp only [zq]
          refine uG 8 (some 75) (.agg #[z0, z1, (0:Int), (0:Int), (0:Int), (0:Int), (0:Int), (0:Int)]) (QM.cls HF3.out (fun _ _ => trivial)) ?_
          simp only [zq]
          refine uS 9 rfl (fun wA9 hA9 K hK => ?_)
          go_simp
          have hgq := hA9.1.lt
          have hgz := hA9.1.size
          have hgb := HB3.out _ hA9.2
          obtain ⟨gf, hgae⟩ : ∃ gf, gf = wA9.heap.size := ⟨_, rfl⟩
          have HNE3 : Hid (g < gf ∧ w.heap.size ≤ gf ∧ gb3 ≤ gf) := by show _ ∧ _ ∧ _; exact ⟨by omega, by omega, by omega⟩
          have HF1 : Hid (Firm (fun k => k = g) (fun x => M3 x ∧ HT x gf 159 [(0:Int), (0:Int), (0:Int), (0:Int), (0:Int), (0:Int), (0:Int), (0:Int)])) := Firm.and HF3.out (Firm.ht (by have := HNE3.out.1; omega))
          have hbx : Below wA9.heap.size wA9 (wA9.alloc (.cells #[(0:Int), (0:Int), (0:Int), (0:Int), (0:Int), (0:Int), (0:Int), (0:Int)] 159)) := Bn
          have hnew : HT (wA9.alloc (.cells #[(0:Int), (0:Int), (0:Int), (0:Int), (0:Int), (0:Int), (0:Int), (0:Int)] 159)) gf 159 [(0:Int), (0:Int), (0:Int), (0:Int), (0:Int), (0:Int), (0:Int), (0:Int)] := by rw [hgae]; exact HT.new (w := wA9)
          rw [← hgae]
          clear hgq hgz hgb hgae
          refine hK.out _ _ (QM w g B v t2 (fun x => M3 x ∧ HT x gf 159 [(0:Int), (0:Int), (0:Int), (0:Int), (0:Int), (0:Int), (0:Int), (0:Int)])) (QM.cls HF1.out (fun _ _ => trivial)) ⟨hA9.1.below hbx, Firm.below HF3.out hA9.2 hbx, hnew⟩ ?_
          clear hK K
          try simp only [zq]
          refine uZ rfl (fun w1 hb1 K hK => ?_)
          refine step_store_mid rfl 159 (.tmp 6) (.tmp 75) rfl gf 0 [z0, z1, (0:Int), (0:Int), (0:Int), (0:Int), (0:Int), (0:Int)] rfl rfl (fun j hj => ⟨hb1.2.2.isSome (by simpa using hj), hb1.2.2.frozen _⟩) (by rw [fallSz]; rfl) (by simp [Value.oneCell']) ?_
          have hput := hb1.2.2.puts (o := 0) (vs := [z0, z1, (0:Int), (0:Int), (0:Int), (0:Int), (0:Int), (0:Int)]) (by simp)
          rw [splice_all (by simp)] at hput
          have hk9 := setCells_kept gf [z0, z1, (0:Int), (0:Int), (0:Int), (0:Int), (0:Int), (0:Int)] 0 w1
          have hq9 := hb1.1.keptS hk9 (fun k (e : k = gf) => by have := HNE3.out; omega)
          have hm9 := HFM3.out _ _ hb1.2.1 (hk9.weaken (fun k (e : k = gf) => by have := HNE3.out; show _ ∨ _; omega))
          have HQ9 := Lh (⟨hq9, hm9, hput⟩ : QM w g B v t2 (fun x => M3 x ∧ HT x gf 159 [z0, z1, (0:Int), (0:Int), (0:Int), (0:Int), (0:Int), (0:Int)]) _)
          obtain ⟨w9, hw9⟩ : ∃ w9, w9 = w1.setCells gf 0 [z0, z1, (0:Int), (0:Int), (0:Int), (0:Int), (0:Int), (0:Int)] := ⟨_, rfl⟩
          rw [← hw9] at HQ9 ⊢
          clear hput hk9 hq9 hm9 hb1 hw9
          refine hK.out _ _ ?_
          clear hK K
          try simp only [Act.put]
          go_wp2_with fail
          go_meet
          exact ⟨gf, rfl, HQ9.out, HNE3.out⟩
         ·
          go_simp
          have hgq := hA9.1.lt
          have hgz := hA9.1.size
          have hgb := HB3.out _ hA9.2
          obtain ⟨gf, hgae⟩ : ∃ gf, gf = wA9.heap.size := ⟨_, rfl⟩
          have HNE3 : Hid (g < gf ∧ w.heap.size ≤ gf ∧ gb3 ≤ gf) := by show _ ∧ _ ∧ _; exact ⟨by omega, by omega, by omega⟩
          have HF1 : Hid (Firm (fun k => k = g) (fun x => M3 x ∧ HT x gf 159 [(0:Int), (0:Int), (0:Int), (0:Int), (0:Int), (0:Int), (0:Int), (0:Int)])) := Firm.and HF3.out (Firm.ht (by have := HNE3.out.1; omega))
          have hbx : Below wA9.heap.size wA9 (wA9.alloc (.cells #[(0:Int), (0:Int), (0:Int), (0:Int), (0:Int), (0:Int), (0:Int), (0:Int)] 159)) := Bn
          have hnew : HT (wA9.alloc (.cells #[(0:Int), (0:Int), (0:Int), (0:Int), (0:Int), (0:Int), (0:Int), (0:Int)] 159)) gf 159 [(0:Int), (0:Int), (0:Int), (0:Int), (0:Int), (0:Int), (0:Int), (0:Int)] := by rw [hgae]; exact HT.new (w := wA9)
          rw [← hgae]
          clear hgq hgz hgb hgae
          refine hK.out _ _ (QM w g B v t1 (fun x => M3 x ∧ HT x gf 159 [(0:Int), (0:Int), (0:Int), (0:Int), (0:Int), (0:Int), (0:Int), (0:Int)])) (QM.cls HF1.out (fun _ _ => trivial)) ⟨hA9.1.below hbx, Firm.below HF3.out hA9.2 hbx, hnew⟩ ?_
          clear hK K
          try simp only [zq]
          refine uS 7 rfl (fun wA7 hA7 K hK => ?_)
          go_simp
          refine (p1 _ wA7 HF1.out hA7).mono ?_
          rintro e wn1 ⟨rfl, hn⟩
          refine hK.out _ _ (QM w g B v t2 (fun x => M3 x ∧ HT x gf 159 [(0:Int), (0:Int), (0:Int), (0:Int), (0:Int), (0:Int), (0:Int), (0:Int)])) (QM.cls HF1.out (fun _ _ => trivial)) hn ?_
          clear hK K
          try simp only [zq]
          refine uG 8 (some 75) (.agg #[z0, z1, (0:Int), (0:Int), (0:Int), (0:Int), (0:Int), (0:Int)]) (QM.cls HF1.out (fun _ _ => trivial)) ?_
          simp only [zq]
          refine uZ rfl (fun w1 hb1 K hK => ?_)
          refine step_store_mid rfl 159 (.tmp 6) (.tmp 75) rfl gf 0 [z0, z1, (0:Int), (0:Int), (0:Int), (0:Int), (0:Int), (0:Int)] rfl rfl (fun j hj => ⟨hb1.2.2.isSome (by simpa using hj), hb1.2.2.frozen _⟩) (by rw [fallSz]; rfl) (by simp [Value.oneCell']) ?_
          have hput := hb1.2.2.puts (o := 0) (vs := [z0, z1, (0:Int), (0:Int), (0:Int), (0:Int), (0:Int), (0:Int)]) (by simp)
          rw [splice_all (by simp)] at hput
          have hk9 := setCells_kept gf [z0, z1, (0:Int), (0:Int), (0:Int), (0:Int), (0:Int), (0:Int)] 0 w1
          have hq9 := hb1.1.keptS hk9 (fun k (e : k = gf) => by have := HNE3.out; omega)
          have hm9 := HFM3.out _ _ hb1.2.1 (hk9.weaken (fun k (e : k = gf) => by have := HNE3.out; show _ ∨ _; omega))
          have HQ9 := Lh (⟨hq9, hm9, hput⟩ : QM w g B v t2 (fun x => M3 x ∧ HT x gf 159 [z0, z1, (0:Int), (0:Int), (0:Int), (0:Int), (0:Int), (0:Int)]) _)
          obtain ⟨w9, hw9⟩ : ∃ w9, w9 = w1.setCells gf 0 [z0, z1, (0:Int), (0:Int), (0:Int), (0:Int), (0:Int), (0:Int)] := ⟨_, rfl⟩
          rw [← hw9] at HQ9 ⊢
          clear hput hk9 hq9 hm9 hb1 hw9
          refine hK.out _ _ ?_
          clear hK K
          try simp only [Act.put]
          go_wp2_with fail
          go_meet
          exact ⟨gf, rfl, HQ9.out, HNE3.out⟩
        ·
         go_simp
         have hgq := hA9.1.lt
         have hgz := hA9.1.size
         have hgb := HB3.out _ hA9.2
         obtain ⟨gf, hgae⟩ : ∃ gf, gf = wA9.heap.size := ⟨_, rfl⟩
         have HNE3 : Hid (g < gf ∧ w.heap.size ≤ gf ∧ gb3 ≤ gf) := by show _ ∧ _ ∧ _; exact ⟨by omega, by omega, by omega⟩
         have HF1 : Hid (Firm (fun k => k = g) (fun x => M3 x ∧ HT x gf 159 [(0:Int), (0:Int), (0:Int), (0:Int), (0:Int), (0:Int), (0:Int), (0:Int)])) := Firm.and HF3.out (Firm.ht (by have := HNE3.out.1; omega))
         have hbx : Below wA9.heap.size wA9 (wA9.alloc (.cells #[(0:Int), (0:Int), (0:Int), (0:Int), (0:Int), (0:Int), (0:Int), (0:Int)] 159)) := Bn
         have hnew : HT (wA9.alloc (.cells #[(0:Int), (0:Int), (0:Int), (0:Int), (0:Int), (0:Int), (0:Int), (0:Int)] 159)) gf 159 [(0:Int), (0:Int), (0:Int), (0:Int), (0:Int), (0:Int), (0:Int), (0:Int)] := by rw [hgae]; exact HT.new (w := wA9)
         rw [← hgae]
         clear hgq hgz hgb hgae
         refine hK.out _ _ (QM w g B v t0 (fun x => M3 x ∧ HT x gf 159 [(0:Int), (0:Int), (0:Int), (0:Int), (0:Int), (0:Int), (0:Int), (0:Int)])) (QM.cls HF1.out (fun _ _ => trivial)) ⟨hA9.1.below hbx, Firm.below HF3.out hA9.2 hbx, hnew⟩ ?_
         clear hK K
         try simp only [zq]
         refine uS 3 rfl (fun wA3 hA3 K hK => ?_)
         go_simp
         refine (p0 _ wA3 HF1.out hA3).mono ?_
         rintro e wn0 ⟨rfl, hn⟩
         refine hK.out _ _ (QM w g B v t1 (fun x => M3 x ∧ HT x gf 159 [(0:Int), (0:Int), (0:Int), (0:Int), (0:Int), (0:Int), (0:Int), (0:Int)])) (QM.cls HF1.out (fun _ _ => trivial)) hn ?_
         clear hK K
         try simp only [zq]
         refine uS 7 rfl (fun wA7 hA7 K hK => ?_)
         go_simp
         refine (p1 _ wA7 HF1.out hA7).mono ?_
         rintro e wn1 ⟨rfl, hn⟩
         refine hK.out _ _ (QM w g B v t2 (fun x => M3 x ∧ HT x gf 159 [(0:Int), (0:Int), (0:Int), (0:Int), (0:Int), (0:Int), (0:Int), (0:Int)])) (QM.cls HF1.out (fun _ _ => trivial)) hn ?_
         clear hK K
         try simp only [zq]
         refine uG 8 (some 75) (.agg #[z0, z1, (0:Int), (0:Int), (0:Int), (0:Int), (0:Int), (0:Int)]) (QM.cls HF1.out (fun _ _ => trivial)) ?_
         simp only [zq]
         refine uZ rfl (fun w1 hb1 K hK => ?_)
         refine step_store_mid rfl 159 (.tmp 6) (.tmp 75) rfl gf 0 [z0, z1, (0:Int), (0:Int), (0:Int), (0:Int), (0:Int), (0:Int)] rfl rfl (fun j hj => ⟨hb1.2.2.isSome (by simpa using hj), hb1.2.2.frozen _⟩) (by rw [fallSz]; rfl) (by simp [Value.oneCell']) ?_
         have hput := hb1.2.2.puts (o := 0) (vs := [z0, z1, (0:Int), (0:Int), (0:Int), (0:Int), (0:Int), (0:Int)]) (by simp)
         rw [splice_all (by simp)] at hput
         have hk9 := setCells_kept gf [z0, z1, (0:Int), (0:Int), (0:Int), (0:Int), (0:Int), (0:Int)] 0 w1
         have hq9 := hb1.1.keptS hk9 (fun k (e : k = gf) => by have := HNE3.out; omega)
         have hm9 := HFM3.out _ _ hb1.2.1 (hk9.weaken (fun k (e : k = gf) => by have := HNE3.out; show _ ∨ _; omega))
         have HQ9 := Lh (⟨hq9, hm9, hput⟩ : QM w g B v t2 (fun x => M3 x ∧ HT x gf 159 [z0, z1, (0:Int), (0:Int), (0:Int), (0:Int), (0:Int), (0:Int)]) _)
         obtain ⟨w9, hw9⟩ : ∃ w9, w9 = w1.setCells gf 0 [z0, z1, (0:Int), (0:Int), (0:Int), (0:Int), (0:Int), (0:Int)] := ⟨_, rfl⟩
         rw [← hw9] at HQ9 ⊢
         clear hput hk9 hq9 hm9 hb1 hw9
         refine hK.out _ _ ?_
         clear hK K
         try simp only [Act.put]
         go_wp2_with fail
         go_meet
         exact ⟨gf, rfl, HQ9.out, HNE3.out⟩
       case rest =>
        obtain ⟨gf, rfl, hq, hne⟩ := hcut
        have HNE4 := Lh (⟨hne.1, hne.2.1, hne.2.2, hq.2.2.lt⟩ : _ ∧ _ ∧ _ ∧ _)
        have HQ4 := Lh hq
        clear hq hne
        go_wp2_with fail
        go_loopw [7] (fun v7 wi => ∃ k : Nat, k ≤ 5 ∧ v7 = .int .i64 k ∧ QM w g B v (rIs k t2).2 (fun x => M3 x ∧ HT x gf 159 (splice [.int .i64 z0, .int .i64 z1, .int .i64 0, .int .i64 0, .int .i64 0, .int .i64 0, .int .i64 0, .int .i64 0] 2 (ivs (rIs k t2).1))) wi) (fun i _ => 5 - (intOf i).toNat)
        case atStart => exact ⟨0, by omega, rfl, by simpa [rIs, splice] using HQ4.out⟩
        case round =>
         obtain ⟨k, hk, rfl, hq⟩ := hrel
         have HQ5 := Lh hq
         have hff : Firm (fun k => k = g) (fun x => M3 x ∧ HT x gf 159 (splice [.int .i64 z0, .int .i64 z1, .int .i64 0, .int .i64 0, .int .i64 0, .int .i64 0, .int .i64 0, .int .i64 0] 2 (ivs (rIs k t2).1))) := Firm.and HF3.out (Firm.ht (by have := HNE4.out; omega))
         have qi := QM_Int hff rfl hq HLEN.out
         clear hq hff
         by_cases hlt5 : k < 5
         ·
          obtain ⟨n, hn⟩ : ∃ n, n = (rI (rIs k t2).2).1 := ⟨_, rfl⟩
          rw [← hn] at qi
          have HN := Lh hn
          clear hn
          go_wp2_with fail
          refine qi.mono ?_
          clear qi
          rintro e w1 ⟨rfl, hq⟩
          have hl8 : (splice [.int .i64 z0, .int .i64 z1, .int .i64 0, .int .i64 0, .int .i64 0, .int .i64 0, .int .i64 0, .int .i64 0] 2 (ivs (rIs k t2).1)).length = 8 := by rw [splice_length (by rw [List.length_map, rIs_len]; simp; omega)]; rfl
          have hcell := hq.2.2.cell (j := 2 + k) (List.getElem?_eq_getElem (by omega))
          have hfr := hq.2.2.frozen (2 + k)
          have hput := hq.2.2.put (2 + k) (.int .i64 n)
          have hkS : Kept (fun k => k = gf) w1 (w1.setCell ⟨gf, 2 + k, none⟩ (.int .i64 n)) := (Kept.refl _ w1).setCell _ _ rfl
          have he : (splice [.int .i64 z0, .int .i64 z1, .int .i64 0, .int .i64 0, .int .i64 0, .int .i64 0, .int .i64 0, .int .i64 0] 2 (ivs (rIs k t2).1)).set (2 + k) (.int .i64 n) = splice [.int .i64 z0, .int .i64 z1, .int .i64 0, .int .i64 0, .int .i64 0, .int .i64 0, .int .i64 0, .int .i64 0] 2 (ivs (rIs (k + 1) t2).1) := by
           have h1 := splice_snoc (C := [.int .i64 z0, .int .i64 z1, .int .i64 0, .int .i64 0, .int .i64 0, .int .i64 0, .int .i64 0, .int .i64 0]) (o := 2) (xs := ivs (rIs k t2).1) (.int .i64 n) (by rw [List.length_map, rIs_len]; simp; omega)
           rw [List.length_map, rIs_len] at h1
           rw [h1, HN.out]
           simp [rIs, ivs]
          rw [he] at hput
          have HQX : Hid (QM w g B v (rIs (k + 1) t2).2 (fun x => M3 x ∧ HT x gf 159 (splice [.int .i64 z0, .int .i64 z1, .int .i64 0, .int .i64 0, .int .i64 0, .int .i64 0, .int .i64 0, .int .i64 0] 2 (ivs (rIs (k + 1) t2).1))) (w1.setCell ⟨gf, 2 + k, none⟩ (.int .i64 n))) := ⟨hq.1.keptS hkS (fun k (e : k = gf) => by have := HNE4.out; omega), HFM3.out _ _ hq.2.1 (hkS.weaken (fun k (e : k = gf) => .inr (by have := HNE4.out; omega))), hput⟩
          generalize (splice [.int .i64 z0, .int .i64 z1, .int .i64 0, .int .i64 0, .int .i64 0, .int .i64 0, .int .i64 0, .int .i64 0] 2 (ivs (rIs k t2).1))[2 + k]'(by omega) = qq at hcell
          clear hq hput hkS he hl8
          go_wp2_with fail
          exact ⟨⟨k + 1, by omega, by push_cast; rfl, HQX.out⟩, by simp [intOf]; omega⟩
         ·
          obtain rfl : k = 5 := by omega
          obtain ⟨z7, hz7⟩ : ∃ z, z = (rI (rIs 5 t2).2).1 := ⟨_, rfl⟩
          obtain ⟨t8, ht8⟩ : ∃ z, z = (rI (rIs 5 t2).2).2 := ⟨_, rfl⟩
          rw [← hz7, ← ht8] at qi
          obtain ⟨c, hc⟩ : ∃ c, c = (rdFT t0).1 := ⟨_, rfl⟩
          have HL8 : Hid ((splice [.int .i64 z0, .int .i64 z1, .int .i64 0, .int .i64 0, .int .i64 0, .int .i64 0, .int .i64 0, .int .i64 0] 2 (ivs (rIs 5 t2).1)).set 7 (.int .i64 z7) = FT.vs c ∧ (rdFT t0).2 = t8) := by
           show _ ∧ _
           have h1 := rIs_add 2 5 t0
           have h2 := rIs_add 7 1 t0
           rw [HP.out] at h1
           have h5 := rIs_len 5 t2
           simp only [Nat.reduceAdd] at h1 h2
           rw [h1] at h2
           rw [hc, hz7, ht8]
           unfold rdFT
           simp only
           rw [h2]
           generalize (rIs 5 t2).2 = t7
           generalize (rIs 5 t2).1 = L at h5
           match L, h5 with
           | [l0, l1, l2, l3, l4], _ => exact ⟨rfl, rfl⟩
          have HN1 : Hid ((rRs rdFT (j + 1) mu).1 = (rRs rdFT j mu).1 ++ [c] ∧ (rRs rdFT (j + 1) mu).2 = t8) := by
           have h := HN0.out
           rw [HL8.out.2, ← hc] at h
           exact h
          clear hz7 ht8 hc
          go_wp2_with fail
          refine qi.mono ?_
          clear qi
          rintro e w1 ⟨rfl, hq⟩
          have hl8 : (splice [.int .i64 z0, .int .i64 z1, .int .i64 0, .int .i64 0, .int .i64 0, .int .i64 0, .int .i64 0, .int .i64 0] 2 (ivs (rIs 5 t2).1)).length = 8 := by rw [splice_length (by rw [List.length_map, rIs_len]; simp)]; rfl
          have hcell := hq.2.2.cell (j := 7) (List.getElem?_eq_getElem (by omega))
          have hfr := hq.2.2.frozen 7
          have hput := hq.2.2.put 7 (.int .i64 z7)
          have hkS : Kept (fun k => k = gf) w1 (w1.setCell ⟨gf, 7, none⟩ (.int .i64 z7)) := (Kept.refl _ w1).setCell _ _ rfl
          rw [HL8.out.1] at hput
          have hm6 := HFM3.out _ _ hq.2.1 (hkS.weaken (fun k (e : k = gf) => .inr (by have := HNE4.out; omega)))
          have hx6 := HX3.out _ hm6
          have hq6 : QPost 122 w g B v t8 (w1.setCell ⟨gf, 7, none⟩ (.int .i64 z7)) := hq.1.keptS hkS (fun k (e : k = gf) => by have := HNE4.out; omega)
          have hca : w1.cell? ⟨ga, 4, none⟩ = some (.slice a0 n0 c0) := (HX3.out _ hq.2.1).2.1.cell (j := 4) rfl
          have hcb : (w1.setCell ⟨gf, 7, none⟩ (.int .i64 z7)).cell? ⟨ga, 4, none⟩ = some (.slice a0 n0 c0) := hx6.2.1.cell (j := 4) rfl
          generalize (splice [.int .i64 z0, .int .i64 z1, .int .i64 0, .int .i64 0, .int .i64 0, .int .i64 0, .int .i64 0, .int .i64 0] 2 (ivs (rIs 5 t2).1))[7]'(by omega) = qq at hcell
          have HSV : Hid (w1.heap.size = (w1.setCell ⟨gf, 7, none⟩ (.int .i64 z7)).heap.size) := by show _ = _; simp
          obtain ⟨w6, hw6⟩ : ∃ w6, w6 = w1.setCell ⟨gf, 7, none⟩ (.int .i64 z7) := ⟨_, rfl⟩
          rw [← hw6] at hput hm6 hx6 hq6 hcb HSV
          have HW6 := Lh hw6
          have HGF : Hid (w6.heap[gf]? = some (.cells #[c.cur, c.loss, c.p0, c.p1, c.p2, c.p3, c.p4, c.rest] 159 (0, 0))) := hput
          have HSZ : Hid ((Tryz.prog.info? 159).map (·.size) = some (#[c.cur, c.loss, c.p0, c.p1, c.p2, c.p3, c.p4, c.rest] : Array Value).size) := by show _ = _; rw [fallSz]; rfl
          have hbx : Below w6.heap.size w6 (w6.alloc (.cells #[c.cur, c.loss, c.p0, c.p1, c.p2, c.p3, c.p4, c.rest] 159)) := Bn
          have hoA : OwnR FT.vs 8 159 (w6.alloc (.cells #[c.cur, c.loss, c.p0, c.p1, c.p2, c.p3, c.p4, c.rest] 159)) gb2 (.slice a0 n0 c0) (rRs rdFT j mu).1 := OwnR.alloc hx6.2.2 _
          have hone : Rs FT.vs 8 (w6.alloc (.cells #[c.cur, c.loss, c.p0, c.p1, c.p2, c.p3, c.p4, c.rest] 159)) (.slice (some ⟨w6.heap.size, 0, none⟩) 1 1) [c] := Rs.one FT.len w6 c 159
          have hbase : gb2 ≤ (w6.alloc (.cells #[c.cur, c.loss, c.p0, c.p1, c.p2, c.p3, c.p4, c.rest] 159)).heap.size := by have := HB2.out _ hx6.1; have := hbx.size; omega
          have HQA : Hid (QPost 122 w g B v t8 (w6.alloc (.cells #[c.cur, c.loss, c.p0, c.p1, c.p2, c.p3, c.p4, c.rest] 159))) := hq6.below hbx
          have HMA : Hid (M2 (w6.alloc (.cells #[c.cur, c.loss, c.p0, c.p1, c.p2, c.p3, c.p4, c.rest] 159))) := Firm.below HFM2.out hx6.1 hbx
          have HXA : Hid (HT (w6.alloc (.cells #[c.cur, c.loss, c.p0, c.p1, c.p2, c.p3, c.p4, c.rest] 159)) ga 63 [y0, y1, y2, .slice aD nD cD, .slice a0 n0 c0]) := hx6.2.1.below hbx
          rw [HW6.out] at hoA hone hbase HQA HMA HXA hcb HGF
          rw [show (w1.setCell ⟨gf, 7, none⟩ (.int .i64 z7)).heap.size = w1.heap.size by simp] at hone
          clear hq hput hkS hm6 hx6 hq6 hl8 hbx hw6
          go_wp2_with (first
           | (refine wpList_load_row rfl 159 (.tmp 6) rfl gf rfl 159 #[c.cur, c.loss, c.p0, c.p1, c.p2, c.p3, c.p4, c.rest] (0, 0) _ HGF.out Tryz.underlying159 rfl HSZ.out ?_)
           | (at_builtin; refine wpList_append_rows (v := .slice a0 n0 c0) rfl (.tmp 93) (.tmp 95) 61 rfl (L := (rRs rdFT j mu).1) (M := [c]) (base := gb2) elem_fall rfl rfl hoA hone FT.one HLE.out (by decide) hbase ?_; intro a7 n7 c7 w7 Hn7 ho7 hg7 hat7 hb7; have hge : ∀ k, (Value.slice a0 n0 c0).ownBlock = some k → gb2 ≤ k := OwnR.ge hoA; have hk7 := Kept.of_grown hg7; have HX7 : Hid (HT w7 ga 63 [y0, y1, y2, .slice aD nD cD, .slice a0 n0 c0]) := HXA.out.keptH hk7 (fun e => by have := hge _ e; have := HNE2.out; omega); have HQ7 : Hid (QPost 122 w g B v t8 w7 ∧ M2 w7) := ⟨HQA.out.keptS hk7 (fun k e => by have := hge k e; have := HNE2.out; omega), HFM2.out _ _ HMA.out (hk7.weaken (fun k e => by have := hge k e; exact .inr (.inr this)))⟩; have hc7 := HX7.out.cell (j := 4) rfl; have hf7 := HX7.out.frozen 4)
           | fail)
          have hkT : Kept (fun k => k = ga) w7 (w7.setCell ⟨ga, 4, none⟩ (.slice a7 n7 c7)) := (Kept.refl _ w7).setCell _ _ rfl
          have hfin : QM w g B v (rRs rdFT (j + 1) mu).2 (fun x => M2 x ∧ HT x ga 63 [y0, y1, y2, .slice aD nD cD, .slice a7 n7 c7] ∧ OwnR FT.vs 8 159 x gb2 (.slice a7 n7 c7) (rRs rdFT (j + 1) mu).1) (w7.setCell ⟨ga, 4, none⟩ (.slice a7 n7 c7)) := by
           rw [HN1.out.1, HN1.out.2]
           exact ⟨HQ7.out.1.keptS hkT (fun k (e : k = ga) => by have := HNE2.out; omega), HFM2.out _ _ HQ7.out.2 (hkT.weaken (fun k (e : k = ga) => .inr (.inl e))), HX7.out.put' 4 _ rfl, OwnR.keptS ho7 hkT (fun k hk (e : k = ga) => by have := OwnR.ge ho7 k hk; have := HNE2.out; omega)⟩
          first
           | exact ⟨⟨j + 1, a7, n7, c7, by omega, go_num_sub hltN, hfin⟩, by simp [intOf]; omega⟩
           | ((repeat apply Exists.intro); exact ⟨⟨j + 1, a7, n7, c7, by omega, go_num_sub hltN, hfin⟩, rfl⟩)
      ·
       have hz1 : (b == 0) = false := by simpa using hz
       have HE := Lh (HQL.out (.inr hz))
       clear hz ht0 hq
       go_wp2_with fail
       go_meet
       exact ⟨_, _, _, _, _, HE.out, HQB.out⟩
     ·
      obtain rfl : j = N2 := by omega
      have HE := Lh (HQL.out (.inl rfl))
      have hneg : ¬ (0 : Int) < (j : Int) - (j : Int) := by omega
      clear ht0 hq
      go_wp2_with fail
      go_meet
      exact ⟨_, _, _, _, _, HE.out, HQB.out⟩
   case rest =>
    obtain ⟨F, t', a, n, c, hQL2, hq⟩ := hcut
    have hx2 := HX2.out _ hq.2.1
    have h2 := HX0.out _ (HX1.out _ hx2.1)
    have HG3 : Hid (wc.heap[ga]? = some (.cells #[y0, y1, y2, .slice aD nD cD, .slice a n c] 63 (0, 0))) := hq.2.2.1
    have HG4 : Hid (wc.heap[g2]? = some (.cells #[(0:Int), (0:Int), (0:Int), (), ()] 63 (0, 0))) := h2
    have HSZ : Hid ((Tryz.prog.info? 63).map (·.size) = some (#[y0, y1, y2, .slice aD nD cD, .slice a n c] : Array Value).size) := by show _ = _; rw [repSz]; rfl
    have HSE : Hid ((#[(0:Int), (0:Int), (0:Int), (), ()] : Array Value).size = (#[y0, y1, y2, .slice aD nD cD, .slice a n c] : Array Value).size) := by show _ = _; rfl
    have HONE : Hid ((#[y0, y1, y2, .slice aD nD cD, .slice a n c] : Array Value).all (·.oneCell') = true) := by show _ = true; simp [Value.oneCell']
    have HQE := Lh (⟨hq.1, hx2.2, hq.2.2.2, hQL2⟩ : _ ∧ _ ∧ _ ∧ _)
    clear hq hx2 h2 hQL2
    go_wp2_with (first
     | (refine wpList_load_row rfl 63 (.tmp 3) rfl ga rfl 63 #[y0, y1, y2, .slice aD nD cD, .slice a n c] (0, 0) _ HG3.out Tryz.underlying63 rfl HSZ.out ?_)
     | (refine wpList_store_row rfl 63 (.tmp 2) (.tmp 98) rfl g2 #[y0, y1, y2, .slice aD nD cD, .slice a n c] rfl rfl 63 #[(0:Int), (0:Int), (0:Int), (), ()] HG4.out HSZ.out HSE.out HONE.out ?_)
     | fail)
    refine bodyPost_ret (results_cell_row rfl _ _ g2 63 #[y0, y1, y2, .slice aD nD cD, .slice a n c] (0, 0) _ rfl (setRow_heap _ _ _ _ _ _ HG4.out) Tryz.underlying63 rfl HSZ.out) rfl ?_
    have hkr : Kept (fun k => k = g2) wc (wc.setRow g2 #[y0, y1, y2, .slice aD nD cD, .slice a n c]) := ⟨rfl, rfl, rfl, by simp [World.setRow], fun k _ hn => setRow_other _ _ _ _ hn⟩
    obtain ⟨e1, e2, e3, e4⟩ := HQE.out
    have hG := HG2.out
    have hN1 := HNE1.out
    have hN2 := HNE2.out
    refine ⟨_, ⟨y0, y1, y2, D, F⟩, t', rfl, ⟨aD, nD, cD, a, n, c, rfl, OwnR.base (OwnR.keptS e2 hkr (fun k hk (e : k = g2) => by have := OwnR.ge e2 k hk; omega)) (by omega), OwnR.base (OwnR.keptS e3 hkr (fun k hk (e : k = g2) => by have := OwnR.ge e3 k hk; omega)) (by omega)⟩, ⟨D, t, F, ?_, e4, ?_⟩, e1.keptS hkr (fun k (e : k = g2) => by omega)⟩
    ·
     rw [HQ.out]
     exact HQL1.out
    ·
     rw [HQ.out]
     rfl
end Cam
