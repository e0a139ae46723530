import Derived.Test.YtgeclnjkkjmbaaaGreatYpLz
/- cambistref24: ReadState: balances, pledges. -/
namespace Cam
open Go Go.RowKit Go.Proofs
set_option linter.unusedVariables false
set_option linter.unusedSimpArgs false
set_option maxRecDepth 100000
set_option maxHeartbeats 6400000
variable {V0 V1 V2 V3 V4 V5 V6 V7 V8 V9 Va Vb Vc Vd Ve Vf Vg Vh Vi Vj Vk Vl Vm Vn Vo Vp Vq Vr Vs Vt Vu Vv Vw Vx Vy Vz V10 V11 V12 V13 V14 V15 V16 V17 V18 V19 V1a V1b V1c V1d V1e V1f V1g V1h V1i V1j V1k V1l V1m V1n V1o V1p V1q V1r V1s V1t V1u V1v V1w V1x V1y V1z V20 V21 V22 V23 V24 V25 V26 V27 V28 V29 V2a V2b V2c V2d V2e V2f V2g V2h V2i V2j V2k V2l V2m V2n V2o V2p V2q V2r V2s V2t V2u V2v V2w V2x V2y V2z V30 V31 V32 V33 V34 V35 V36 V37 V38 V39 V3a V3b V3c V3d V3e V3f V3g V3h V3i V3j V3k V3l V3m V3n V3o V3p V3q V3r V3s V3t V3u V3v V3w V3x V3y V3z V40 V41 V42 V43 V44 V45 V46 V47 V48 V49 V4a V4b V4c V4d V4e V4f V4g V4h V4i V4j V4k V4l V4m V4n V4o V4p V4q V4r V4s V4t V4u V4v V4w V4x V4y V4z V50 V51 V52 V53 V54 V55 V56 V57 V58 V59 V5a V5b V5c V5d V5e V5f V5g V5h V5i V5j V5k V5l V5m V5n V5o V5p V5q V5r V5s V5t V5u V5v V5w V5x V5y V5z V60 V61 V62 V63 V64 V65 V66 V67 V68 V69 V6a V6b V6c V6d V6e V6f V6g V6h V6i V6j V6k V6l V6m V6n V6o V6p V6q V6r : Value}
theorem rs_bal {w w1 : World} {g ga gb N : Nat} {B : List UInt8} {v : Value} {s mt : RS} {M : World → Prop} {C : List Value} {K : Act → World → Prop} {R : Ending → World → Prop} (HLEN : Hid (B.length ≤ 70368744177664)) (HNE : Hid (g < ga ∧ w.heap.size ≤ ga ∧ ga < gb)) (HFM : Hid (Firm (fun k => k = g ∨ k = ga ∨ gb ≤ k) M)) (HB : Hid (∀ x, M x → gb ≤ x.heap.size)) (HC : Hid (10 < C.length)) (HMN : Hid ((mny s).1.toNat = N ∧ mt = (mny s).2 ∧ N ≤ 1024)) (HQ1 : Hid (QM w g B v mt (LB M ga 41 C 10 (.slice none 0 0) BaT.vs 4 102 gb (.slice none 0 0) []) w1))
  (hQ : ∀ (X6 X7 X1e X1f X1g X1h X1i X1j X1k X1l X1m X1n X1o X1p X1q X1r X1s X1t X1u X1v X1w X1x X1y X1z X20 X21 X22 X23 X24 X25 X26 X27 X28 X29 X2a X2b X2c X2d X2e X2f : Value) (wx : World), LpP BaT.vs 4 rdBaT w g ga gb 10 B v s M 41 102 C wx → K { tmps := #[V0, V1, V2, V3, .pointer (some ⟨g, 0, none⟩), .pointer (some ⟨ga, 0, none⟩), X6, X7, V8, V9, Va, Vb, Vc, Vd, Ve, Vf, Vg, Vh, Vi, Vj, Vk, Vl, Vm, Vn, Vo, Vp, Vq, Vr, Vs, Vt, Vu, Vv, Vw, Vx, Vy, Vz, V10, V11, V12, V13, V14, V15, V16, V17, V18, V19, V1a, V1b, V1c, V1d, X1e, X1f, X1g, X1h, X1i, X1j, X1k, X1l, X1m, X1n, X1o, X1p, X1q, X1r, X1s, X1t, X1u, X1v, X1w, X1x, X1y, X1z, X20, X21, X22, X23, X24, X25, X26, X27, X28, X29, X2a, X2b, X2c, X2d, X2e, X2f, V2g, V2h, V2i, V2j, V2k, V2l, V2m, V2n, V2o, V2p, V2q, V2r, V2s, V2t, V2u, V2v, V2w, V2x, V2y, V2z, V30, V31, V32, V33, V34, V35, V36, V37, V38, V39, V3a, V3b, V3c, V3d, V3e, V3f, V3g, V3h, V3i, V3j, V3k, V3l, V3m, V3n, V3o, V3p, V3q, V3r, V3s, V3t, V3u, V3v, V3w, V3x, V3y, V3z, V40, V41, V42, V43, V44, V45, V46, V47, V48, V49, V4a, V4b, V4c, V4d, V4e, V4f, V4g, V4h, V4i, V4j, V4k, V4l, V4m, V4n, V4o, V4p, V4q, V4r, V4s, V4t, V4u, V4v, V4w, V4x, V4y, V4z, V50, V51, V52, V53, V54, V55, V56, V57, V58, V59, V5a, V5b, V5c, V5d, V5e, V5f, V5g, V5h, V5i, V5j, V5k, V5l, V5m, V5n, V5o, V5p, V5q, V5r, V5s, V5t, V5u, V5v, V5w, V5x, V5y, V5z, V60, V61, V62, V63, V64, V65, V66, V67, V68, V69, V6a, V6b, V6c, V6d, V6e, V6f, V6g, V6h, V6i, V6j, V6k, V6l, V6m, V6n, V6o, V6p, V6q, V6r], defers := [] } wx) :
  Code.wp Tryz.prog (codeAt [true, true, true, true, true, true, true, false, true] Tryz.f13) (Exit.then K (bodyPost Tryz.prog Tryz.f13 R)) { tmps := #[V0, V1, V2, V3, .pointer (some ⟨g, 0, none⟩), .pointer (some ⟨ga, 0, none⟩), (N : Int), V7, V8, V9, Va, Vb, Vc, Vd, Ve, Vf, Vg, Vh, Vi, Vj, Vk, Vl, Vm, Vn, Vo, Vp, Vq, Vr, Vs, Vt, Vu, Vv, Vw, Vx, Vy, Vz, V10, V11, V12, V13, V14, V15, V16, V17, V18, V19, V1a, V1b, V1c, V1d, V1e, V1f, V1g, V1h, V1i, V1j, V1k, V1l, V1m, V1n, V1o, V1p, V1q, V1r, V1s, V1t, V1u, V1v, V1w, V1x, V1y, V1z, V20, V21, V22, V23, V24, V25, V26, V27, V28, V29, V2a, V2b, V2c, V2d, V2e, V2f, V2g, V2h, V2i, V2j, V2k, V2l, V2m, V2n, V2o, V2p, V2q, V2r, V2s, V2t, V2u, V2v, V2w, V2x, V2y, V2z, V30, V31, V32, V33, V34, V35, V36, V37, V38, V39, V3a, V3b, V3c, V3d, V3e, V3f, V3g, V3h, V3i, V3j, V3k, V3l, V3m, V3n, V3o, V3p, V3q, V3r, V3s, V3t, V3u, V3v, V3w, V3x, V3y, V3z, V40, V41, V42, V43, V44, V45, V46, V47, V48, V49, V4a, V4b, V4c, V4d, V4e, V4f, V4g, V4h, V4i, V4j, V4k, V4l, V4m, V4n, V4o, V4p, V4q, V4r, V4s, V4t, V4u, V4v, V4w, V4x, V4y, V4z, V50, V51, V52, V53, V54, V55, V56, V57, V58, V59, V5a, V5b, V5c, V5d, V5e, V5f, V5g, V5h, V5i, V5j, V5k, V5l, V5m, V5n, V5o, V5p, V5q, V5r, V5s, V5t, V5u, V5v, V5w, V5x, V5y, V5z, V60, V61, V62, V63, V64, V65, V66, V67, V68, V69, V6a, V6b, V6c, V6d, V6e, V6f, V6g, V6h, V6i, V6j, V6k, V6l, V6m, V6n, V6o, V6p, V6q, V6r], defers := [] } w1 := by
 refine wp_at (c := _) rfl (.r (.r (.r (.r (.r (.r (.r (.l (.r (.nil)))))))))) ?_
 go_wp2_with fail
 go_loopw [6] (fun v4 wr => ∃ (k : Nat) (a0 : Option Addr) (n0 c0 : Nat), k ≤ N ∧ v4 = .int .i64 ((N : Int) - k) ∧ QM w g B v (rRs rdBaT k mt).2 (LB M ga 41 C 10 (.slice a0 n0 c0) BaT.vs 4 102 gb (.slice a0 n0 c0) (rRs rdBaT k mt).1) wr) (fun i _ => (intOf i).toNat)
 case atStart => exact ⟨0, none, 0, 0, Nat.zero_le _, by simp, HQ1.out⟩
 case round =>
  obtain ⟨k, a0, n0, c0, hk, rfl, hq⟩ := hrel
  obtain ⟨t0, L, b, HT0, hcb, HQB, HQL, HLL⟩ := loop_rd HMN hk hq
  clear hq
  by_cases hltN : k < N
  ·
   have hpos : (0 : Int) < (N : Int) - (k : Int) := by omega
   have hup : (N : Int) - (k : Int) ≤ 1024 := by have := HMN.out.2.2; omega
   by_cases hz : b = 0
   ·
    subst hz
    obtain ⟨z0, z1, z2, z3, t1, t2, t3, t4, p0, p1, p2, p3, HP⟩ := rI4 t0
    have HN1 := loop_nx HT0 (show rdBaT t0 = ((⟨z0, z1, z2, z3⟩ : BaT), t4) by unfold rdBaT; rw [HP.out]; rfl)
    obtain ⟨gb9, M9, HFM9, HF9, HB9, HX9, HQ9x, HNEF, HLT9⟩ := box_in HQB.out HFM.out HB.out HNE.out
    go_upto_region 10 with fail
    go_cut [7] from 50 to 87 (fun v6 wx => BoxP w g B v t3 M9 100 [z0, z1, z2] gb9 v6 wx)
    case first =>
     refine wp_region_uni (S0 := fun _ => True) (S := QM w g B v t0 M9) 14 (by kernel_rfl) (QM.below HF9.out HQ9x.out (Below.refl _ _).drew) ?_
     refine uP 9 [(0, some 62, .pointer (some ⟨g, 0, none⟩)), (1, some 63, .pointer (some ⟨g, 0, none⟩)), (2, some 64, .pointer (some ⟨g, 0, none⟩)), (4, some 66, .pointer (some ⟨g, 0, none⟩)), (5, some 67, .pointer (some ⟨g, 0, none⟩)), (6, some 68, .pointer (some ⟨g, 0, none⟩)), (8, some 70, .pointer (some ⟨g, 0, none⟩)), (9, some 71, .pointer (some ⟨g, 0, none⟩)), (10, some 72, .pointer (some ⟨g, 0, none⟩))] (QM.cls HF9.out (fun _ _ => trivial)) ?_
     simp only [zq]
     refine wpAnyU_ready (rs := [3, 13]) (by kernel_rfl) (by simp) ?_
     refine uD rfl (fun wA3 hA3 K hK => ?_) (uD rfl (fun wA13 hA13 K hK => ?_) AllReadyU.nil)
     ·
      go_simp
      refine (QE HF9.out hA3 p0 HLEN).mono ?_
      rintro e wn0 ⟨rfl, hn⟩
      refine hK.out _ _ _ (QM.cls HF9.out (fun _ _ => trivial)) hn ?_
      clear hK K
      try simp only [zq]
      refine wpAnyU_ready (rs := [7, 13]) (by kernel_rfl) (by simp) ?_
      refine uD rfl (fun wA7 hA7 K hK => ?_) (uD rfl (fun wA13 hA13 K hK => ?_) AllReadyU.nil)
      ·
       go_simp
       refine (QE HF9.out hA7 p1 HLEN).mono ?_
       rintro e wn1 ⟨rfl, hn⟩
       refine hK.out _ _ _ (QM.cls HF9.out (fun _ _ => trivial)) hn ?_
       clear hK K
       try simp only [zq]
       refine wpAnyU_ready (rs := [11, 13]) (by kernel_rfl) (by simp) ?_
       refine uD rfl (fun wA11 hA11 K hK => ?_) (uD rfl (fun wA13 hA13 K hK => ?_) AllReadyU.nil)
       ·
        go_simp
        refine (QE HF9.out hA11 p2 HLEN).mono ?_
        rintro e wn2 ⟨rfl, hn⟩
        refine hK.out _ _ _ (QM.cls HF9.out (fun _ _ => trivial)) hn ?_
        clear hK K
        try simp only [zq]
        refine uG 12 (some 74) (.agg #[z0, z1, z2]) (QM.cls HF9.out (fun _ _ => trivial)) ?_
        simp only [zq]
        refine uS 13 rfl (fun wA13 hA13 K hK => ?_)
        go_simp
        obtain ⟨gf, hgf, HNE9, HF1, hnq⟩ := box_new (Z := [(0:Int), (0:Int), (0:Int)]) (KT := 100) hA13 HF9.out HB9.out
        rw [hgf]
        clear hgf
        refine hK.out _ _ _ (QM.cls HF1.out (fun _ _ => trivial)) hnq ?_
        clear hnq
        clear hK K
        try simp only [zq]
        refine uZ rfl (fun w1 hb1 K hK => ?_)
        refine step_store_mid rfl 100 (.tmp 7) (.tmp 74) rfl gf 0 [z0, z1, z2] rfl rfl (fun j hj => ⟨hb1.2.2.isSome (by simpa using hj), hb1.2.2.frozen _⟩) (by rw [qacctSz]; rfl) (by simp [Value.oneCell']) ?_
        have HQ9 := Lh (box_put (CF := [z0, z1, z2]) hb1 HFM9.out HNE9.out rfl)
        obtain ⟨w9, hw9⟩ : ∃ w9, w9 = w1.setCells gf 0 [z0, z1, z2] := ⟨_, rfl⟩
        rw [← hw9] at HQ9 ⊢
        clear hb1 hw9
        refine hK.out _ _ ?_
        clear hK K
        try simp only [Act.put]
        go_wp2_with fail
        go_meet
        exact HQ9.out
       ·
        go_simp
        obtain ⟨gf, hgf, HNE9, HF1, hnq⟩ := box_new (Z := [(0:Int), (0:Int), (0:Int)]) (KT := 100) hA13 HF9.out HB9.out
        rw [hgf]
        clear hgf
        refine hK.out _ _ _ (QM.cls HF1.out (fun _ _ => trivial)) hnq ?_
        clear hnq
        clear hK K
        try simp only [zq]
        refine uS 11 rfl (fun wA11 hA11 K hK => ?_)
        go_simp
        refine (QE HF1.out hA11 p2 HLEN).mono ?_
        rintro e wn2 ⟨rfl, hn⟩
        refine hK.out _ _ _ (QM.cls HF1.out (fun _ _ => trivial)) hn ?_
        clear hK K
        try simp only [zq]
        refine uG 12 (some 74) (.agg #[z0, z1, z2]) (QM.cls HF1.out (fun _ _ => trivial)) ?_
        simp only [zq]
        refine uZ rfl (fun w1 hb1 K hK => ?_)
        refine step_store_mid rfl 100 (.tmp 7) (.tmp 74) rfl gf 0 [z0, z1, z2] rfl rfl (fun j hj => ⟨hb1.2.2.isSome (by simpa using hj), hb1.2.2.frozen _⟩) (by rw [qacctSz]; rfl) (by simp [Value.oneCell']) ?_
        have HQ9 := Lh (box_put (CF := [z0, z1, z2]) hb1 HFM9.out HNE9.out rfl)
        obtain ⟨w9, hw9⟩ : ∃ w9, w9 = w1.setCells gf 0 [z0, z1, z2] := ⟨_, rfl⟩
        rw [← hw9] at HQ9 ⊢
        clear hb1 hw9
        refine hK.out _ _ ?_
        clear hK K
        try simp only [Act.put]
        go_wp2_with fail
        go_meet
        exact HQ9.out
      ·
       go_simp
       obtain ⟨gf, hgf, HNE9, HF1, hnq⟩ := box_new (Z := [(0:Int), (0:Int), (0:Int)]) (KT := 100) hA13 HF9.out HB9.out
       rw [hgf]
       clear hgf
       refine hK.out _ _ _ (QM.cls HF1.out (fun _ _ => trivial)) hnq ?_
       clear hnq
       clear hK K
       try simp only [zq]
       refine uS 7 rfl (fun wA7 hA7 K hK => ?_)
       go_simp
       refine (QE HF1.out hA7 p1 HLEN).mono ?_
       rintro e wn1 ⟨rfl, hn⟩
       refine hK.out _ _ _ (QM.cls HF1.out (fun _ _ => trivial)) hn ?_
       clear hK K
       try simp only [zq]
       refine uS 11 rfl (fun wA11 hA11 K hK => ?_)
       go_simp
       refine (QE HF1.out hA11 p2 HLEN).mono ?_
       rintro e wn2 ⟨rfl, hn⟩
       refine hK.out _ _ _ (QM.cls HF1.out (fun _ _ => trivial)) hn ?_
       clear hK K
       try simp only [zq]
       refine uG 12 (some 74) (.agg #[z0, z1, z2]) (QM.cls HF1.out (fun _ _ => trivial)) ?_
       simp only [zq]
       refine uZ rfl (fun w1 hb1 K hK => ?_)
       refine step_store_mid rfl 100 (.tmp 7) (.tmp 74) rfl gf 0 [z0, z1, z2] rfl rfl (fun j hj => ⟨hb1.2.2.isSome (by simpa using hj), hb1.2.2.frozen _⟩) (by rw [qacctSz]; rfl) (by simp [Value.oneCell']) ?_
       have HQ9 := Lh (box_put (CF := [z0, z1, z2]) hb1 HFM9.out HNE9.out rfl)
       obtain ⟨w9, hw9⟩ : ∃ w9, w9 = w1.setCells gf 0 [z0, z1, z2] := ⟨_, rfl⟩
       rw [← hw9] at HQ9 ⊢
       clear hb1 hw9
       refine hK.out _ _ ?_
       clear hK K
       try simp only [Act.put]
       go_wp2_with fail
       go_meet
       exact HQ9.out
     ·
      go_simp
      obtain ⟨gf, hgf, HNE9, HF1, hnq⟩ := box_new (Z := [(0:Int), (0:Int), (0:Int)]) (KT := 100) hA13 HF9.out HB9.out
      rw [hgf]
      clear hgf
      refine hK.out _ _ _ (QM.cls HF1.out (fun _ _ => trivial)) hnq ?_
      clear hnq
      clear hK K
      try simp only [zq]
      refine uS 3 rfl (fun wA3 hA3 K hK => ?_)
      go_simp
      refine (QE HF1.out hA3 p0 HLEN).mono ?_
      rintro e wn0 ⟨rfl, hn⟩
      refine hK.out _ _ _ (QM.cls HF1.out (fun _ _ => trivial)) hn ?_
      clear hK K
      try simp only [zq]
      refine uS 7 rfl (fun wA7 hA7 K hK => ?_)
      go_simp
      refine (QE HF1.out hA7 p1 HLEN).mono ?_
      rintro e wn1 ⟨rfl, hn⟩
      refine hK.out _ _ _ (QM.cls HF1.out (fun _ _ => trivial)) hn ?_
      clear hK K
      try simp only [zq]
      refine uS 11 rfl (fun wA11 hA11 K hK => ?_)
      go_simp
      refine (QE HF1.out hA11 p2 HLEN).mono ?_
      rintro e wn2 ⟨rfl, hn⟩
      refine hK.out _ _ _ (QM.cls HF1.out (fun _ _ => trivial)) hn ?_
      clear hK K
      try simp only [zq]
      refine uG 12 (some 74) (.agg #[z0, z1, z2]) (QM.cls HF1.out (fun _ _ => trivial)) ?_
      simp only [zq]
      refine uZ rfl (fun w1 hb1 K hK => ?_)
      refine step_store_mid rfl 100 (.tmp 7) (.tmp 74) rfl gf 0 [z0, z1, z2] rfl rfl (fun j hj => ⟨hb1.2.2.isSome (by simpa using hj), hb1.2.2.frozen _⟩) (by rw [qacctSz]; rfl) (by simp [Value.oneCell']) ?_
      have HQ9 := Lh (box_put (CF := [z0, z1, z2]) hb1 HFM9.out HNE9.out rfl)
      obtain ⟨w9, hw9⟩ : ∃ w9, w9 = w1.setCells gf 0 [z0, z1, z2] := ⟨_, rfl⟩
      rw [← hw9] at HQ9 ⊢
      clear hb1 hw9
      refine hK.out _ _ ?_
      clear hK K
      try simp only [Act.put]
      go_wp2_with fail
      go_meet
      exact HQ9.out
    case rest =>
     obtain ⟨gf, rfl, hq, h1, h2, h3, h4⟩ := hcut
     have HGF := Lh (⟨h1, h2, h3, h4⟩ : _ ∧ _ ∧ _ ∧ _)
     clear h1 h2 h3 h4
     have HOB : Hid (∀ k, (Value.slice a0 n0 c0).ownBlock = some k → k < gf) := fun k hk => by have := HLT9.out k hk; have := HGF.out; omega
     have HQB2 := Lh (box_row hq HX9.out)
     clear hq
     go_upto_region 11 with fail
     have HFL : Hid (∀ u D, Firm (fun k => k = g) (LB (BM M gf 100 [z0, z1, z2]) ga 41 C 10 (.slice a0 n0 c0) BaT.vs 4 102 gb u D)) := fun u D => LB.firm (BM.firm (FMg HFM.out) HGF.out.1) HNE.out.1 (by have := HNE.out; omega)
     have HCL : Hid (∀ t u D, Cls (fun x => x.cell? ⟨ga, 10, none⟩ = some (.slice a0 n0 c0) ∧ HT x gf 100 [z0, z1, z2]) (QM w g B v t (LB (BM M gf 100 [z0, z1, z2]) ga 41 C 10 (.slice a0 n0 c0) BaT.vs 4 102 gb u D))) := fun t u D => QM.cls (HFL.out _ _) (fun x hx => ⟨hx.2.1.cell (j := 10) (set_at HC.out _), hx.1.2⟩)
     refine wp_region_uni (S0 := fun x => x.cell? ⟨ga, 10, none⟩ = some (.slice a0 n0 c0) ∧ HT x gf 100 [z0, z1, z2]) (S := QM w g B v t3 (LB (BM M gf 100 [z0, z1, z2]) ga 41 C 10 (.slice a0 n0 c0) BaT.vs 4 102 gb (.slice a0 n0 c0) L)) 13 (by kernel_rfl) (QM.below (HFL.out _ _) HQB2.out (Below.refl _ _).drew) ?_
     refine uP 2 [(0, some 75, .pointer (some ⟨ga, 9, none⟩)), (1, some 76, .pointer (some ⟨ga, 10, none⟩))] (HCL.out _ _ _) ?_
     refine uL 2 (some 77) (.slice a0 n0 c0) (HCL.out _ _ _) (p := ⟨ga, 10, none⟩) (fun w hSw => hSw.1) ?_
     simp only [zq]
     refine uO 3 (some 78) (.agg #[z0, z1, z2]) (HCL.out _ _ _) (fun _ ho => by cases ho; exact .inl ⟨rfl, fun w hSw => eff_load_row 100 (.tmp 7) rfl gf rfl _ _ hSw.2 Tryz.underlying100 rfl (by rw [qacctSz]; rfl)⟩) ?_
     refine uP 3 [(4, some 79, .pointer (some ⟨g, 0, none⟩)), (5, some 80, .pointer (some ⟨g, 0, none⟩)), (6, some 81, .pointer (some ⟨g, 0, none⟩))] (HCL.out _ _ _) ?_
     simp only [zq]
     refine uS 7 rfl (fun wA7 hA7 K hK => ?_)
     go_simp
     refine (QE (HFL.out _ _) hA7 p3 HLEN).mono ?_
     rintro e wn0 ⟨rfl, hn⟩
     refine hK.out _ _ _ (HCL.out _ _ _) hn ?_
     clear hK K
     try simp only [zq]
     refine uG 8 (some 83) (.agg #[z0, z1, z2, z3]) (HCL.out _ _ _) ?_
     simp only [zq]
     refine uS 9 rfl (fun wA9 hA9 K hK => ?_)
     go_simp
     refine hK.out _ _ (fun x => QM w g B v t4 (LB (BM M gf 100 [z0, z1, z2]) ga 41 C 10 (.slice a0 n0 c0) BaT.vs 4 102 gb (.slice a0 n0 c0) L) x ∧ Rs BaT.vs 4 x (.slice (some ⟨wA9.heap.size, 0, none⟩) 1 1) [(⟨z0, z1, z2, z3⟩ : BaT)]) (Cls.and (HCL.out _ _ _) (fun _ _ h hb => Rs.mono h hb)) ⟨QM.below (HFL.out _ _) hA9 (Bn), Rs.one BaT.len wA9 (⟨z0, z1, z2, z3⟩ : BaT) 102⟩ ?_
     clear hK K
     try simp only [zq]
     refine uS 10 rfl (fun wA10 hA10 K hK => ?_)
     have hbase : gb ≤ wA10.heap.size := HB.out _ hA10.1.2.1.1
     refine step_append_rows (v := .slice a0 n0 c0) (vx := .slice (some ⟨wA9.heap.size, 0, none⟩) 1 1) rfl (.tmp 77) (.tmp 84) 33 rfl (L := L) (M := [(⟨z0, z1, z2, z3⟩ : BaT)]) (base := gb) elem_bal rfl rfl hA10.1.2.2.2 hA10.2 BaT.one (loop_le (BY := 32) HLL HMN hk (by decide)) (by decide) hbase ?_
     intro a7 n7 c7 w7 Hn7 ho7 hg7 hat7 hb7
     have HQ7 := Lh (row_appB hA10.1 HFM.out HNE.out HOB.out hg7 ho7)
     clear ho7 hg7 hat7 hb7 Hn7 hbase
     refine hK.out _ _ _ (HCL.out _ _ _) HQ7.out ?_
     clear HQ7
     clear hK K
     try simp only [zq]
     refine uP 2 [(11, some 86, .pointer (some ⟨ga, 9, none⟩)), (12, some 87, .pointer (some ⟨ga, 10, none⟩))] (HCL.out _ _ _) ?_
     simp only [zq]
     refine uZ rfl (fun w1 hb1 K hK => ?_)
     have hcx := hb1.2.2.1.cell (j := 10) (set_at HC.out _)
     have hfx := hb1.2.2.1.frozen 10
     have HQ9 := Lh (row_put (LB.unbox hb1) HFM.out HNE.out)
     clear hb1
     go_simp
     refine hK.out _ _ ?_
     clear hK K
     try simp only [Act.put]
     go_wp2_with fail
     first
      | exact ⟨⟨k + 1, a7, n7, c7, by omega, go_num_sub hltN, by rw [HN1.out.1, HN1.out.2]; exact HQ9.out⟩, by simp [intOf]; omega⟩
      | ((repeat apply Exists.intro); exact ⟨⟨k + 1, a7, n7, c7, by omega, go_num_sub hltN, by rw [HN1.out.1, HN1.out.2]; exact HQ9.out⟩, rfl⟩)
   ·
    have hz1 : (b == 0) = false := by simpa using hz
    have HE := Lh (HQL.out (.inr hz))
    clear hz
    go_wp2_with fail
    exact LpP.mk ⟨_, _, _, _, _, HE.out, HQB.out⟩
  ·
   obtain rfl : k = N := by omega
   have HE := Lh (HQL.out (.inl rfl))
   have hneg : ¬ (0 : Int) < (k : Int) - (k : Int) := by omega
   go_wp2_with fail
   exact LpP.mk ⟨_, _, _, _, _, HE.out, HQB.out⟩
theorem rs_ple {w w1 : World} {g ga gb N : Nat} {B : List UInt8} {v : Value} {s mt : RS} {M : World → Prop} {C : List Value} {K : Act → World → Prop} {R : Ending → World → Prop} (HLEN : Hid (B.length ≤ 70368744177664)) (HNE : Hid (g < ga ∧ w.heap.size ≤ ga ∧ ga < gb)) (HFM : Hid (Firm (fun k => k = g ∨ k = ga ∨ gb ≤ k) M)) (HB : Hid (∀ x, M x → gb ≤ x.heap.size)) (HC : Hid (11 < C.length)) (HMN : Hid ((mny s).1.toNat = N ∧ mt = (mny s).2 ∧ N ≤ 1024)) (HQ1 : Hid (QM w g B v mt (LB M ga 41 C 11 (.slice none 0 0) PlT.vs 3 104 gb (.slice none 0 0) []) w1))
  (hQ : ∀ (X8 X2i X2j X2k X2l X2m X2n X2o X2p X2q X2r X2s X2t X2u X2v X2w X2x X2y X2z X30 X31 X32 X33 X34 X35 X36 X37 X38 X39 X3a X3b : Value) (wx : World), LpP PlT.vs 3 rdPlT w g ga gb 11 B v s M 41 104 C wx → K { tmps := #[V0, V1, V2, V3, .pointer (some ⟨g, 0, none⟩), .pointer (some ⟨ga, 0, none⟩), V6, V7, X8, V9, Va, Vb, Vc, Vd, Ve, Vf, Vg, Vh, Vi, Vj, Vk, Vl, Vm, Vn, Vo, Vp, Vq, Vr, Vs, Vt, Vu, Vv, Vw, Vx, Vy, Vz, V10, V11, V12, V13, V14, V15, V16, V17, V18, V19, V1a, V1b, V1c, V1d, V1e, V1f, V1g, V1h, V1i, V1j, V1k, V1l, V1m, V1n, V1o, V1p, V1q, V1r, V1s, V1t, V1u, V1v, V1w, V1x, V1y, V1z, V20, V21, V22, V23, V24, V25, V26, V27, V28, V29, V2a, V2b, V2c, V2d, V2e, V2f, V2g, V2h, X2i, X2j, X2k, X2l, X2m, X2n, X2o, X2p, X2q, X2r, X2s, X2t, X2u, X2v, X2w, X2x, X2y, X2z, X30, X31, X32, X33, X34, X35, X36, X37, X38, X39, X3a, X3b, V3c, V3d, V3e, V3f, V3g, V3h, V3i, V3j, V3k, V3l, V3m, V3n, V3o, V3p, V3q, V3r, V3s, V3t, V3u, V3v, V3w, V3x, V3y, V3z, V40, V41, V42, V43, V44, V45, V46, V47, V48, V49, V4a, V4b, V4c, V4d, V4e, V4f, V4g, V4h, V4i, V4j, V4k, V4l, V4m, V4n, V4o, V4p, V4q, V4r, V4s, V4t, V4u, V4v, V4w, V4x, V4y, V4z, V50, V51, V52, V53, V54, V55, V56, V57, V58, V59, V5a, V5b, V5c, V5d, V5e, V5f, V5g, V5h, V5i, V5j, V5k, V5l, V5m, V5n, V5o, V5p, V5q, V5r, V5s, V5t, V5u, V5v, V5w, V5x, V5y, V5z, V60, V61, V62, V63, V64, V65, V66, V67, V68, V69, V6a, V6b, V6c, V6d, V6e, V6f, V6g, V6h, V6i, V6j, V6k, V6l, V6m, V6n, V6o, V6p, V6q, V6r], defers := [] } wx) :
  Code.wp Tryz.prog (codeAt [true, true, true, true, true, true, true, true, false, true] Tryz.f13) (Exit.then K (bodyPost Tryz.prog Tryz.f13 R)) { tmps := #[V0, V1, V2, V3, .pointer (some ⟨g, 0, none⟩), .pointer (some ⟨ga, 0, none⟩), V6, V7, (N : Int), V9, Va, Vb, Vc, Vd, Ve, Vf, Vg, Vh, Vi, Vj, Vk, Vl, Vm, Vn, Vo, Vp, Vq, Vr, Vs, Vt, Vu, Vv, Vw, Vx, Vy, Vz, V10, V11, V12, V13, V14, V15, V16, V17, V18, V19, V1a, V1b, V1c, V1d, V1e, V1f, V1g, V1h, V1i, V1j, V1k, V1l, V1m, V1n, V1o, V1p, V1q, V1r, V1s, V1t, V1u, V1v, V1w, V1x, V1y, V1z, V20, V21, V22, V23, V24, V25, V26, V27, V28, V29, V2a, V2b, V2c, V2d, V2e, V2f, V2g, V2h, V2i, V2j, V2k, V2l, V2m, V2n, V2o, V2p, V2q, V2r, V2s, V2t, V2u, V2v, V2w, V2x, V2y, V2z, V30, V31, V32, V33, V34, V35, V36, V37, V38, V39, V3a, V3b, V3c, V3d, V3e, V3f, V3g, V3h, V3i, V3j, V3k, V3l, V3m, V3n, V3o, V3p, V3q, V3r, V3s, V3t, V3u, V3v, V3w, V3x, V3y, V3z, V40, V41, V42, V43, V44, V45, V46, V47, V48, V49, V4a, V4b, V4c, V4d, V4e, V4f, V4g, V4h, V4i, V4j, V4k, V4l, V4m, V4n, V4o, V4p, V4q, V4r, V4s, V4t, V4u, V4v, V4w, V4x, V4y, V4z, V50, V51, V52, V53, V54, V55, V56, V57, V58, V59, V5a, V5b, V5c, V5d, V5e, V5f, V5g, V5h, V5i, V5j, V5k, V5l, V5m, V5n, V5o, V5p, V5q, V5r, V5s, V5t, V5u, V5v, V5w, V5x, V5y, V5z, V60, V61, V62, V63, V64, V65, V66, V67, V68, V69, V6a, V6b, V6c, V6d, V6e, V6f, V6g, V6h, V6i, V6j, V6k, V6l, V6m, V6n, V6o, V6p, V6q, V6r], defers := [] } w1 := by
 refine wp_at (c := _) rfl (.r (.r (.r (.r (.r (.r (.r (.r (.l (.r (.nil))))))))))) ?_
 go_wp2_with fail
 go_loopw [8] (fun v4 wr => ∃ (k : Nat) (a0 : Option Addr) (n0 c0 : Nat), k ≤ N ∧ v4 = .int .i64 ((N : Int) - k) ∧ QM w g B v (rRs rdPlT k mt).2 (LB M ga 41 C 11 (.slice a0 n0 c0) PlT.vs 3 104 gb (.slice a0 n0 c0) (rRs rdPlT k mt).1) wr) (fun i _ => (intOf i).toNat)
 case atStart => exact ⟨0, none, 0, 0, Nat.zero_le _, by simp, HQ1.out⟩
 case round =>
  obtain ⟨k, a0, n0, c0, hk, rfl, hq⟩ := hrel
  obtain ⟨t0, L, b, HT0, hcb, HQB, HQL, HLL⟩ := loop_rd HMN hk hq
  clear hq
  by_cases hltN : k < N
  ·
   have hpos : (0 : Int) < (N : Int) - (k : Int) := by omega
   have hup : (N : Int) - (k : Int) ≤ 1024 := by have := HMN.out.2.2; omega
   by_cases hz : b = 0
   ·
    subst hz
    obtain ⟨z0, z1, z2, t1, t2, t3, p0, p1, p2, HP⟩ := rI3 t0
    have HN1 := loop_nx HT0 (show rdPlT t0 = ((⟨z0, z1, z2⟩ : PlT), t3) by unfold rdPlT; rw [HP.out]; rfl)
    go_upto_region 15 with fail
    have HFL : Hid (∀ u D, Firm (fun k => k = g) (LB M ga 41 C 11 (.slice a0 n0 c0) PlT.vs 3 104 gb u D)) := fun u D => LB.firm (FMg HFM.out) HNE.out.1 (by have := HNE.out; omega)
    have HCL : Hid (∀ t u D, Cls (fun x => x.cell? ⟨ga, 11, none⟩ = some (.slice a0 n0 c0)) (QM w g B v t (LB M ga 41 C 11 (.slice a0 n0 c0) PlT.vs 3 104 gb u D))) := fun t u D => QM.cls (HFL.out _ _) (fun x hx => hx.2.1.cell (j := 11) (set_at HC.out _))
    refine wp_region_uni (S0 := fun x => x.cell? ⟨ga, 11, none⟩ = some (.slice a0 n0 c0)) (S := QM w g B v t0 (LB M ga 41 C 11 (.slice a0 n0 c0) PlT.vs 3 104 gb (.slice a0 n0 c0) L)) 18 (by kernel_rfl) (QM.below (HFL.out _ _) HQB.out (Below.refl _ _).drew) ?_
    refine uP 1 [(0, some 102, .pointer (some ⟨ga, 11, none⟩))] (HCL.out _ _ _) ?_
    refine uL 1 (some 103) (.slice a0 n0 c0) (HCL.out _ _ _) (p := ⟨ga, 11, none⟩) (fun w hSw => hSw) ?_
    refine uP 9 [(2, some 104, .pointer (some ⟨g, 0, none⟩)), (3, some 105, .pointer (some ⟨g, 0, none⟩)), (4, some 106, .pointer (some ⟨g, 0, none⟩)), (6, some 108, .pointer (some ⟨g, 0, none⟩)), (7, some 109, .pointer (some ⟨g, 0, none⟩)), (8, some 110, .pointer (some ⟨g, 0, none⟩)), (10, some 112, .pointer (some ⟨g, 0, none⟩)), (11, some 113, .pointer (some ⟨g, 0, none⟩)), (12, some 114, .pointer (some ⟨g, 0, none⟩))] (HCL.out _ _ _) ?_
    simp only [zq]
    refine uS 5 rfl (fun wA5 hA5 K hK => ?_)
    go_simp
    refine (QE (HFL.out _ _) hA5 p0 HLEN).mono ?_
    rintro e wn0 ⟨rfl, hn⟩
    refine hK.out _ _ _ (HCL.out _ _ _) hn ?_
    clear hK K
    try simp only [zq]
    refine uS 9 rfl (fun wA9 hA9 K hK => ?_)
    go_simp
    refine (QE (HFL.out _ _) hA9 p1 HLEN).mono ?_
    rintro e wn1 ⟨rfl, hn⟩
    refine hK.out _ _ _ (HCL.out _ _ _) hn ?_
    clear hK K
    try simp only [zq]
    refine uS 13 rfl (fun wA13 hA13 K hK => ?_)
    go_simp
    refine (QE (HFL.out _ _) hA13 p2 HLEN).mono ?_
    rintro e wn2 ⟨rfl, hn⟩
    refine hK.out _ _ _ (HCL.out _ _ _) hn ?_
    clear hK K
    try simp only [zq]
    refine uG 14 (some 116) (.agg #[z0, z1, z2]) (HCL.out _ _ _) ?_
    simp only [zq]
    refine uS 15 rfl (fun wA15 hA15 K hK => ?_)
    go_simp
    refine hK.out _ _ (fun x => QM w g B v t3 (LB M ga 41 C 11 (.slice a0 n0 c0) PlT.vs 3 104 gb (.slice a0 n0 c0) L) x ∧ Rs PlT.vs 3 x (.slice (some ⟨wA15.heap.size, 0, none⟩) 1 1) [(⟨z0, z1, z2⟩ : PlT)]) (Cls.and (HCL.out _ _ _) (fun _ _ h hb => Rs.mono h hb)) ⟨QM.below (HFL.out _ _) hA15 (Bn), Rs.one PlT.len wA15 (⟨z0, z1, z2⟩ : PlT) 104⟩ ?_
    clear hK K
    try simp only [zq]
    refine uS 16 rfl (fun wA16 hA16 K hK => ?_)
    have hbase : gb ≤ wA16.heap.size := HB.out _ hA16.1.2.1
    refine step_append_rows (v := .slice a0 n0 c0) (vx := .slice (some ⟨wA15.heap.size, 0, none⟩) 1 1) rfl (.tmp 103) (.tmp 117) 36 rfl (L := L) (M := [(⟨z0, z1, z2⟩ : PlT)]) (base := gb) elem_ple rfl rfl hA16.1.2.2.2 hA16.2 PlT.one (loop_le (BY := 24) HLL HMN hk (by decide)) (by decide) hbase ?_
    intro a7 n7 c7 w7 Hn7 ho7 hg7 hat7 hb7
    have HQ7 := Lh (row_app hA16.1 HFM.out HNE.out hg7 ho7)
    clear ho7 hg7 hat7 hb7 Hn7 hbase
    refine hK.out _ _ _ (HCL.out _ _ _) HQ7.out ?_
    clear HQ7
    clear hK K
    try simp only [zq]
    refine uP 1 [(17, some 119, .pointer (some ⟨ga, 11, none⟩))] (HCL.out _ _ _) ?_
    simp only [zq]
    refine uZ rfl (fun w1 hb1 K hK => ?_)
    have hcx := hb1.2.2.1.cell (j := 11) (set_at HC.out _)
    have hfx := hb1.2.2.1.frozen 11
    have HQ9 := Lh (row_put hb1 HFM.out HNE.out)
    clear hb1
    go_simp
    refine hK.out _ _ ?_
    clear hK K
    try simp only [Act.put]
    go_wp2_with fail
    first
     | exact ⟨⟨k + 1, a7, n7, c7, by omega, go_num_sub hltN, by rw [HN1.out.1, HN1.out.2]; exact HQ9.out⟩, by simp [intOf]; omega⟩
     | ((repeat apply Exists.intro); exact ⟨⟨k + 1, a7, n7, c7, by omega, go_num_sub hltN, by rw [HN1.out.1, HN1.out.2]; exact HQ9.out⟩, rfl⟩)
   ·
    have hz1 : (b == 0) = false := by simpa using hz
    have HE := Lh (HQL.out (.inr hz))
    clear hz
    go_wp2_with fail
    exact LpP.mk ⟨_, _, _, _, _, HE.out, HQB.out⟩
  ·
   obtain rfl : k = N := by omega
   have HE := Lh (HQL.out (.inl rfl))
   have hneg : ¬ (0 : Int) < (k : Int) - (k : Int) := by omega
   go_wp2_with fail
   exact LpP.mk ⟨_, _, _, _, _, HE.out, HQB.out⟩
end Cam
