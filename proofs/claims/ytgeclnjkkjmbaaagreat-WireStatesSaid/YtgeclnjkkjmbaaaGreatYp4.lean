import Derived.Test.YtgeclnjkkjmbaaaGreatYpLz
/- cambistref24: ReadState: calls, bids. -/
namespace Cam
open Go Go.RowKit Go.Proofs
set_option linter.unusedVariables false
set_option linter.unusedSimpArgs false
set_option maxRecDepth 100000
set_option maxHeartbeats 6400000
variable {V0 V1 V2 V3 V4 V5 V6 V7 V8 V9 Va Vb Vc Vd Ve Vf Vg Vh Vi Vj Vk Vl Vm Vn Vo Vp Vq Vr Vs Vt Vu Vv Vw Vx Vy Vz V10 V11 V12 V13 V14 V15 V16 V17 V18 V19 V1a V1b V1c V1d V1e V1f V1g V1h V1i V1j V1k V1l V1m V1n V1o V1p V1q V1r V1s V1t V1u V1v V1w V1x V1y V1z V20 V21 V22 V23 V24 V25 V26 V27 V28 V29 V2a V2b V2c V2d V2e V2f V2g V2h V2i V2j V2k V2l V2m V2n V2o V2p V2q V2r V2s V2t V2u V2v V2w V2x V2y V2z V30 V31 V32 V33 V34 V35 V36 V37 V38 V39 V3a V3b V3c V3d V3e V3f V3g V3h V3i V3j V3k V3l V3m V3n V3o V3p V3q V3r V3s V3t V3u V3v V3w V3x V3y V3z V40 V41 V42 V43 V44 V45 V46 V47 V48 V49 V4a V4b V4c V4d V4e V4f V4g V4h V4i V4j V4k V4l V4m V4n V4o V4p V4q V4r V4s V4t V4u V4v V4w V4x V4y V4z V50 V51 V52 V53 V54 V55 V56 V57 V58 V59 V5a V5b V5c V5d V5e V5f V5g V5h V5i V5j V5k V5l V5m V5n V5o V5p V5q V5r V5s V5t V5u V5v V5w V5x V5y V5z V60 V61 V62 V63 V64 V65 V66 V67 V68 V69 V6a V6b V6c V6d V6e V6f V6g V6h V6i V6j V6k V6l V6m V6n V6o V6p V6q V6r : Value}
theorem rs_cal {w w1 : World} {g ga gb N : Nat} {B : List UInt8} {v : Value} {s mt : RS} {M : World → Prop} {C : List Value} {K : Act → World → Prop} {R : Ending → World → Prop} (HLEN : Hid (B.length ≤ 70368744177664)) (HNE : Hid (g < ga ∧ w.heap.size ≤ ga ∧ ga < gb)) (HFM : Hid (Firm (fun k => k = g ∨ k = ga ∨ gb ≤ k) M)) (HB : Hid (∀ x, M x → gb ≤ x.heap.size)) (HC : Hid (12 < C.length)) (HMN : Hid ((mny s).1.toNat = N ∧ mt = (mny s).2 ∧ N ≤ 1024)) (HQ1 : Hid (QM w g B v mt (LB M ga 41 C 12 (.slice none 0 0) CaT.vs 4 108 gb (.slice none 0 0) []) w1))
  (hQ : ∀ (X9 Xa X3e X3f X3g X3h X3i X3j X3k X3l X3m X3n X3o X3p X3q X3r X3s X3t X3u X3v X3w X3x X3y X3z X40 X41 X42 X43 X44 X45 X46 X47 X48 X49 X4a X4b X4c X4d : Value) (wx : World), LpP CaT.vs 4 rdCaT w g ga gb 12 B v s M 41 108 C wx → K { tmps := #[V0, V1, V2, V3, .pointer (some ⟨g, 0, none⟩), .pointer (some ⟨ga, 0, none⟩), V6, V7, V8, X9, Xa, Vb, Vc, Vd, Ve, Vf, Vg, Vh, Vi, Vj, Vk, Vl, Vm, Vn, Vo, Vp, Vq, Vr, Vs, Vt, Vu, Vv, Vw, Vx, Vy, Vz, V10, V11, V12, V13, V14, V15, V16, V17, V18, V19, V1a, V1b, V1c, V1d, V1e, V1f, V1g, V1h, V1i, V1j, V1k, V1l, V1m, V1n, V1o, V1p, V1q, V1r, V1s, V1t, V1u, V1v, V1w, V1x, V1y, V1z, V20, V21, V22, V23, V24, V25, V26, V27, V28, V29, V2a, V2b, V2c, V2d, V2e, V2f, V2g, V2h, V2i, V2j, V2k, V2l, V2m, V2n, V2o, V2p, V2q, V2r, V2s, V2t, V2u, V2v, V2w, V2x, V2y, V2z, V30, V31, V32, V33, V34, V35, V36, V37, V38, V39, V3a, V3b, V3c, V3d, X3e, X3f, X3g, X3h, X3i, X3j, X3k, X3l, X3m, X3n, X3o, X3p, X3q, X3r, X3s, X3t, X3u, X3v, X3w, X3x, X3y, X3z, X40, X41, X42, X43, X44, X45, X46, X47, X48, X49, X4a, X4b, X4c, X4d, V4e, V4f, V4g, V4h, V4i, V4j, V4k, V4l, V4m, V4n, V4o, V4p, V4q, V4r, V4s, V4t, V4u, V4v, V4w, V4x, V4y, V4z, V50, V51, V52, V53, V54, V55, V56, V57, V58, V59, V5a, V5b, V5c, V5d, V5e, V5f, V5g, V5h, V5i, V5j, V5k, V5l, V5m, V5n, V5o, V5p, V5q, V5r, V5s, V5t, V5u, V5v, V5w, V5x, V5y, V5z, V60, V61, V62, V63, V64, V65, V66, V67, V68, V69, V6a, V6b, V6c, V6d, V6e, V6f, V6g, V6h, V6i, V6j, V6k, V6l, V6m, V6n, V6o, V6p, V6q, V6r], defers := [] } wx) :
  Code.wp Tryz.prog (codeAt [true, true, true, true, true, true, true, true, true, false, true] Tryz.f13) (Exit.then K (bodyPost Tryz.prog Tryz.f13 R)) { tmps := #[V0, V1, V2, V3, .pointer (some ⟨g, 0, none⟩), .pointer (some ⟨ga, 0, none⟩), V6, V7, V8, .int .i64 (N : Int), Va, Vb, Vc, Vd, Ve, Vf, Vg, Vh, Vi, Vj, Vk, Vl, Vm, Vn, Vo, Vp, Vq, Vr, Vs, Vt, Vu, Vv, Vw, Vx, Vy, Vz, V10, V11, V12, V13, V14, V15, V16, V17, V18, V19, V1a, V1b, V1c, V1d, V1e, V1f, V1g, V1h, V1i, V1j, V1k, V1l, V1m, V1n, V1o, V1p, V1q, V1r, V1s, V1t, V1u, V1v, V1w, V1x, V1y, V1z, V20, V21, V22, V23, V24, V25, V26, V27, V28, V29, V2a, V2b, V2c, V2d, V2e, V2f, V2g, V2h, V2i, V2j, V2k, V2l, V2m, V2n, V2o, V2p, V2q, V2r, V2s, V2t, V2u, V2v, V2w, V2x, V2y, V2z, V30, V31, V32, V33, V34, V35, V36, V37, V38, V39, V3a, V3b, V3c, V3d, V3e, V3f, V3g, V3h, V3i, V3j, V3k, V3l, V3m, V3n, V3o, V3p, V3q, V3r, V3s, V3t, V3u, V3v, V3w, V3x, V3y, V3z, V40, V41, V42, V43, V44, V45, V46, V47, V48, V49, V4a, V4b, V4c, V4d, V4e, V4f, V4g, V4h, V4i, V4j, V4k, V4l, V4m, V4n, V4o, V4p, V4q, V4r, V4s, V4t, V4u, V4v, V4w, V4x, V4y, V4z, V50, V51, V52, V53, V54, V55, V56, V57, V58, V59, V5a, V5b, V5c, V5d, V5e, V5f, V5g, V5h, V5i, V5j, V5k, V5l, V5m, V5n, V5o, V5p, V5q, V5r, V5s, V5t, V5u, V5v, V5w, V5x, V5y, V5z, V60, V61, V62, V63, V64, V65, V66, V67, V68, V69, V6a, V6b, V6c, V6d, V6e, V6f, V6g, V6h, V6i, V6j, V6k, V6l, V6m, V6n, V6o, V6p, V6q, V6r], defers := [] } w1 := by
 refine wp_at (c := _) rfl (.r (.r (.r (.r (.r (.r (.r (.r (.r (.l (.r (.nil)))))))))))) ?_
 go_wp2_with fail
 go_loopw [9] (fun v4 wr => ∃ (k : Nat) (a0 : Option Addr) (n0 c0 : Nat), k ≤ N ∧ v4 = .int .i64 ((N : Int) - k) ∧ QM w g B v (rRs rdCaT k mt).2 (LB M ga 41 C 12 (.slice a0 n0 c0) CaT.vs 4 108 gb (.slice a0 n0 c0) (rRs rdCaT k mt).1) wr) (fun i _ => (intOf i).toNat)
 case atStart => exact ⟨0, none, 0, 0, Nat.zero_le _, by simp, HQ1.out⟩
 case round =>
  obtain ⟨k, a0, n0, c0, hk, rfl, hq⟩ := hrel
  obtain ⟨t0, L, b, HT0, hcb, HQB, HQL, HLL⟩ := loop_rd HMN hk hq
  clear hq
  by_cases hltN : k < N
  ·
   have hpos : (0 : Int) < (N : Int) - (k : Int) := by omega
   have hup : (N : Int) - (k : Int) ≤ 1024 := by have := HMN.out.2.2; omega
   by_cases hz : b = 0
   ·
    subst hz
    obtain ⟨z0, z1, z2, z3, t1, t2, t3, t4, p0, p1, p2, p3, HP⟩ := rI4 t0
    have HN1 := loop_nx HT0 (show rdCaT t0 = ((⟨z0, z1, z2, z3⟩ : CaT), t4) by unfold rdCaT; rw [HP.out]; rfl)
    obtain ⟨gb9, M9, HFM9, HF9, HB9, HX9, HQ9x, HNEF, HLT9⟩ := box_in HQB.out HFM.out HB.out HNE.out
    go_upto_region 19 with fail
    go_cut [10] from 122 to 157 (fun v6 wx => BoxP w g B v t3 M9 106 [z0, z1, z2] gb9 v6 wx)
    case first =>
     refine wp_region_uni (S0 := fun _ => True) (S := QM w g B v t0 M9) 14 (by kernel_rfl) (QM.below HF9.out HQ9x.out (Below.refl _ _).drew) ?_
     refine uP 9 [(0, some 134, .pointer (some ⟨g, 0, none⟩)), (1, some 135, .pointer (some ⟨g, 0, none⟩)), (2, some 136, .pointer (some ⟨g, 0, none⟩)), (4, some 138, .pointer (some ⟨g, 0, none⟩)), (5, some 139, .pointer (some ⟨g, 0, none⟩)), (6, some 140, .pointer (some ⟨g, 0, none⟩)), (8, some 142, .pointer (some ⟨g, 0, none⟩)), (9, some 143, .pointer (some ⟨g, 0, none⟩)), (10, some 144, .pointer (some ⟨g, 0, none⟩))] (QM.cls HF9.out (fun _ _ => trivial)) ?_
     simp only [zq]
     refine wpAnyU_ready (rs := [3, 13]) (by kernel_rfl) (by simp) ?_
     refine uD rfl (fun wA3 hA3 K hK => ?_) (uD rfl (fun wA13 hA13 K hK => ?_) AllReadyU.nil)
     ·
      go_simp
      refine (QE HF9.out hA3 p0 HLEN).mono ?_
      rintro e wn0 ⟨rfl, hn⟩
      refine hK.out _ _ _ (QM.cls HF9.out (fun _ _ => trivial)) hn ?_
      clear hK K
      try simp only [zq]
      refine wpAnyU_ready (rs := [7, 13]) (by kernel_rfl) (by simp) ?_
      refine uD rfl (fun wA7 hA7 K hK => ?_) (uD rfl (fun wA13 hA13 K hK => ?_) AllReadyU.nil)
      ·
       go_simp
       refine (QE HF9.out hA7 p1 HLEN).mono ?_
       rintro e wn1 ⟨rfl, hn⟩
       refine hK.out _ _ _ (QM.cls HF9.out (fun _ _ => trivial)) hn ?_
       clear hK K
       try simp only [zq]
       refine wpAnyU_ready (rs := [11, 13]) (by kernel_rfl) (by simp) ?_
       refine uD rfl (fun wA11 hA11 K hK => ?_) (uD rfl (fun wA13 hA13 K hK => ?_) AllReadyU.nil)
       ·
        go_simp
        refine (QE HF9.out hA11 p2 HLEN).mono ?_
        rintro e wn2 ⟨rfl, hn⟩
        refine hK.out _ _ _ (QM.cls HF9.out (fun _ _ => trivial)) hn ?_
        clear hK K
        try simp only [zq]
        refine uG 12 (some 146) (.agg #[z0, z1, z2]) (QM.cls HF9.out (fun _ _ => trivial)) ?_
        simp only [zq]
        refine uS 13 rfl (fun wA13 hA13 K hK => ?_)
        go_simp
        obtain ⟨gf, hgf, HNE9, HF1, hnq⟩ := box_new (Z := [(0:Int), (0:Int), (0:Int)]) (KT := 106) hA13 HF9.out HB9.out
        rw [hgf]
        clear hgf
        refine hK.out _ _ _ (QM.cls HF1.out (fun _ _ => trivial)) hnq ?_
        clear hnq
        clear hK K
        try simp only [zq]
        refine uZ rfl (fun w1 hb1 K hK => ?_)
        refine step_store_mid rfl 106 (.tmp 10) (.tmp 146) rfl gf 0 [z0, z1, z2] rfl rfl (fun j hj => ⟨hb1.2.2.isSome (by simpa using hj), hb1.2.2.frozen _⟩) (by rw [qdueSz]; rfl) (by simp [Value.oneCell']) ?_
        have HQ9 := Lh (box_put (CF := [z0, z1, z2]) hb1 HFM9.out HNE9.out rfl)
        obtain ⟨w9, hw9⟩ : ∃ w9, w9 = w1.setCells gf 0 [z0, z1, z2] := ⟨_, rfl⟩
        rw [← hw9] at HQ9 ⊢
        clear hb1 hw9
        refine hK.out _ _ ?_
        clear hK K
        try simp only [Act.put]
        go_wp2_with fail
        go_meet
        exact HQ9.out
       ·
        go_simp
        obtain ⟨gf, hgf, HNE9, HF1, hnq⟩ := box_new (Z := [(0:Int), (0:Int), (0:Int)]) (KT := 106) hA13 HF9.out HB9.out
        rw [hgf]
        clear hgf
        refine hK.out _ _ _ (QM.cls HF1.out (fun _ _ => trivial)) hnq ?_
        clear hnq
        clear hK K
        try simp only [zq]
        refine uS 11 rfl (fun wA11 hA11 K hK => ?_)
        go_simp
        refine (QE HF1.out hA11 p2 HLEN).mono ?_
        rintro e wn2 ⟨rfl, hn⟩
        refine hK.out _ _ _ (QM.cls HF1.out (fun _ _ => trivial)) hn ?_
        clear hK K
        try simp only [zq]
        refine uG 12 (some 146) (.agg #[z0, z1, z2]) (QM.cls HF1.out (fun _ _ => trivial)) ?_
        simp only [zq]
        refine uZ rfl (fun w1 hb1 K hK => ?_)
        refine step_store_mid rfl 106 (.tmp 10) (.tmp 146) rfl gf 0 [z0, z1, z2] rfl rfl (fun j hj => ⟨hb1.2.2.isSome (by simpa using hj), hb1.2.2.frozen _⟩) (by rw [qdueSz]; rfl) (by simp [Value.oneCell']) ?_
        have HQ9 := Lh (box_put (CF := [z0, z1, z2]) hb1 HFM9.out HNE9.out rfl)
        obtain ⟨w9, hw9⟩ : ∃ w9, w9 = w1.setCells gf 0 [z0, z1, z2] := ⟨_, rfl⟩
        rw [← hw9] at HQ9 ⊢
        clear hb1 hw9
        refine hK.out _ _ ?_
        clear hK K
        try simp only [Act.put]
        go_wp2_with fail
        go_meet
        exact HQ9.out
      ·
       go_simp
       obtain ⟨gf, hgf, HNE9, HF1, hnq⟩ := box_new (Z := [(0:Int), (0:Int), (0:Int)]) (KT := 106) hA13 HF9.out HB9.out
       rw [hgf]
       clear hgf
       refine hK.out _ _ _ (QM.cls HF1.out (fun _ _ => trivial)) hnq ?_
       clear hnq
       clear hK K
       try simp only [zq]
       refine uS 7 rfl (fun wA7 hA7 K hK => ?_)
       go_simp
       refine (QE HF1.out hA7 p1 HLEN).mono ?_
       rintro e wn1 ⟨rfl, hn⟩
       refine hK.out _ _ _ (QM.cls HF1.out (fun _ _ => trivial)) hn ?_
       clear hK K
       try simp only [zq]
       refine uS 11 rfl (fun wA11 hA11 K hK => ?_)
       go_simp
       refine (QE HF1.out hA11 p2 HLEN).mono ?_
       rintro e wn2 ⟨rfl, hn⟩
       refine hK.out _ _ _ (QM.cls HF1.out (fun _ _ => trivial)) hn ?_
       clear hK K
       try simp only [zq]
       refine uG 12 (some 146) (.agg #[z0, z1, z2]) (QM.cls HF1.out (fun _ _ => trivial)) ?_
       simp only [zq]
       refine uZ rfl (fun w1 hb1 K hK => ?_)
       refine step_store_mid rfl 106 (.tmp 10) (.tmp 146) rfl gf 0 [z0, z1, z2] rfl rfl (fun j hj => ⟨hb1.2.2.isSome (by simpa using hj), hb1.2.2.frozen _⟩) (by rw [qdueSz]; rfl) (by simp [Value.oneCell']) ?_
       have HQ9 := Lh (box_put (CF := [z0, z1, z2]) hb1 HFM9.out HNE9.out rfl)
       obtain ⟨w9, hw9⟩ : ∃ w9, w9 = w1.setCells gf 0 [z0, z1, z2] := ⟨_, rfl⟩
       rw [← hw9] at HQ9 ⊢
       clear hb1 hw9
       refine hK.out _ _ ?_
       clear hK K
       try simp only [Act.put]
       go_wp2_with fail
       go_meet
       exact HQ9.out
     ·
      go_simp
      obtain ⟨gf, hgf, HNE9, HF1, hnq⟩ := box_new (Z := [(0:Int), (0:Int), (0:Int)]) (KT := 106) hA13 HF9.out HB9.out
      rw [hgf]
      clear hgf
      refine hK.out _ _ _ (QM.cls HF1.out (fun _ _ => trivial)) hnq ?_
      clear hnq
      clear hK K
      try simp only [zq]
      refine uS 3 rfl (fun wA3 hA3 K hK => ?_)
      go_simp
      refine (QE HF1.out hA3 p0 HLEN).mono ?_
      rintro e wn0 ⟨rfl, hn⟩
      refine hK.out _ _ _ (QM.cls HF1.out (fun _ _ => trivial)) hn ?_
      clear hK K
      try simp only [zq]
      refine uS 7 rfl (fun wA7 hA7 K hK => ?_)
      go_simp
      refine (QE HF1.out hA7 p1 HLEN).mono ?_
      rintro e wn1 ⟨rfl, hn⟩
      refine hK.out _ _ _ (QM.cls HF1.out (fun _ _ => trivial)) hn ?_
      clear hK K
      try simp only [zq]
      refine uS 11 rfl (fun wA11 hA11 K hK => ?_)
      go_simp
      refine (QE HF1.out hA11 p2 HLEN).mono ?_
      rintro e wn2 ⟨rfl, hn⟩
      refine hK.out _ _ _ (QM.cls HF1.out (fun _ _ => trivial)) hn ?_
      clear hK K
      try simp only [zq]
      refine uG 12 (some 146) (.agg #[z0, z1, z2]) (QM.cls HF1.out (fun _ _ => trivial)) ?_
      simp only [zq]
      refine uZ rfl (fun w1 hb1 K hK => ?_)
      refine step_store_mid rfl 106 (.tmp 10) (.tmp 146) rfl gf 0 [z0, z1, z2] rfl rfl (fun j hj => ⟨hb1.2.2.isSome (by simpa using hj), hb1.2.2.frozen _⟩) (by rw [qdueSz]; rfl) (by simp [Value.oneCell']) ?_
      have HQ9 := Lh (box_put (CF := [z0, z1, z2]) hb1 HFM9.out HNE9.out rfl)
      obtain ⟨w9, hw9⟩ : ∃ w9, w9 = w1.setCells gf 0 [z0, z1, z2] := ⟨_, rfl⟩
      rw [← hw9] at HQ9 ⊢
      clear hb1 hw9
      refine hK.out _ _ ?_
      clear hK K
      try simp only [Act.put]
      go_wp2_with fail
      go_meet
      exact HQ9.out
    case rest =>
     obtain ⟨gf, rfl, hq, h1, h2, h3, h4⟩ := hcut
     have HGF := Lh (⟨h1, h2, h3, h4⟩ : _ ∧ _ ∧ _ ∧ _)
     clear h1 h2 h3 h4
     have HOB : Hid (∀ k, (Value.slice a0 n0 c0).ownBlock = some k → k < gf) := fun k hk => by have := HLT9.out k hk; have := HGF.out; omega
     have HQB2 := Lh (box_row hq HX9.out)
     clear hq
     go_upto_region 20 with fail
     have HFL : Hid (∀ u D, Firm (fun k => k = g) (LB (BM M gf 106 [z0, z1, z2]) ga 41 C 12 (.slice a0 n0 c0) CaT.vs 4 108 gb u D)) := fun u D => LB.firm (BM.firm (FMg HFM.out) HGF.out.1) HNE.out.1 (by have := HNE.out; omega)
     have HCL : Hid (∀ t u D, Cls (fun x => x.cell? ⟨ga, 12, none⟩ = some (.slice a0 n0 c0) ∧ HT x gf 106 [z0, z1, z2]) (QM w g B v t (LB (BM M gf 106 [z0, z1, z2]) ga 41 C 12 (.slice a0 n0 c0) CaT.vs 4 108 gb u D))) := fun t u D => QM.cls (HFL.out _ _) (fun x hx => ⟨hx.2.1.cell (j := 12) (set_at HC.out _), hx.1.2⟩)
     refine wp_region_uni (S0 := fun x => x.cell? ⟨ga, 12, none⟩ = some (.slice a0 n0 c0) ∧ HT x gf 106 [z0, z1, z2]) (S := QM w g B v t3 (LB (BM M gf 106 [z0, z1, z2]) ga 41 C 12 (.slice a0 n0 c0) CaT.vs 4 108 gb (.slice a0 n0 c0) L)) 11 (by kernel_rfl) (QM.below (HFL.out _ _) HQB2.out (Below.refl _ _).drew) ?_
     refine uP 1 [(0, some 147, .pointer (some ⟨ga, 12, none⟩))] (HCL.out _ _ _) ?_
     refine uL 1 (some 148) (.slice a0 n0 c0) (HCL.out _ _ _) (p := ⟨ga, 12, none⟩) (fun w hSw => hSw.1) ?_
     simp only [zq]
     refine uO 2 (some 149) (.agg #[z0, z1, z2]) (HCL.out _ _ _) (fun _ ho => by cases ho; exact .inl ⟨rfl, fun w hSw => eff_load_row 106 (.tmp 10) rfl gf rfl _ _ hSw.2 Tryz.underlying106 rfl (by rw [qdueSz]; rfl)⟩) ?_
     refine uP 3 [(3, some 150, .pointer (some ⟨g, 0, none⟩)), (4, some 151, .pointer (some ⟨g, 0, none⟩)), (5, some 152, .pointer (some ⟨g, 0, none⟩))] (HCL.out _ _ _) ?_
     simp only [zq]
     refine uS 6 rfl (fun wA6 hA6 K hK => ?_)
     go_simp
     refine (QE (HFL.out _ _) hA6 p3 HLEN).mono ?_
     rintro e wn0 ⟨rfl, hn⟩
     refine hK.out _ _ _ (HCL.out _ _ _) hn ?_
     clear hK K
     try simp only [zq]
     refine uG 7 (some 154) (.agg #[z0, z1, z2, z3]) (HCL.out _ _ _) ?_
     simp only [zq]
     refine uS 8 rfl (fun wA8 hA8 K hK => ?_)
     go_simp
     refine hK.out _ _ (fun x => QM w g B v t4 (LB (BM M gf 106 [z0, z1, z2]) ga 41 C 12 (.slice a0 n0 c0) CaT.vs 4 108 gb (.slice a0 n0 c0) L) x ∧ Rs CaT.vs 4 x (.slice (some ⟨wA8.heap.size, 0, none⟩) 1 1) [(⟨z0, z1, z2, z3⟩ : CaT)]) (Cls.and (HCL.out _ _ _) (fun _ _ h hb => Rs.mono h hb)) ⟨QM.below (HFL.out _ _) hA8 (Bn), Rs.one CaT.len wA8 (⟨z0, z1, z2, z3⟩ : CaT) 108⟩ ?_
     clear hK K
     try simp only [zq]
     refine uS 9 rfl (fun wA9 hA9 K hK => ?_)
     have hbase : gb ≤ wA9.heap.size := HB.out _ hA9.1.2.1.1
     refine step_append_rows (v := .slice a0 n0 c0) (vx := .slice (some ⟨wA8.heap.size, 0, none⟩) 1 1) rfl (.tmp 148) (.tmp 155) 37 rfl (L := L) (M := [(⟨z0, z1, z2, z3⟩ : CaT)]) (base := gb) elem_cal rfl rfl hA9.1.2.2.2 hA9.2 CaT.one (loop_le (BY := 32) HLL HMN hk (by decide)) (by decide) hbase ?_
     intro a7 n7 c7 w7 Hn7 ho7 hg7 hat7 hb7
     have HQ7 := Lh (row_appB hA9.1 HFM.out HNE.out HOB.out hg7 ho7)
     clear ho7 hg7 hat7 hb7 Hn7 hbase
     refine hK.out _ _ _ (HCL.out _ _ _) HQ7.out ?_
     clear HQ7
     clear hK K
     try simp only [zq]
     refine uP 1 [(10, some 157, .pointer (some ⟨ga, 12, none⟩))] (HCL.out _ _ _) ?_
     simp only [zq]
     refine uZ rfl (fun w1 hb1 K hK => ?_)
     have hcx := hb1.2.2.1.cell (j := 12) (set_at HC.out _)
     have hfx := hb1.2.2.1.frozen 12
     have HQ9 := Lh (row_put (LB.unbox hb1) HFM.out HNE.out)
     clear hb1
     go_simp
     refine hK.out _ _ ?_
     clear hK K
     try simp only [Act.put]
     go_wp2_with fail
     first
      | exact ⟨⟨k + 1, a7, n7, c7, by omega, go_num_sub hltN, by rw [HN1.out.1, HN1.out.2]; exact HQ9.out⟩, by simp [intOf]; omega⟩
      | ((repeat apply Exists.intro); exact ⟨⟨k + 1, a7, n7, c7, by omega, go_num_sub hltN, by rw [HN1.out.1, HN1.out.2]; exact HQ9.out⟩, rfl⟩)
   ·
    have hz1 : (b == 0) = false := by simpa using hz
    have HE := Lh (HQL.out (.inr hz))
    clear hz
    go_wp2_with fail
    exact LpP.mk ⟨_, _, _, _, _, HE.out, HQB.out⟩
  ·
   obtain rfl : k = N := by omega
   have HE := Lh (HQL.out (.inl rfl))
   have hneg : ¬ (0 : Int) < (k : Int) - (k : Int) := by omega
   go_wp2_with fail
   exact LpP.mk ⟨_, _, _, _, _, HE.out, HQB.out⟩
theorem rs_bid {w w1 : World} {g ga gb N : Nat} {B : List UInt8} {v : Value} {s mt : RS} {M : World → Prop} {C : List Value} {K : Act → World → Prop} {R : Ending → World → Prop} (HLEN : Hid (B.length ≤ 70368744177664)) (HNE : Hid (g < ga ∧ w.heap.size ≤ ga ∧ ga < gb)) (HFM : Hid (Firm (fun k => k = g ∨ k = ga ∨ gb ≤ k) M)) (HB : Hid (∀ x, M x → gb ≤ x.heap.size)) (HC : Hid (13 < C.length)) (HMN : Hid ((mny s).1.toNat = N ∧ mt = (mny s).2 ∧ N ≤ 1024)) (HQ1 : Hid (QM w g B v mt (LB M ga 41 C 13 (.slice none 0 0) BiT.vs 5 110 gb (.slice none 0 0) []) w1))
  (hQ : ∀ (Xb Xc X4g X4h X4i X4j X4k X4l X4m X4n X4o X4p X4q X4r X4s X4t X4u X4v X4w X4x X4y X4z X50 X51 X52 X53 X54 X55 X56 X57 X58 X59 X5a X5b X5c X5d X5e X5f X5g X5h X5i X5j : Value) (wx : World), LpP BiT.vs 5 rdBiT w g ga gb 13 B v s M 41 110 C wx → K { tmps := #[V0, V1, V2, V3, .pointer (some ⟨g, 0, none⟩), .pointer (some ⟨ga, 0, none⟩), V6, V7, V8, V9, Va, Xb, Xc, Vd, Ve, Vf, Vg, Vh, Vi, Vj, Vk, Vl, Vm, Vn, Vo, Vp, Vq, Vr, Vs, Vt, Vu, Vv, Vw, Vx, Vy, Vz, V10, V11, V12, V13, V14, V15, V16, V17, V18, V19, V1a, V1b, V1c, V1d, V1e, V1f, V1g, V1h, V1i, V1j, V1k, V1l, V1m, V1n, V1o, V1p, V1q, V1r, V1s, V1t, V1u, V1v, V1w, V1x, V1y, V1z, V20, V21, V22, V23, V24, V25, V26, V27, V28, V29, V2a, V2b, V2c, V2d, V2e, V2f, V2g, V2h, V2i, V2j, V2k, V2l, V2m, V2n, V2o, V2p, V2q, V2r, V2s, V2t, V2u, V2v, V2w, V2x, V2y, V2z, V30, V31, V32, V33, V34, V35, V36, V37, V38, V39, V3a, V3b, V3c, V3d, V3e, V3f, V3g, V3h, V3i, V3j, V3k, V3l, V3m, V3n, V3o, V3p, V3q, V3r, V3s, V3t, V3u, V3v, V3w, V3x, V3y, V3z, V40, V41, V42, V43, V44, V45, V46, V47, V48, V49, V4a, V4b, V4c, V4d, V4e, V4f, X4g, X4h, X4i, X4j, X4k, X4l, X4m, X4n, X4o, X4p, X4q, X4r, X4s, X4t, X4u, X4v, X4w, X4x, X4y, X4z, X50, X51, X52, X53, X54, X55, X56, X57, X58, X59, X5a, X5b, X5c, X5d, X5e, X5f, X5g, X5h, X5i, X5j, V5k, V5l, V5m, V5n, V5o, V5p, V5q, V5r, V5s, V5t, V5u, V5v, V5w, V5x, V5y, V5z, V60, V61, V62, V63, V64, V65, V66, V67, V68, V69, V6a, V6b, V6c, V6d, V6e, V6f, V6g, V6h, V6i, V6j, V6k, V6l, V6m, V6n, V6o, V6p, V6q, V6r], defers := [] } wx) :
  Code.wp Tryz.prog (codeAt [true, true, true, true, true, true, true, true, true, true, false, true] Tryz.f13) (Exit.then K (bodyPost Tryz.prog Tryz.f13 R)) { tmps := #[V0, V1, V2, V3, .pointer (some ⟨g, 0, none⟩), .pointer (some ⟨ga, 0, none⟩), V6, V7, V8, V9, Va, .int .i64 (N : Int), Vc, Vd, Ve, Vf, Vg, Vh, Vi, Vj, Vk, Vl, Vm, Vn, Vo, Vp, Vq, Vr, Vs, Vt, Vu, Vv, Vw, Vx, Vy, Vz, V10, V11, V12, V13, V14, V15, V16, V17, V18, V19, V1a, V1b, V1c, V1d, V1e, V1f, V1g, V1h, V1i, V1j, V1k, V1l, V1m, V1n, V1o, V1p, V1q, V1r, V1s, V1t, V1u, V1v, V1w, V1x, V1y, V1z, V20, V21, V22, V23, V24, V25, V26, V27, V28, V29, V2a, V2b, V2c, V2d, V2e, V2f, V2g, V2h, V2i, V2j, V2k, V2l, V2m, V2n, V2o, V2p, V2q, V2r, V2s, V2t, V2u, V2v, V2w, V2x, V2y, V2z, V30, V31, V32, V33, V34, V35, V36, V37, V38, V39, V3a, V3b, V3c, V3d, V3e, V3f, V3g, V3h, V3i, V3j, V3k, V3l, V3m, V3n, V3o, V3p, V3q, V3r, V3s, V3t, V3u, V3v, V3w, V3x, V3y, V3z, V40, V41, V42, V43, V44, V45, V46, V47, V48, V49, V4a, V4b, V4c, V4d, V4e, V4f, V4g, V4h, V4i, V4j, V4k, V4l, V4m, V4n, V4o, V4p, V4q, V4r, V4s, V4t, V4u, V4v, V4w, V4x, V4y, V4z, V50, V51, V52, V53, V54, V55, V56, V57, V58, V59, V5a, V5b, V5c, V5d, V5e, V5f, V5g, V5h, V5i, V5j, V5k, V5l, V5m, V5n, V5o, V5p, V5q, V5r, V5s, V5t, V5u, V5v, V5w, V5x, V5y, V5z, V60, V61, V62, V63, V64, V65, V66, V67, V68, V69, V6a, V6b, V6c, V6d, V6e, V6f, V6g, V6h, V6i, V6j, V6k, V6l, V6m, V6n, V6o, V6p, V6q, V6r], defers := [] } w1 := by
 refine wp_at (c := _) rfl (.r (.r (.r (.r (.r (.r (.r (.r (.r (.r (.l (.r (.nil))))))))))))) ?_
 go_wp2_with fail
 go_loopw [11] (fun v4 wr => ∃ (k : Nat) (a0 : Option Addr) (n0 c0 : Nat), k ≤ N ∧ v4 = .int .i64 ((N : Int) - k) ∧ QM w g B v (rRs rdBiT k mt).2 (LB M ga 41 C 13 (.slice a0 n0 c0) BiT.vs 5 110 gb (.slice a0 n0 c0) (rRs rdBiT k mt).1) wr) (fun i _ => (intOf i).toNat)
 case atStart => exact ⟨0, none, 0, 0, Nat.zero_le _, by simp, HQ1.out⟩
 case round =>
  obtain ⟨k, a0, n0, c0, hk, rfl, hq⟩ := hrel
  obtain ⟨t0, L, b, HT0, hcb, HQB, HQL, HLL⟩ := loop_rd HMN hk hq
  clear hq
  by_cases hltN : k < N
  ·
   have hpos : (0 : Int) < (N : Int) - (k : Int) := by omega
   have hup : (N : Int) - (k : Int) ≤ 1024 := by have := HMN.out.2.2; omega
   by_cases hz : b = 0
   ·
    subst hz
    obtain ⟨z0, z1, z2, z3, z4, t1, t2, t3, t4, t5, p0, p1, p2, p3, p4, HP⟩ := rI5 t0
    have HN1 := loop_nx HT0 (show rdBiT t0 = ((⟨z0, z1, z2, z3, z4⟩ : BiT), t5) by unfold rdBiT; rw [HP.out]; rfl)
    obtain ⟨gb9, M9, HFM9, HF9, HB9, HX9, HQ9x, HNEF, HLT9⟩ := box_in HQB.out HFM.out HB.out HNE.out
    go_upto_region 24 with fail
    go_cut [12] from 160 to 199 (fun v6 wx => BoxP w g B v t2 M9 96 [z0, z1] gb9 v6 wx)
    case first =>
     refine wp_region_uni (S0 := fun _ => True) (S := QM w g B v t0 M9) 10 (by kernel_rfl) (QM.below HF9.out HQ9x.out (Below.refl _ _).drew) ?_
     refine uP 6 [(0, some 172, .pointer (some ⟨g, 0, none⟩)), (1, some 173, .pointer (some ⟨g, 0, none⟩)), (2, some 174, .pointer (some ⟨g, 0, none⟩)), (4, some 176, .pointer (some ⟨g, 0, none⟩)), (5, some 177, .pointer (some ⟨g, 0, none⟩)), (6, some 178, .pointer (some ⟨g, 0, none⟩))] (QM.cls HF9.out (fun _ _ => trivial)) ?_
     simp only [zq]
     refine wpAnyU_ready (rs := [3, 9]) (by kernel_rfl) (by simp) ?_
     refine uD rfl (fun wA3 hA3 K hK => ?_) (uD rfl (fun wA9 hA9 K hK => ?_) AllReadyU.nil)
     ·
      go_simp
      refine (QE HF9.out hA3 p0 HLEN).mono ?_
      rintro e wn0 ⟨rfl, hn⟩
      refine hK.out _ _ _ (QM.cls HF9.out (fun _ _ => trivial)) hn ?_
      clear hK K
      try simp only [zq]
      refine wpAnyU_ready (rs := [7, 9]) (by kernel_rfl) (by simp) ?_
      refine uD rfl (fun wA7 hA7 K hK => ?_) (uD rfl (fun wA9 hA9 K hK => ?_) AllReadyU.nil)
      ·
       go_simp
       refine (QE HF9.out hA7 p1 HLEN).mono ?_
       rintro e wn1 ⟨rfl, hn⟩
       refine hK.out _ _ _ (QM.cls HF9.out (fun _ _ => trivial)) hn ?_
       clear hK K
       try simp only [zq]
       refine uG 8 (some 180) (.agg #[z0, z1]) (QM.cls HF9.out (fun _ _ => trivial)) ?_
       simp only [zq]
       refine uS 9 rfl (fun wA9 hA9 K hK => ?_)
       go_simp
       obtain ⟨gf, hgf, HNE9, HF1, hnq⟩ := box_new (Z := [(0:Int), (0:Int)]) (KT := 96) hA9 HF9.out HB9.out
       rw [hgf]
       clear hgf
       refine hK.out _ _ _ (QM.cls HF1.out (fun _ _ => trivial)) hnq ?_
       clear hnq
       clear hK K
       try simp only [zq]
       refine uZ rfl (fun w1 hb1 K hK => ?_)
       refine step_store_mid rfl 96 (.tmp 12) (.tmp 180) rfl gf 0 [z0, z1] rfl rfl (fun j hj => ⟨hb1.2.2.isSome (by simpa using hj), hb1.2.2.frozen _⟩) (by rw [qkeySz]; rfl) (by simp [Value.oneCell']) ?_
       have HQ9 := Lh (box_put (CF := [z0, z1]) hb1 HFM9.out HNE9.out rfl)
       obtain ⟨w9, hw9⟩ : ∃ w9, w9 = w1.setCells gf 0 [z0, z1] := ⟨_, rfl⟩
       rw [← hw9] at HQ9 ⊢
       clear hb1 hw9
       refine hK.out _ _ ?_
       clear hK K
       try simp only [Act.put]
       go_wp2_with fail
       go_meet
       exact HQ9.out
      ·
       go_simp
       obtain ⟨gf, hgf, HNE9, HF1, hnq⟩ := box_new (Z := [(0:Int), (0:Int)]) (KT := 96) hA9 HF9.out HB9.out
       rw [hgf]
       clear hgf
       refine hK.out _ _ _ (QM.cls HF1.out (fun _ _ => trivial)) hnq ?_
       clear hnq
       clear hK K
       try simp only [zq]
       refine uS 7 rfl (fun wA7 hA7 K hK => ?_)
       go_simp
       refine (QE HF1.out hA7 p1 HLEN).mono ?_
       rintro e wn1 ⟨rfl, hn⟩
       refine hK.out _ _ _ (QM.cls HF1.out (fun _ _ => trivial)) hn ?_
       clear hK K
       try simp only [zq]
       refine uG 8 (some 180) (.agg #[z0, z1]) (QM.cls HF1.out (fun _ _ => trivial)) ?_
       simp only [zq]
       refine uZ rfl (fun w1 hb1 K hK => ?_)
       refine step_store_mid rfl 96 (.tmp 12) (.tmp 180) rfl gf 0 [z0, z1] rfl rfl (fun j hj => ⟨hb1.2.2.isSome (by simpa using hj), hb1.2.2.frozen _⟩) (by rw [qkeySz]; rfl) (by simp [Value.oneCell']) ?_
       have HQ9 := Lh (box_put (CF := [z0, z1]) hb1 HFM9.out HNE9.out rfl)
       obtain ⟨w9, hw9⟩ : ∃ w9, w9 = w1.setCells gf 0 [z0, z1] := ⟨_, rfl⟩
       rw [← hw9] at HQ9 ⊢
       clear hb1 hw9
       refine hK.out _ _ ?_
       clear hK K
       try simp only [Act.put]
       go_wp2_with fail
       go_meet
       exact HQ9.out
     ·
      go_simp
      obtain ⟨gf, hgf, HNE9, HF1, hnq⟩ := box_new (Z := [(0:Int), (0:Int)]) (KT := 96) hA9 HF9.out HB9.out
      rw [hgf]
      clear hgf
      refine hK.out _ _ _ (QM.cls HF1.out (fun _ _ => trivial)) hnq ?_
      clear hnq
      clear hK K
      try simp only [zq]
      refine uS 3 rfl (fun wA3 hA3 K hK => ?_)
      go_simp
      refine (QE HF1.out hA3 p0 HLEN).mono ?_
      rintro e wn0 ⟨rfl, hn⟩
      refine hK.out _ _ _ (QM.cls HF1.out (fun _ _ => trivial)) hn ?_
      clear hK K
      try simp only [zq]
      refine uS 7 rfl (fun wA7 hA7 K hK => ?_)
      go_simp
      refine (QE HF1.out hA7 p1 HLEN).mono ?_
      rintro e wn1 ⟨rfl, hn⟩
      refine hK.out _ _ _ (QM.cls HF1.out (fun _ _ => trivial)) hn ?_
      clear hK K
      try simp only [zq]
      refine uG 8 (some 180) (.agg #[z0, z1]) (QM.cls HF1.out (fun _ _ => trivial)) ?_
      simp only [zq]
      refine uZ rfl (fun w1 hb1 K hK => ?_)
      refine step_store_mid rfl 96 (.tmp 12) (.tmp 180) rfl gf 0 [z0, z1] rfl rfl (fun j hj => ⟨hb1.2.2.isSome (by simpa using hj), hb1.2.2.frozen _⟩) (by rw [qkeySz]; rfl) (by simp [Value.oneCell']) ?_
      have HQ9 := Lh (box_put (CF := [z0, z1]) hb1 HFM9.out HNE9.out rfl)
      obtain ⟨w9, hw9⟩ : ∃ w9, w9 = w1.setCells gf 0 [z0, z1] := ⟨_, rfl⟩
      rw [← hw9] at HQ9 ⊢
      clear hb1 hw9
      refine hK.out _ _ ?_
      clear hK K
      try simp only [Act.put]
      go_wp2_with fail
      go_meet
      exact HQ9.out
    case rest =>
     obtain ⟨gf, rfl, hq, h1, h2, h3, h4⟩ := hcut
     have HGF := Lh (⟨h1, h2, h3, h4⟩ : _ ∧ _ ∧ _ ∧ _)
     clear h1 h2 h3 h4
     have HOB : Hid (∀ k, (Value.slice a0 n0 c0).ownBlock = some k → k < gf) := fun k hk => by have := HLT9.out k hk; have := HGF.out; omega
     have HQB2 := Lh (box_row hq HX9.out)
     clear hq
     go_upto_region 25 with fail
     have HFL : Hid (∀ u D, Firm (fun k => k = g) (LB (BM M gf 96 [z0, z1]) ga 41 C 13 (.slice a0 n0 c0) BiT.vs 5 110 gb u D)) := fun u D => LB.firm (BM.firm (FMg HFM.out) HGF.out.1) HNE.out.1 (by have := HNE.out; omega)
     have HCL : Hid (∀ t u D, Cls (fun x => x.cell? ⟨ga, 13, none⟩ = some (.slice a0 n0 c0) ∧ HT x gf 96 [z0, z1]) (QM w g B v t (LB (BM M gf 96 [z0, z1]) ga 41 C 13 (.slice a0 n0 c0) BiT.vs 5 110 gb u D))) := fun t u D => QM.cls (HFL.out _ _) (fun x hx => ⟨hx.2.1.cell (j := 13) (set_at HC.out _), hx.1.2⟩)
     refine wp_region_uni (S0 := fun x => x.cell? ⟨ga, 13, none⟩ = some (.slice a0 n0 c0) ∧ HT x gf 96 [z0, z1]) (S := QM w g B v t2 (LB (BM M gf 96 [z0, z1]) ga 41 C 13 (.slice a0 n0 c0) BiT.vs 5 110 gb (.slice a0 n0 c0) L)) 19 (by kernel_rfl) (QM.below (HFL.out _ _) HQB2.out (Below.refl _ _).drew) ?_
     refine uP 1 [(0, some 181, .pointer (some ⟨ga, 13, none⟩))] (HCL.out _ _ _) ?_
     refine uL 1 (some 182) (.slice a0 n0 c0) (HCL.out _ _ _) (p := ⟨ga, 13, none⟩) (fun w hSw => hSw.1) ?_
     simp only [zq]
     refine uO 2 (some 183) (.agg #[z0, z1]) (HCL.out _ _ _) (fun _ ho => by cases ho; exact .inl ⟨rfl, fun w hSw => eff_load_row 96 (.tmp 12) rfl gf rfl _ _ hSw.2 Tryz.underlying96 rfl (by rw [qkeySz]; rfl)⟩) ?_
     refine uP 9 [(3, some 184, .pointer (some ⟨g, 0, none⟩)), (4, some 185, .pointer (some ⟨g, 0, none⟩)), (5, some 186, .pointer (some ⟨g, 0, none⟩)), (7, some 188, .pointer (some ⟨g, 0, none⟩)), (8, some 189, .pointer (some ⟨g, 0, none⟩)), (9, some 190, .pointer (some ⟨g, 0, none⟩)), (11, some 192, .pointer (some ⟨g, 0, none⟩)), (12, some 193, .pointer (some ⟨g, 0, none⟩)), (13, some 194, .pointer (some ⟨g, 0, none⟩))] (HCL.out _ _ _) ?_
     simp only [zq]
     refine uS 6 rfl (fun wA6 hA6 K hK => ?_)
     go_simp
     refine (QE (HFL.out _ _) hA6 p2 HLEN).mono ?_
     rintro e wn0 ⟨rfl, hn⟩
     refine hK.out _ _ _ (HCL.out _ _ _) hn ?_
     clear hK K
     try simp only [zq]
     refine uS 10 rfl (fun wA10 hA10 K hK => ?_)
     go_simp
     refine (QE (HFL.out _ _) hA10 p3 HLEN).mono ?_
     rintro e wn1 ⟨rfl, hn⟩
     refine hK.out _ _ _ (HCL.out _ _ _) hn ?_
     clear hK K
     try simp only [zq]
     refine uS 14 rfl (fun wA14 hA14 K hK => ?_)
     go_simp
     refine (QE (HFL.out _ _) hA14 p4 HLEN).mono ?_
     rintro e wn2 ⟨rfl, hn⟩
     refine hK.out _ _ _ (HCL.out _ _ _) hn ?_
     clear hK K
     try simp only [zq]
     refine uG 15 (some 196) (.agg #[z0, z1, z2, z3, z4]) (HCL.out _ _ _) ?_
     simp only [zq]
     refine uS 16 rfl (fun wA16 hA16 K hK => ?_)
     go_simp
     refine hK.out _ _ (fun x => QM w g B v t5 (LB (BM M gf 96 [z0, z1]) ga 41 C 13 (.slice a0 n0 c0) BiT.vs 5 110 gb (.slice a0 n0 c0) L) x ∧ Rs BiT.vs 5 x (.slice (some ⟨wA16.heap.size, 0, none⟩) 1 1) [(⟨z0, z1, z2, z3, z4⟩ : BiT)]) (Cls.and (HCL.out _ _ _) (fun _ _ h hb => Rs.mono h hb)) ⟨QM.below (HFL.out _ _) hA16 (Bn), Rs.one BiT.len wA16 (⟨z0, z1, z2, z3, z4⟩ : BiT) 110⟩ ?_
     clear hK K
     try simp only [zq]
     refine uS 17 rfl (fun wA17 hA17 K hK => ?_)
     have hbase : gb ≤ wA17.heap.size := HB.out _ hA17.1.2.1.1
     refine step_append_rows (v := .slice a0 n0 c0) (vx := .slice (some ⟨wA16.heap.size, 0, none⟩) 1 1) rfl (.tmp 182) (.tmp 197) 38 rfl (L := L) (M := [(⟨z0, z1, z2, z3, z4⟩ : BiT)]) (base := gb) elem_bid rfl rfl hA17.1.2.2.2 hA17.2 BiT.one (loop_le (BY := 40) HLL HMN hk (by decide)) (by decide) hbase ?_
     intro a7 n7 c7 w7 Hn7 ho7 hg7 hat7 hb7
     have HQ7 := Lh (row_appB hA17.1 HFM.out HNE.out HOB.out hg7 ho7)
     clear ho7 hg7 hat7 hb7 Hn7 hbase
     refine hK.out _ _ _ (HCL.out _ _ _) HQ7.out ?_
     clear HQ7
     clear hK K
     try simp only [zq]
     refine uP 1 [(18, some 199, .pointer (some ⟨ga, 13, none⟩))] (HCL.out _ _ _) ?_
     simp only [zq]
     refine uZ rfl (fun w1 hb1 K hK => ?_)
     have hcx := hb1.2.2.1.cell (j := 13) (set_at HC.out _)
     have hfx := hb1.2.2.1.frozen 13
     have HQ9 := Lh (row_put (LB.unbox hb1) HFM.out HNE.out)
     clear hb1
     go_simp
     refine hK.out _ _ ?_
     clear hK K
     try simp only [Act.put]
     go_wp2_with fail
     first
      | exact ⟨⟨k + 1, a7, n7, c7, by omega, go_num_sub hltN, by rw [HN1.out.1, HN1.out.2]; exact HQ9.out⟩, by simp [intOf]; omega⟩
      | ((repeat apply Exists.intro); exact ⟨⟨k + 1, a7, n7, c7, by omega, go_num_sub hltN, by rw [HN1.out.1, HN1.out.2]; exact HQ9.out⟩, rfl⟩)
   ·
    have hz1 : (b == 0) = false := by simpa using hz
    have HE := Lh (HQL.out (.inr hz))
    clear hz
    go_wp2_with fail
    exact LpP.mk ⟨_, _, _, _, _, HE.out, HQB.out⟩
  ·
   obtain rfl : k = N := by omega
   have HE := Lh (HQL.out (.inl rfl))
   have hneg : ¬ (0 : Int) < (k : Int) - (k : Int) := by omega
   go_wp2_with fail
   exact LpP.mk ⟨_, _, _, _, _, HE.out, HQB.out⟩
end Cam
