import Derived.Test.YtgeclnjkkjmbaaaGreatYpLz
/- cambistref24: R.roll: its loops. -/
namespace Cam
open Go Go.RowKit Go.Proofs
set_option linter.unusedVariables false
set_option linter.unusedSimpArgs false
set_option maxRecDepth 100000
set_option maxHeartbeats 6400000
variable {V0 V1 V2 V3 V4 V5 V6 V7 V8 V9 Va Vb Vc Vd Ve Vf Vg Vh Vi Vj Vk Vl Vm Vn Vo Vp Vq Vr Vs Vt Vu Vv Vw Vx Vy Vz V10 V11 V12 V13 V14 V15 V16 V17 V18 V19 V1a V1b V1c V1d V1e V1f V1g V1h V1i V1j V1k V1l V1m V1n V1o V1p V1q V1r V1s V1t V1u V1v V1w V1x V1y V1z V20 V21 V22 V23 V24 V25 V26 V27 V28 V29 V2a V2b V2c V2d V2e V2f V2g V2h V2i V2j V2k V2l V2m V2n V2o V2p V2q V2r V2s V2t V2u V2v V2w V2x V2y V2z V30 V31 V32 V33 V34 V35 V36 V37 V38 V39 V3a V3b V3c V3d V3e V3f V3g : Value}
theorem rs_mem {w w1 : World} {g ga gb N : Nat} {B : List UInt8} {v : Value} {s mt : RS} {M : World → Prop} {C : List Value} {K : Act → World → Prop} {R : Ending → World → Prop} (HLEN : Hid (B.length ≤ 70368744177664)) (HNE : Hid (g < ga ∧ w.heap.size ≤ ga ∧ ga < gb)) (HFM : Hid (Firm (fun k => k = g ∨ k = ga ∨ gb ≤ k) M)) (HB : Hid (∀ x, M x → gb ≤ x.heap.size)) (HC : Hid (0 < C.length)) (HMN : Hid ((mny s).1.toNat = N ∧ mt = (mny s).2 ∧ N ≤ 1024)) (HQ1 : Hid (QM w g B v mt (LB M ga 28 C 0 (.slice none 0 0) MbT.vs 3 86 gb (.slice none 0 0) []) w1))
  (hQ : ∀ (X4 Xa Xb Xc Xd Xe Xf Xg Xh Xi Xj Xk Xl Xm Xn Xo Xp Xq Xr Xs Xt Xu Xv Xw Xx Xy Xz X10 X11 X12 X13 : Value) (wx : World), LpP MbT.vs 3 rdMbT w g ga gb 0 B v s M 28 86 C wx → K { tmps := #[.pointer (some ⟨g, 0, none⟩), V1, V2, .pointer (some ⟨ga, 0, none⟩), X4, V5, V6, V7, V8, V9, Xa, Xb, Xc, Xd, Xe, Xf, Xg, Xh, Xi, Xj, Xk, Xl, Xm, Xn, Xo, Xp, Xq, Xr, Xs, Xt, Xu, Xv, Xw, Xx, Xy, Xz, X10, X11, X12, X13, V14, V15, V16, V17, V18, V19, V1a, V1b, V1c, V1d, V1e, V1f, V1g, V1h, V1i, V1j, V1k, V1l, V1m, V1n, V1o, V1p, V1q, V1r, V1s, V1t, V1u, V1v, V1w, V1x, V1y, V1z, V20, V21, V22, V23, V24, V25, V26, V27, V28, V29, V2a, V2b, V2c, V2d, V2e, V2f, V2g, V2h, V2i, V2j, V2k, V2l, V2m, V2n, V2o, V2p, V2q, V2r, V2s, V2t, V2u, V2v, V2w, V2x, V2y, V2z, V30, V31, V32, V33, V34, V35, V36, V37, V38, V39, V3a, V3b, V3c, V3d, V3e, V3f, V3g], defers := [] } wx) :
  Code.wp Tryz.prog (codeAt [true, true, false, true] Tryz.f35) (Exit.then K (bodyPost Tryz.prog Tryz.f35 R)) { tmps := #[.pointer (some ⟨g, 0, none⟩), V1, V2, .pointer (some ⟨ga, 0, none⟩), .int .i64 (N : Int), V5, V6, V7, V8, V9, Va, Vb, Vc, Vd, Ve, Vf, Vg, Vh, Vi, Vj, Vk, Vl, Vm, Vn, Vo, Vp, Vq, Vr, Vs, Vt, Vu, Vv, Vw, Vx, Vy, Vz, V10, V11, V12, V13, V14, V15, V16, V17, V18, V19, V1a, V1b, V1c, V1d, V1e, V1f, V1g, V1h, V1i, V1j, V1k, V1l, V1m, V1n, V1o, V1p, V1q, V1r, V1s, V1t, V1u, V1v, V1w, V1x, V1y, V1z, V20, V21, V22, V23, V24, V25, V26, V27, V28, V29, V2a, V2b, V2c, V2d, V2e, V2f, V2g, V2h, V2i, V2j, V2k, V2l, V2m, V2n, V2o, V2p, V2q, V2r, V2s, V2t, V2u, V2v, V2w, V2x, V2y, V2z, V30, V31, V32, V33, V34, V35, V36, V37, V38, V39, V3a, V3b, V3c, V3d, V3e, V3f, V3g], defers := [] } w1 := by
 refine wp_at (c := _) rfl (.r (.r (.l (.r (.nil))))) ?_
 go_wp2_with fail
 go_loopw [4] (fun v4 wr => ∃ (k : Nat) (a0 : Option Addr) (n0 c0 : Nat), k ≤ N ∧ v4 = .int .i64 ((N : Int) - k) ∧ QM w g B v (rRs rdMbT k mt).2 (LB M ga 28 C 0 (.slice a0 n0 c0) MbT.vs 3 86 gb (.slice a0 n0 c0) (rRs rdMbT k mt).1) wr) (fun i _ => (intOf i).toNat)
 case atStart => exact ⟨0, none, 0, 0, Nat.zero_le _, by simp, HQ1.out⟩
 case round =>
  obtain ⟨k, a0, n0, c0, hk, rfl, hq⟩ := hrel
  obtain ⟨t0, L, b, HT0, hcb, HQB, HQL, HLL⟩ := loop_rd HMN hk hq
  clear hq
  by_cases hltN : k < N
  ·
   have hpos : (0 : Int) < (N : Int) - (k : Int) := by omega
   have hup : (N : Int) - (k : Int) ≤ 1024 := by have := HMN.out.2.2; omega
   by_cases hz : b = 0
   ·
    subst hz
    obtain ⟨z0, z1, z2, t1, t2, t3, p0, p1, p2, HP⟩ := rI3 t0
    have HN1 := loop_nx HT0 (show rdMbT t0 = ((⟨z0, z1, z2⟩ : MbT), t3) by unfold rdMbT; rw [HP.out]; rfl)
    go_upto_region 5 with fail
    have HFL : Hid (∀ u D, Firm (fun k => k = g) (LB M ga 28 C 0 (.slice a0 n0 c0) MbT.vs 3 86 gb u D)) := fun u D => LB.firm (FMg HFM.out) HNE.out.1 (by have := HNE.out; omega)
    have HCL : Hid (∀ t u D, Cls (fun x => x.cell? ⟨ga, 0, none⟩ = some (.slice a0 n0 c0)) (QM w g B v t (LB M ga 28 C 0 (.slice a0 n0 c0) MbT.vs 3 86 gb u D))) := fun t u D => QM.cls (HFL.out _ _) (fun x hx => hx.2.1.cell (j := 0) (set_at HC.out _))
    refine wp_region_uni (S0 := fun x => x.cell? ⟨ga, 0, none⟩ = some (.slice a0 n0 c0)) (S := QM w g B v t0 (LB M ga 28 C 0 (.slice a0 n0 c0) MbT.vs 3 86 gb (.slice a0 n0 c0) L)) 18 (by kernel_rfl) (QM.below (HFL.out _ _) HQB.out (Below.refl _ _).drew) ?_
    refine uP 1 [(0, some 22, .pointer (some ⟨ga, 0, none⟩))] (HCL.out _ _ _) ?_
    refine uL 1 (some 23) (.slice a0 n0 c0) (HCL.out _ _ _) (p := ⟨ga, 0, none⟩) (fun w hSw => hSw) ?_
    refine uP 9 [(2, some 24, .pointer (some ⟨g, 0, none⟩)), (3, some 25, .pointer (some ⟨g, 0, none⟩)), (4, some 26, .pointer (some ⟨g, 0, none⟩)), (6, some 28, .pointer (some ⟨g, 0, none⟩)), (7, some 29, .pointer (some ⟨g, 0, none⟩)), (8, some 30, .pointer (some ⟨g, 0, none⟩)), (10, some 32, .pointer (some ⟨g, 0, none⟩)), (11, some 33, .pointer (some ⟨g, 0, none⟩)), (12, some 34, .pointer (some ⟨g, 0, none⟩))] (HCL.out _ _ _) ?_
    simp only [zq]
    refine uS 5 rfl (fun wA5 hA5 K hK => ?_)
    go_simp
    refine (QE (HFL.out _ _) hA5 p0 HLEN).mono ?_
    rintro e wn0 ⟨rfl, hn⟩
    refine hK.out _ _ _ (HCL.out _ _ _) hn ?_
    clear hK K
    try simp only [zq]
    refine uS 9 rfl (fun wA9 hA9 K hK => ?_)
    go_simp
    refine (QE (HFL.out _ _) hA9 p1 HLEN).mono ?_
    rintro e wn1 ⟨rfl, hn⟩
    refine hK.out _ _ _ (HCL.out _ _ _) hn ?_
    clear hK K
    try simp only [zq]
    refine uS 13 rfl (fun wA13 hA13 K hK => ?_)
    go_simp
    refine (QE (HFL.out _ _) hA13 p2 HLEN).mono ?_
    rintro e wn2 ⟨rfl, hn⟩
    refine hK.out _ _ _ (HCL.out _ _ _) hn ?_
    clear hK K
    try simp only [zq]
    refine uG 14 (some 36) (.agg #[z0, z1, z2]) (HCL.out _ _ _) ?_
    simp only [zq]
    refine uS 15 rfl (fun wA15 hA15 K hK => ?_)
    go_simp
    refine hK.out _ _ (fun x => QM w g B v t3 (LB M ga 28 C 0 (.slice a0 n0 c0) MbT.vs 3 86 gb (.slice a0 n0 c0) L) x ∧ Rs MbT.vs 3 x (.slice (some ⟨wA15.heap.size, 0, none⟩) 1 1) [(⟨z0, z1, z2⟩ : MbT)]) (Cls.and (HCL.out _ _ _) (fun _ _ h hb => Rs.mono h hb)) ⟨QM.below (HFL.out _ _) hA15 (Bn), Rs.one MbT.len wA15 (⟨z0, z1, z2⟩ : MbT) 86⟩ ?_
    clear hK K
    try simp only [zq]
    refine uS 16 rfl (fun wA16 hA16 K hK => ?_)
    have hbase : gb ≤ wA16.heap.size := HB.out _ hA16.1.2.1
    refine step_append_rows (v := .slice a0 n0 c0) (vx := .slice (some ⟨wA15.heap.size, 0, none⟩) 1 1) rfl (.tmp 23) (.tmp 37) 24 rfl (L := L) (M := [(⟨z0, z1, z2⟩ : MbT)]) (base := gb) elem_mem rfl rfl hA16.1.2.2.2 hA16.2 MbT.one (loop_le (BY := 24) HLL HMN hk (by decide)) (by decide) hbase ?_
    intro a7 n7 c7 w7 Hn7 ho7 hg7 hat7 hb7
    have HQ7 := Lh (row_app hA16.1 HFM.out HNE.out hg7 ho7)
    clear ho7 hg7 hat7 hb7 Hn7 hbase
    refine hK.out _ _ _ (HCL.out _ _ _) HQ7.out ?_
    clear HQ7
    clear hK K
    try simp only [zq]
    refine uP 1 [(17, some 39, .pointer (some ⟨ga, 0, none⟩))] (HCL.out _ _ _) ?_
    simp only [zq]
    refine uZ rfl (fun w1 hb1 K hK => ?_)
    have hcx := hb1.2.2.1.cell (j := 0) (set_at HC.out _)
    have hfx := hb1.2.2.1.frozen 0
    have HQ9 := Lh (row_put hb1 HFM.out HNE.out)
    clear hb1
    go_simp
    refine hK.out _ _ ?_
    clear hK K
    try simp only [Act.put]
    go_wp2_with fail
    first
     | exact ⟨⟨k + 1, a7, n7, c7, by omega, go_num_sub hltN, by rw [HN1.out.1, HN1.out.2]; exact HQ9.out⟩, by simp [intOf]; omega⟩
     | ((repeat apply Exists.intro); exact ⟨⟨k + 1, a7, n7, c7, by omega, go_num_sub hltN, by rw [HN1.out.1, HN1.out.2]; exact HQ9.out⟩, rfl⟩)
   ·
    have hz1 : (b == 0) = false := by simpa using hz
    have HE := Lh (HQL.out (.inr hz))
    clear hz
    go_wp2_with fail
    exact LpP.mk ⟨_, _, _, _, _, HE.out, HQB.out⟩
  ·
   obtain rfl : k = N := by omega
   have HE := Lh (HQL.out (.inl rfl))
   have hneg : ¬ (0 : Int) < (k : Int) - (k : Int) := by omega
   go_wp2_with fail
   exact LpP.mk ⟨_, _, _, _, _, HE.out, HQB.out⟩
theorem rs_ins {w w1 : World} {g ga gb N : Nat} {B : List UInt8} {v : Value} {s mt : RS} {M : World → Prop} {C : List Value} {K : Act → World → Prop} {R : Ending → World → Prop} (HLEN : Hid (B.length ≤ 70368744177664)) (HNE : Hid (g < ga ∧ w.heap.size ≤ ga ∧ ga < gb)) (HFM : Hid (Firm (fun k => k = g ∨ k = ga ∨ gb ≤ k) M)) (HB : Hid (∀ x, M x → gb ≤ x.heap.size)) (HC : Hid (1 < C.length)) (HMN : Hid ((mny s).1.toNat = N ∧ mt = (mny s).2 ∧ N ≤ 1024)) (HQ1 : Hid (QM w g B v mt (LB M ga 28 C 1 (.slice none 0 0) InT.vs 12 88 gb (.slice none 0 0) []) w1))
  (hQ : ∀ (X5 X6 X16 X17 X18 X19 X1a X1b X1c X1d X1e X1f X1g X1h X1i X1j X1k X1l X1m X1n X1o X1p X1q X1r X1s X1t X1u X1v X1w X1x X1y X1z X20 X21 X22 X23 X24 X25 X26 X27 X28 X29 X2a X2b X2c X2d X2e X2f : Value) (wx : World), LpP InT.vs 12 rdInT w g ga gb 1 B v s M 28 88 C wx → K { tmps := #[.pointer (some ⟨g, 0, none⟩), V1, V2, .pointer (some ⟨ga, 0, none⟩), V4, X5, X6, V7, V8, V9, Va, Vb, Vc, Vd, Ve, Vf, Vg, Vh, Vi, Vj, Vk, Vl, Vm, Vn, Vo, Vp, Vq, Vr, Vs, Vt, Vu, Vv, Vw, Vx, Vy, Vz, V10, V11, V12, V13, V14, V15, X16, X17, X18, X19, X1a, X1b, X1c, X1d, X1e, X1f, X1g, X1h, X1i, X1j, X1k, X1l, X1m, X1n, X1o, X1p, X1q, X1r, X1s, X1t, X1u, X1v, X1w, X1x, X1y, X1z, X20, X21, X22, X23, X24, X25, X26, X27, X28, X29, X2a, X2b, X2c, X2d, X2e, X2f, V2g, V2h, V2i, V2j, V2k, V2l, V2m, V2n, V2o, V2p, V2q, V2r, V2s, V2t, V2u, V2v, V2w, V2x, V2y, V2z, V30, V31, V32, V33, V34, V35, V36, V37, V38, V39, V3a, V3b, V3c, V3d, V3e, V3f, V3g], defers := [] } wx) :
  Code.wp Tryz.prog (codeAt [true, true, true, false, true] Tryz.f35) (Exit.then K (bodyPost Tryz.prog Tryz.f35 R)) { tmps := #[.pointer (some ⟨g, 0, none⟩), V1, V2, .pointer (some ⟨ga, 0, none⟩), V4, .int .i64 (N : Int), V6, V7, V8, V9, Va, Vb, Vc, Vd, Ve, Vf, Vg, Vh, Vi, Vj, Vk, Vl, Vm, Vn, Vo, Vp, Vq, Vr, Vs, Vt, Vu, Vv, Vw, Vx, Vy, Vz, V10, V11, V12, V13, V14, V15, V16, V17, V18, V19, V1a, V1b, V1c, V1d, V1e, V1f, V1g, V1h, V1i, V1j, V1k, V1l, V1m, V1n, V1o, V1p, V1q, V1r, V1s, V1t, V1u, V1v, V1w, V1x, V1y, V1z, V20, V21, V22, V23, V24, V25, V26, V27, V28, V29, V2a, V2b, V2c, V2d, V2e, V2f, V2g, V2h, V2i, V2j, V2k, V2l, V2m, V2n, V2o, V2p, V2q, V2r, V2s, V2t, V2u, V2v, V2w, V2x, V2y, V2z, V30, V31, V32, V33, V34, V35, V36, V37, V38, V39, V3a, V3b, V3c, V3d, V3e, V3f, V3g], defers := [] } w1 := by
 refine wp_at (c := _) rfl (.r (.r (.r (.l (.r (.nil)))))) ?_
 go_wp2_with fail
 go_loopw [5] (fun v4 wr => ∃ (k : Nat) (a0 : Option Addr) (n0 c0 : Nat), k ≤ N ∧ v4 = .int .i64 ((N : Int) - k) ∧ QM w g B v (rRs rdInT k mt).2 (LB M ga 28 C 1 (.slice a0 n0 c0) InT.vs 12 88 gb (.slice a0 n0 c0) (rRs rdInT k mt).1) wr) (fun i _ => (intOf i).toNat)
 case atStart => exact ⟨0, none, 0, 0, Nat.zero_le _, by simp, HQ1.out⟩
 case round =>
  obtain ⟨k, a0, n0, c0, hk, rfl, hq⟩ := hrel
  obtain ⟨t0, L, b, HT0, hcb, HQB, HQL, HLL⟩ := loop_rd HMN hk hq
  clear hq
  by_cases hltN : k < N
  ·
   have hpos : (0 : Int) < (N : Int) - (k : Int) := by omega
   have hup : (N : Int) - (k : Int) ≤ 1024 := by have := HMN.out.2.2; omega
   by_cases hz : b = 0
   ·
    subst hz
    obtain ⟨z0, z1, z2, z3, z4, z5, t1, t2, t3, t4, t5, t6, p0, p1, p2, p3, p4, p5, HP⟩ := rI6 t0
    obtain ⟨gb9, M9, HFM9, HF9, HB9, HX9, HQ9x, HNEF, HLT9⟩ := box_in HQB.out HFM.out HB.out HNE.out
    go_upto_region 9 with fail
    go_cut [6] from 42 to 87 (fun v6 wx => BoxP w g B v t6 M9 88 [z0, z1, z2, z3, z4, z5, (0:Int), (0:Int), (0:Int), (0:Int), (0:Int), (0:Int)] gb9 v6 wx)
    case first =>
     refine wp_region_uni (S0 := fun _ => True) (S := QM w g B v t0 M9) 26 (by kernel_rfl) (QM.below HF9.out HQ9x.out (Below.refl _ _).drew) ?_
     refine uP 18 [(0, some 54, .pointer (some ⟨g, 0, none⟩)), (1, some 55, .pointer (some ⟨g, 0, none⟩)), (2, some 56, .pointer (some ⟨g, 0, none⟩)), (4, some 58, .pointer (some ⟨g, 0, none⟩)), (5, some 59, .pointer (some ⟨g, 0, none⟩)), (6, some 60, .pointer (some ⟨g, 0, none⟩)), (8, some 62, .pointer (some ⟨g, 0, none⟩)), (9, some 63, .pointer (some ⟨g, 0, none⟩)), (10, some 64, .pointer (some ⟨g, 0, none⟩)), (12, some 66, .pointer (some ⟨g, 0, none⟩)), (13, some 67, .pointer (some ⟨g, 0, none⟩)), (14, some 68, .pointer (some ⟨g, 0, none⟩)), (16, some 70, .pointer (some ⟨g, 0, none⟩)), (17, some 71, .pointer (some ⟨g, 0, none⟩)), (18, some 72, .pointer (some ⟨g, 0, none⟩)), (20, some 74, .pointer (some ⟨g, 0, none⟩)), (21, some 75, .pointer (some ⟨g, 0, none⟩)), (22, some 76, .pointer (some ⟨g, 0, none⟩))] (QM.cls HF9.out (fun _ _ => trivial)) ?_
     simp only [zq]
     refine wpAnyU_ready (rs := [3, 25]) (by kernel_rfl) (by simp) ?_
     refine uD rfl (fun wA3 hA3 K hK => ?_) (uD rfl (fun wA25 hA25 K hK => ?_) AllReadyU.nil)
     ·
      go_simp
      refine (QE HF9.out hA3 p0 HLEN).mono ?_
      rintro e wn0 ⟨rfl, hn⟩
      refine hK.out _ _ _ (QM.cls HF9.out (fun _ _ => trivial)) hn ?_
      clear hK K
      try simp only [zq]
      refine wpAnyU_ready (rs := [7, 25]) (by kernel_rfl) (by simp) ?_
      refine uD rfl (fun wA7 hA7 K hK => ?_) (uD rfl (fun wA25 hA25 K hK => ?_) AllReadyU.nil)
      ·
       go_simp
       refine (QE HF9.out hA7 p1 HLEN).mono ?_
       rintro e wn1 ⟨rfl, hn⟩
       refine hK.out _ _ _ (QM.cls HF9.out (fun _ _ => trivial)) hn ?_
       clear hK K
       try simp only [zq]
       refine wpAnyU_ready (rs := [11, 25]) (by kernel_rfl) (by simp) ?_
       refine uD rfl (fun wA11 hA11 K hK => ?_) (uD rfl (fun wA25 hA25 K hK => ?_) AllReadyU.nil)
       ·
        go_simp
        refine (QE HF9.out hA11 p2 HLEN).mono ?_
        rintro e wn2 ⟨rfl, hn⟩
        refine hK.out _ _ _ (QM.cls HF9.out (fun _ _ => trivial)) hn ?_
        clear hK K
        try simp only [zq]
        refine wpAnyU_ready (rs := [15, 25]) (by kernel_rfl) (by simp) ?_
        refine uD rfl (fun wA15 hA15 K hK => ?_) (uD rfl (fun wA25 hA25 K hK => ?_) AllReadyU.nil)
        ·
         go_simp
         refine (QE HF9.out hA15 p3 HLEN).mono ?_
         rintro e wn3 ⟨rfl, hn⟩
         refine hK.out _ _ _ (QM.cls HF9.out (fun _ _ => trivial)) hn ?_
         clear hK K
         try simp only [zq]
         refine wpAnyU_ready (rs := [19, 25]) (by kernel_rfl) (by simp) ?_
         refine uD rfl (fun wA19 hA19 K hK => ?_) (uD rfl (fun wA25 hA25 K hK => ?_) AllReadyU.nil)
         ·
          go_simp
          refine (QE HF9.out hA19 p4 HLEN).mono ?_
          rintro e wn4 ⟨rfl, hn⟩
          refine hK.out _ _ _ (QM.cls HF9.out (fun _ _ => trivial)) hn ?_
          clear hK K
          try simp only [zq]
          refine wpAnyU_ready (rs := [23, 25]) (by kernel_rfl) (by simp) ?_
          refine uD rfl (fun wA23 hA23 K hK => ?_) (uD rfl (fun wA25 hA25 K hK => ?_) AllReadyU.nil)
          ·
           go_simp
           refine (QE HF9.out hA23 p5 HLEN).mono ?_
           rintro e wn5 ⟨rfl, hn⟩
           refine hK.out _ _ _ (QM.cls HF9.out (fun _ _ => trivial)) hn ?_
           clear hK K
           try simp only [zq]
           refine uG 24 (some 78) (.agg #[z0, z1, z2, z3, z4, z5, (0:Int), (0:Int), (0:Int), (0:Int), (0:Int), (0:Int)]) (QM.cls HF9.out (fun _ _ => trivial)) ?_
           simp only [zq]
           refine uS 25 rfl (fun wA25 hA25 K hK => ?_)
           go_simp
           obtain ⟨gf, hgf, HNE9, HF1, hnq⟩ := box_new (Z := [(0:Int), (0:Int), (0:Int), (0:Int), (0:Int), (0:Int), (0:Int), (0:Int), (0:Int), (0:Int), (0:Int), (0:Int)]) (KT := 88) hA25 HF9.out HB9.out
           rw [hgf]
           clear hgf
           refine hK.out _ _ _ (QM.cls HF1.out (fun _ _ => trivial)) hnq ?_
           clear hnq
           clear hK K
           try simp only [zq]
           refine uZ rfl (fun w1 hb1 K hK => ?_)
           refine step_store_mid rfl 88 (.tmp 6) (.tmp 78) rfl gf 0 [z0, z1, z2, z3, z4, z5, (0:Int), (0:Int), (0:Int), (0:Int), (0:Int), (0:Int)] rfl rfl (fun j hj => ⟨hb1.2.2.isSome (by simpa using hj), hb1.2.2.frozen _⟩) (by rw [ins_sz]; rfl) (by simp [Value.oneCell']) ?_
           have HQ9 := Lh (box_put (CF := [z0, z1, z2, z3, z4, z5, (0:Int), (0:Int), (0:Int), (0:Int), (0:Int), (0:Int)]) hb1 HFM9.out HNE9.out rfl)
           obtain ⟨w9, hw9⟩ : ∃ w9, w9 = w1.setCells gf 0 [z0, z1, z2, z3, z4, z5, (0:Int), (0:Int), (0:Int), (0:Int), (0:Int), (0:Int)] := ⟨_, rfl⟩
           rw [← hw9] at HQ9 ⊢
           clear hb1 hw9
           refine hK.out _ _ ?_
           clear hK K
           try simp only [Act.put]
           go_wp2_with fail
           go_meet
           exact HQ9.out
          ·
           go_simp
           obtain ⟨gf, hgf, HNE9, HF1, hnq⟩ := box_new (Z := [(0:Int), (0:Int), (0:Int), (0:Int), (0:Int), (0:Int), (0:Int), (0:Int), (0:Int), (0:Int), (0:Int), (0:Int)]) (KT := 88) hA25 HF9.out HB9.out
           rw [hgf]
           clear hgf
           refine hK.out _ _ _ (QM.cls HF1.out (fun _ _ => trivial)) hnq ?_
           clear hnq
           clear hK K
           try simp only [zq]
           refine uS 23 rfl (fun wA23 hA23 K hK => ?_)
           go_simp
           refine (QE HF1.out hA23 p5 HLEN).mono ?_
           rintro e wn5 ⟨rfl, hn⟩
           refine hK.out _ _ _ (QM.cls HF1.out (fun _ _ => trivial)) hn ?_
           clear hK K
           try simp only [zq]
           refine uG 24 (some 78) (.agg #[z0, z1, z2, z3, z4, z5, (0:Int), (0:Int), (0:Int), (0:Int), (0:Int), (0:Int)]) (QM.cls HF1.out (fun _ _ => trivial)) ?_
           simp only [zq]
           refine uZ rfl (fun w1 hb1 K hK => ?_)
           refine step_store_mid rfl 88 (.tmp 6) (.tmp 78) rfl gf 0 [z0, z1, z2, z3, z4, z5, (0:Int), (0:Int), (0:Int), (0:Int), (0:Int), (0:Int)] rfl rfl (fun j hj => ⟨hb1.2.2.isSome (by simpa using hj), hb1.2.2.frozen _⟩) (by rw [ins_sz]; rfl) (by simp [Value.oneCell']) ?_
           have HQ9 := Lh (box_put (CF := [z0, z1, z2, z3, z4, z5, (0:Int), (0:Int), (0:Int), (0:Int), (0:Int), (0:Int)]) hb1 HFM9.out HNE9.out rfl)
           obtain ⟨w9, hw9⟩ : ∃ w9, w9 = w1.setCells gf 0 [z0, z1, z2, z3, z4, z5, (0:Int), (0:Int), (0:Int), (0:Int), (0:Int), (0:Int)] := ⟨_, rfl⟩
           rw [← hw9] at HQ9 ⊢
           clear hb1 hw9
           refine hK.out _ _ ?_
           clear hK K
           try simp only [Act.put]
           go_wp2_with fail
           go_meet
           exact HQ9.out
         ·
          go_simp
          obtain ⟨gf, hgf, HNE9, HF1, hnq⟩ := box_new (Z := [(0:Int), (0:Int), (0:Int), (0:Int), (0:Int), (0:Int), (0:Int), (0:Int), (0:Int), (0:Int), (0:Int), (0:Int)]) (KT := 88) hA25 HF9.out HB9.out
          rw [hgf]
          clear hgf
          refine hK.out _ _ _ (QM.cls HF1.out (fun _ _ => trivial)) hnq ?_
          clear hnq
          clear hK K
          try simp only [zq]
          refine uS 19 rfl (fun wA19 hA19 K hK => ?_)
          go_simp
          refine (QE HF1.out hA19 p4 HLEN).mono ?_
          rintro e wn4 ⟨rfl, hn⟩
          refine hK.out _ _ _ (QM.cls HF1.out (fun _ _ => trivial)) hn ?_
          clear hK K
          try simp only [zq]
          refine uS 23 rfl (fun wA23 hA23 K hK => ?_)
          go_simp
          refine (QE HF1.out hA23 p5 HLEN).mono ?_
          rintro e wn5 ⟨rfl, hn⟩
          refine hK.out _ _ _ (QM.cls HF1.out (fun _ _ => trivial)) hn ?_
          clear hK K
          try simp only [zq]
          refine uG 24 (some 78) (.agg #[z0, z1, z2, z3, z4, z5, (0:Int), (0:Int), (0:Int), (0:Int), (0:Int), (0:Int)]) (QM.cls HF1.out (fun _ _ => trivial)) ?_
          simp only [zq]
          refine uZ rfl (fun w1 hb1 K hK => ?_)
          refine step_store_mid rfl 88 (.tmp 6) (.tmp 78) rfl gf 0 [z0, z1, z2, z3, z4, z5, (0:Int), (0:Int), (0:Int), (0:Int), (0:Int), (0:Int)] rfl rfl (fun j hj => ⟨hb1.2.2.isSome (by simpa using hj), hb1.2.2.frozen _⟩) (by rw [ins_sz]; rfl) (by simp [Value.oneCell']) ?_
          have HQ9 := Lh (box_put (CF := [z0, z1, z2, z3, z4, z5, (0:Int), (0:Int), (0:Int), (0:Int), (0:Int), (0:Int)]) hb1 HFM9.out HNE9.out rfl)
          obtain ⟨w9, hw9⟩ : ∃ w9, w9 = w1.setCells gf 0 [z0, z1, z2, z3, z4, z5, (0:Int), (0:Int), (0:Int), (0:Int), (0:Int), (0:Int)] := ⟨_, rfl⟩
          rw [← hw9] at HQ9 ⊢
          clear hb1 hw9
          refine hK.out _ _ ?_
          clear hK K
          try simp only [Act.put]
          go_wp2_with fail
          go_meet
          exact HQ9.out
        ·
         go_simp
         obtain ⟨gf, hgf, HNE9, HF1, hnq⟩ := box_new (Z := [(0:Int), (0:Int), (0:Int), (0:Int), (0:Int), (0:Int), (0:Int), (0:Int), (0:Int), (0:Int), (0:Int), (0:Int)]) (KT := 88) hA25 HF9.out HB9.out
         rw [hgf]
         clear hgf
         refine hK.out _ _ _ (QM.cls HF1.out (fun _ _ => trivial)) hnq ?_
         clear hnq
         clear hK K
         try simp only [zq]
         refine uS 15 rfl (fun wA15 hA15 K hK => ?_)
         go_simp
         refine (QE HF1.out hA15 p3 HLEN).mono ?_
         rintro e wn3 ⟨rfl, hn⟩
         refine hK.out _ _ _ (QM.cls HF1.out (fun _ _ => trivial)) hn ?_
         clear hK K
         try simp only [zq]
         refine uS 19 rfl (fun wA19 hA19 K hK => ?_)
         go_simp
         refine (QE HF1.out hA19 p4 HLEN).mono ?_
         rintro e wn4 ⟨rfl, hn⟩
         refine hK.out _ _ _ (QM.cls HF1.out (fun _ _ => trivial)) hn ?_
         clear hK K
         try simp only [zq]
         refine uS 23 rfl (fun wA23 hA23 K hK => ?_)
         go_simp
         refine (QE HF1.out hA23 p5 HLEN).mono ?_
         rintro e wn5 ⟨rfl, hn⟩
         refine hK.out _ _ _ (QM.cls HF1.out (fun _ _ => trivial)) hn ?_
         clear hK K
         try simp only [zq]
         refine uG 24 (some 78) (.agg #[z0, z1, z2, z3, z4, z5, (0:Int), (0:Int), (0:Int), (0:Int), (0:Int), (0:Int)]) (QM.cls HF1.out (fun _ _ => trivial)) ?_
         simp only [zq]
         refine uZ rfl (fun w1 hb1 K hK => ?_)
         refine step_store_mid rfl 88 (.tmp 6) (.tmp 78) rfl gf 0 [z0, z1, z2, z3, z4, z5, (0:Int), (0:Int), (0:Int), (0:Int), (0:Int), (0:Int)] rfl rfl (fun j hj => ⟨hb1.2.2.isSome (by simpa using hj), hb1.2.2.frozen _⟩) (by rw [ins_sz]; rfl) (by simp [Value.oneCell']) ?_
         have HQ9 := Lh (box_put (CF := [z0, z1, z2, z3, z4, z5, (0:Int), (0:Int), (0:Int), (0:Int), (0:Int), (0:Int)]) hb1 HFM9.out HNE9.out rfl)
         obtain ⟨w9, hw9⟩ : ∃ w9, w9 = w1.setCells gf 0 [z0, z1, z2, z3, z4, z5, (0:Int), (0:Int), (0:Int), (0:Int), (0:Int), (0:Int)] := ⟨_, rfl⟩
         rw [← hw9] at HQ9 ⊢
         clear hb1 hw9
         refine hK.out _ _ ?_
         clear hK K
         try simp only [Act.put]
         go_wp2_with fail
         go_meet
         exact HQ9.out
       ·
        go_simp
        obtain ⟨gf, hgf, HNE9, HF1, hnq⟩ := box_new (Z := [(0:Int), (0:Int), (0:Int), (0:Int), (0:Int), (0:Int), (0:Int), (0:Int), (0:Int), (0:Int), (0:Int), (0:Int)]) (KT := 88) hA25 HF9.out HB9.out
        rw [hgf]
        clear hgf
        refine hK.out _ _ _ (QM.cls HF1.out (fun _ _ => trivial)) hnq ?_
        clear hnq
        clear hK K
        try simp only [zq]
        refine uS 11 rfl (fun wA11 hA11 K hK => ?_)
        go_simp
        refine (QE HF1.out hA11 p2 HLEN).mono ?_
        rintro e wn2 ⟨rfl, hn⟩
        refine hK.out _ _ _ (QM.cls HF1.out (fun _ _ => trivial)) hn ?_
        clear hK K
        try simp only [zq]
        refine uS 15 rfl (fun wA15 hA15 K hK => ?_)
        go_simp
        refine (QE HF1.out hA15 p3 HLEN).mono ?_
        rintro e wn3 ⟨rfl, hn⟩
        refine hK.out _ _ _ (QM.cls HF1.out (fun _ _ => trivial)) hn ?_
        clear hK K
        try simp only [zq]
        refine uS 19 rfl (fun wA19 hA19 K hK => ?_)
        go_simp
        refine (QE HF1.out hA19 p4 HLEN).mono ?_
        rintro e wn4 ⟨rfl, hn⟩
        refine hK.out _ _ _ (QM.cls HF1.out (fun _ _ => trivial)) hn ?_
        clear hK K
        try simp only [zq]
        refine uS 23 rfl (fun wA23 hA23 K hK => ?_)
        go_simp
        refine (QE HF1.out hA23 p5 HLEN).mono ?_
        rintro e wn5 ⟨rfl, hn⟩
        refine hK.out _ _ _ (QM.cls HF1.out (fun _ _ => trivial)) hn ?_
        clear hK K
        try simp only [zq]
        refine uG 24 (some 78) (.agg #[z0, z1, z2, z3, z4, z5, (0:Int), (0:Int), (0:Int), (0:Int), (0:Int), (0:Int)]) (QM.cls HF1.out (fun _ _ => trivial)) ?_
        simp only [zq]
        refine uZ rfl (fun w1 hb1 K hK => ?_)
        refine step_store_mid rfl 88 (.tmp 6) (.tmp 78) rfl gf 0 [z0, z1, z2, z3, z4, z5, (0:Int), (0:Int), (0:Int), (0:Int), (0:Int), (0:Int)] rfl rfl (fun j hj => ⟨hb1.2.2.isSome (by simpa using hj), hb1.2.2.frozen _⟩) (by rw [ins_sz]; rfl) (by simp [Value.oneCell']) ?_
        have HQ9 := Lh (box_put (CF := [z0, z1, z2, z3, z4, z5, (0:Int), (0:Int), (0:Int), (0:Int), (0:Int), (0:Int)]) hb1 HFM9.out HNE9.out rfl)
        obtain ⟨w9, hw9⟩ : ∃ w9, w9 = w1.setCells gf 0 [z0, z1, z2, z3, z4, z5, (0:Int), (0:Int), (0:Int), (0:Int), (0:Int), (0:Int)] := ⟨_, rfl⟩
        rw [← hw9] at HQ9 ⊢
        clear hb1 hw9
        refine hK.out _ _ ?_
        clear hK K
        try simp only [Act.put]
        go_wp2_with fail
        go_meet
        exact HQ9.out
      ·
       go_simp
       obtain ⟨gf, hgf, HNE9, HF1, hnq⟩ := box_new (Z := [(0:Int), (0:Int), (0:Int), (0:Int), (0:Int), (0:Int), (0:Int), (0:Int), (0:Int), (0:Int), (0:Int), (0:Int)]) (KT := 88) hA25 HF9.out HB9.out
       rw [hgf]
       clear hgf
       refine hK.out _ _ _ (QM.cls HF1.out (fun _ _ => trivial)) hnq ?_
       clear hnq
       clear hK K
       try simp only [zq]
       refine uS 7 rfl (fun wA7 hA7 K hK => ?_)
       go_simp
       refine (QE HF1.out hA7 p1 HLEN).mono ?_
       rintro e wn1 ⟨rfl, hn⟩
       refine hK.out _ _ _ (QM.cls HF1.out (fun _ _ => trivial)) hn ?_
       clear hK K
       try simp only [zq]
       refine uS 11 rfl (fun wA11 hA11 K hK => ?_)
       go_simp
       refine (QE HF1.out hA11 p2 HLEN).mono ?_
       rintro e wn2 ⟨rfl, hn⟩
       refine hK.out _ _ _ (QM.cls HF1.out (fun _ _ => trivial)) hn ?_
       clear hK K
       try simp only [zq]
       refine uS 15 rfl (fun wA15 hA15 K hK => ?_)
       go_simp
       refine (QE HF1.out hA15 p3 HLEN).mono ?_
       rintro e wn3 ⟨rfl, hn⟩
       refine hK.out _ _ _ (QM.cls HF1.out (fun _ _ => trivial)) hn ?_
       clear hK K
       try simp only [zq]
       refine uS 19 rfl (fun wA19 hA19 K hK => ?_)
       go_simp
       refine (QE HF1.out hA19 p4 HLEN).mono ?_
       rintro e wn4 ⟨rfl, hn⟩
       refine hK.out _ _ _ (QM.cls HF1.out (fun _ _ => trivial)) hn ?_
       clear hK K
       try simp only [zq]
       refine uS 23 rfl (fun wA23 hA23 K hK => ?_)
       go_simp
       refine (QE HF1.out hA23 p5 HLEN).mono ?_
       rintro e wn5 ⟨rfl, hn⟩
       refine hK.out _ _ _ (QM.cls HF1.out (fun _ _ => trivial)) hn ?_
       clear hK K
       try simp only [zq]
       refine uG 24 (some 78) (.agg #[z0, z1, z2, z3, z4, z5, (0:Int), (0:Int), (0:Int), (0:Int), (0:Int), (0:Int)]) (QM.cls HF1.out (fun _ _ => trivial)) ?_
       simp only [zq]
       refine uZ rfl (fun w1 hb1 K hK => ?_)
       refine step_store_mid rfl 88 (.tmp 6) (.tmp 78) rfl gf 0 [z0, z1, z2, z3, z4, z5, (0:Int), (0:Int), (0:Int), (0:Int), (0:Int), (0:Int)] rfl rfl (fun j hj => ⟨hb1.2.2.isSome (by simpa using hj), hb1.2.2.frozen _⟩) (by rw [ins_sz]; rfl) (by simp [Value.oneCell']) ?_
       have HQ9 := Lh (box_put (CF := [z0, z1, z2, z3, z4, z5, (0:Int), (0:Int), (0:Int), (0:Int), (0:Int), (0:Int)]) hb1 HFM9.out HNE9.out rfl)
       obtain ⟨w9, hw9⟩ : ∃ w9, w9 = w1.setCells gf 0 [z0, z1, z2, z3, z4, z5, (0:Int), (0:Int), (0:Int), (0:Int), (0:Int), (0:Int)] := ⟨_, rfl⟩
       rw [← hw9] at HQ9 ⊢
       clear hb1 hw9
       refine hK.out _ _ ?_
       clear hK K
       try simp only [Act.put]
       go_wp2_with fail
       go_meet
       exact HQ9.out
     ·
      go_simp
      obtain ⟨gf, hgf, HNE9, HF1, hnq⟩ := box_new (Z := [(0:Int), (0:Int), (0:Int), (0:Int), (0:Int), (0:Int), (0:Int), (0:Int), (0:Int), (0:Int), (0:Int), (0:Int)]) (KT := 88) hA25 HF9.out HB9.out
      rw [hgf]
      clear hgf
      refine hK.out _ _ _ (QM.cls HF1.out (fun _ _ => trivial)) hnq ?_
      clear hnq
      clear hK K
      try simp only [zq]
      refine uS 3 rfl (fun wA3 hA3 K hK => ?_)
      go_simp
      refine (QE HF1.out hA3 p0 HLEN).mono ?_
      rintro e wn0 ⟨rfl, hn⟩
      refine hK.out _ _ _ (QM.cls HF1.out (fun _ _ => trivial)) hn ?_
      clear hK K
      try simp only [zq]
      refine uS 7 rfl (fun wA7 hA7 K hK => ?_)
      go_simp
      refine (QE HF1.out hA7 p1 HLEN).mono ?_
      rintro e wn1 ⟨rfl, hn⟩
      refine hK.out _ _ _ (QM.cls HF1.out (fun _ _ => trivial)) hn ?_
      clear hK K
      try simp only [zq]
      refine uS 11 rfl (fun wA11 hA11 K hK => ?_)
      go_simp
      refine (QE HF1.out hA11 p2 HLEN).mono ?_
      rintro e wn2 ⟨rfl, hn⟩
      refine hK.out _ _ _ (QM.cls HF1.out (fun _ _ => trivial)) hn ?_
      clear hK K
      try simp only [zq]
      refine uS 15 rfl (fun wA15 hA15 K hK => ?_)
      go_simp
      refine (QE HF1.out hA15 p3 HLEN).mono ?_
      rintro e wn3 ⟨rfl, hn⟩
      refine hK.out _ _ _ (QM.cls HF1.out (fun _ _ => trivial)) hn ?_
      clear hK K
      try simp only [zq]
      refine uS 19 rfl (fun wA19 hA19 K hK => ?_)
      go_simp
      refine (QE HF1.out hA19 p4 HLEN).mono ?_
      rintro e wn4 ⟨rfl, hn⟩
      refine hK.out _ _ _ (QM.cls HF1.out (fun _ _ => trivial)) hn ?_
      clear hK K
      try simp only [zq]
      refine uS 23 rfl (fun wA23 hA23 K hK => ?_)
      go_simp
      refine (QE HF1.out hA23 p5 HLEN).mono ?_
      rintro e wn5 ⟨rfl, hn⟩
      refine hK.out _ _ _ (QM.cls HF1.out (fun _ _ => trivial)) hn ?_
      clear hK K
      try simp only [zq]
      refine uG 24 (some 78) (.agg #[z0, z1, z2, z3, z4, z5, (0:Int), (0:Int), (0:Int), (0:Int), (0:Int), (0:Int)]) (QM.cls HF1.out (fun _ _ => trivial)) ?_
      simp only [zq]
      refine uZ rfl (fun w1 hb1 K hK => ?_)
      refine step_store_mid rfl 88 (.tmp 6) (.tmp 78) rfl gf 0 [z0, z1, z2, z3, z4, z5, (0:Int), (0:Int), (0:Int), (0:Int), (0:Int), (0:Int)] rfl rfl (fun j hj => ⟨hb1.2.2.isSome (by simpa using hj), hb1.2.2.frozen _⟩) (by rw [ins_sz]; rfl) (by simp [Value.oneCell']) ?_
      have HQ9 := Lh (box_put (CF := [z0, z1, z2, z3, z4, z5, (0:Int), (0:Int), (0:Int), (0:Int), (0:Int), (0:Int)]) hb1 HFM9.out HNE9.out rfl)
      obtain ⟨w9, hw9⟩ : ∃ w9, w9 = w1.setCells gf 0 [z0, z1, z2, z3, z4, z5, (0:Int), (0:Int), (0:Int), (0:Int), (0:Int), (0:Int)] := ⟨_, rfl⟩
      rw [← hw9] at HQ9 ⊢
      clear hb1 hw9
      refine hK.out _ _ ?_
      clear hK K
      try simp only [Act.put]
      go_wp2_with fail
      go_meet
      exact HQ9.out
    case rest =>
     obtain ⟨gf, rfl, hq, h1, h2, h3, h4⟩ := hcut
     have HGF := Lh (⟨h1, h2, h3, h4⟩ : _ ∧ _ ∧ _ ∧ _)
     clear h1 h2 h3 h4
     have hff : Firm (fun k => k = g) (fun x => M9 x ∧ HT x gf 88 [z0, z1, z2, z3, z4, z5, (0:Int), (0:Int), (0:Int), (0:Int), (0:Int), (0:Int)]) := Firm.and HF9.out (Firm.ht (by have := HGF.out; omega))
     have sh := qshifts_any hff hq HLEN.out
     have hl6 := rIs_len 6 t6
     obtain ⟨zz, hzz⟩ : ∃ z, z = (rIs 6 t6).1 := ⟨_, rfl⟩
     obtain ⟨sf, hsf⟩ : ∃ z, z = (rIs 6 t6).2 := ⟨_, rfl⟩
     rw [← hzz, ← hsf] at sh
     rw [← hzz] at hl6
     obtain ⟨c, hc⟩ : ∃ c, c = (rdInT t0).1 := ⟨_, rfl⟩
     have HL12 : Hid (splice [.int .i64 z0, .int .i64 z1, .int .i64 z2, .int .i64 z3, .int .i64 z4, .int .i64 z5, .int .i64 0, .int .i64 0, .int .i64 0, .int .i64 0, .int .i64 0, .int .i64 0] 6 (ivs zz) = InT.vs c ∧ rdInT t0 = (c, sf)) := by
      show _ ∧ _
      have h1 := rIs_add 6 6 t0
      rw [HP.out] at h1
      simp only [Nat.reduceAdd] at h1
      rw [hc, hsf]
      unfold rdInT
      simp only
      rw [h1, ← hzz]
      match zz, hl6 with
      | [l0, l1, l2, l3, l4, l5], _ => exact ⟨rfl, rfl⟩
     have HN1 := loop_nx HT0 HL12.out.2
     have HL6 := Lh hl6
     clear hq hff hl6 hzz hsf hc
     go_wp2_with fail
     refine sh.mono ?_
     clear sh
     rintro e w2 ⟨rfl, hq⟩
     have HTH : Hid (w2.there gf 6 (ivs zz).toArray.size) := fun j hj => ⟨hq.2.2.isSome (by simp [HL6.out] at hj ⊢; omega), hq.2.2.frozen _⟩
     have HSIX : Hid ((Tryz.prog.info? 57).map (·.size) = some (ivs zz).toArray.size) := by show _ = _; rw [sixSize]; simp [ivs, HL6.out]
     have hput := hq.2.2.puts (o := 6) (vs := ivs zz) (by rw [List.length_map, HL6.out]; simp)
     rw [HL12.out.1] at hput
     have hkS := setCells_kept gf (ivs zz) 6 w2
     have hm6 := HFM9.out _ _ hq.2.1 (hkS.weaken (fun k (e : k = gf) => .inr (by have := HGF.out; omega)))
     have hq6 := hq.1.keptS hkS (fun k (e : k = gf) => by have := HGF.out; omega)
     obtain ⟨w6, hw6⟩ : ∃ w6, w6 = w2.setCells gf 6 (ivs zz) := ⟨_, rfl⟩
     rw [← hw6] at hput hm6 hq6
     have hx6 := HX9.out _ hm6
     have hcb : w6.cell? ⟨ga, 1, none⟩ = some (.slice a0 n0 c0) := hx6.2.1.cell (j := 1) (set_at HC.out _)
     have HW6 := Lh hw6
     have HGF6 : Hid (w6.heap[gf]? = some (.cells #[c.no, c.cur, c.mult, c.add, c.set, c.price, c.h0, c.h1, c.h2, c.h3, c.h4, c.h5] 88 (0, 0))) := hput
     have HSZ : Hid ((Tryz.prog.info? 88).map (·.size) = some (#[c.no, c.cur, c.mult, c.add, c.set, c.price, c.h0, c.h1, c.h2, c.h3, c.h4, c.h5] : Array Value).size) := by show _ = _; rw [ins_sz]; rfl
     have hbx : Below w6.heap.size w6 (w6.alloc (.cells #[c.no, c.cur, c.mult, c.add, c.set, c.price, c.h0, c.h1, c.h2, c.h3, c.h4, c.h5] 88)) := Bn
     have hqA : QM w g B v sf (LB M ga 28 C 1 (.slice a0 n0 c0) InT.vs 12 88 gb (.slice a0 n0 c0) L) (w6.alloc (.cells #[c.no, c.cur, c.mult, c.add, c.set, c.price, c.h0, c.h1, c.h2, c.h3, c.h4, c.h5] 88)) := ⟨hq6.below hbx, Firm.below HFM.out hx6.1 hbx, hx6.2.1.below hbx, OwnR.alloc hx6.2.2 _⟩
     have hone : Rs InT.vs 12 (w6.alloc (.cells #[c.no, c.cur, c.mult, c.add, c.set, c.price, c.h0, c.h1, c.h2, c.h3, c.h4, c.h5] 88)) (.slice (some ⟨w6.heap.size, 0, none⟩) 1 1) [c] := Rs.one InT.len w6 c 88
     have hoA := hqA.2.2.2
     have hbase : gb ≤ (w6.alloc (.cells #[c.no, c.cur, c.mult, c.add, c.set, c.price, c.h0, c.h1, c.h2, c.h3, c.h4, c.h5] 88)).heap.size := HB.out _ hqA.2.1
     have HQA := Lh hqA
     clear hq hput hkS hm6 hx6 hq6 hbx hw6 hqA
     go_wp2_with (first
      | (refine wpList_store_mid rfl 57 (.tmp 81) (.tmp 80) rfl gf 6 (ivs zz).toArray rfl rfl HTH.out HSIX.out (ivs_one zz) ?_; change wpList _ _ _ _ _ (w2.setCells gf 6 (ivs zz)); rw [← HW6.out])
      | (refine wpList_load_row rfl 88 (.tmp 6) rfl gf rfl 88 #[c.no, c.cur, c.mult, c.add, c.set, c.price, c.h0, c.h1, c.h2, c.h3, c.h4, c.h5] (0, 0) _ HGF6.out Tryz.underlying88 rfl HSZ.out ?_)
      | (at_builtin; refine wpList_append_rows (v := .slice a0 n0 c0) rfl (.tmp 83) (.tmp 85) 25 rfl (L := L) (M := [c]) (base := gb) elem_ins rfl rfl hoA hone InT.one (loop_le (BY := 96) HLL HMN hk (by decide)) (by decide) hbase ?_; intro a7 n7 c7 w7 Hn7 ho7 hg7 hat7 hb7; have HQ7 := Lh (row_app HQA.out HFM.out HNE.out hg7 ho7); have hcx := HQ7.out.2.2.1.cell (j := 1) (set_at HC.out _); have hfx := HQ7.out.2.2.1.frozen 1; clear hg7 hat7 hb7 Hn7 ho7)
      | fail)
     have HQ9 := Lh (row_put HQ7.out HFM.out HNE.out)
     first
      | exact ⟨⟨k + 1, a7, n7, c7, by omega, go_num_sub hltN, by rw [HN1.out.1, HN1.out.2]; exact HQ9.out⟩, by simp [intOf]; omega⟩
      | ((repeat apply Exists.intro); exact ⟨⟨k + 1, a7, n7, c7, by omega, go_num_sub hltN, by rw [HN1.out.1, HN1.out.2]; exact HQ9.out⟩, rfl⟩)
   ·
    have hz1 : (b == 0) = false := by simpa using hz
    have HE := Lh (HQL.out (.inr hz))
    clear hz
    go_wp2_with fail
    exact LpP.mk ⟨_, _, _, _, _, HE.out, HQB.out⟩
  ·
   obtain rfl : k = N := by omega
   have HE := Lh (HQL.out (.inl rfl))
   have hneg : ¬ (0 : Int) < (k : Int) - (k : Int) := by omega
   go_wp2_with fail
   exact LpP.mk ⟨_, _, _, _, _, HE.out, HQB.out⟩
theorem rs_ass {w w1 : World} {g ga gb N : Nat} {B : List UInt8} {v : Value} {s mt : RS} {M : World → Prop} {C : List Value} {K : Act → World → Prop} {R : Ending → World → Prop} (HLEN : Hid (B.length ≤ 70368744177664)) (HNE : Hid (g < ga ∧ w.heap.size ≤ ga ∧ ga < gb)) (HFM : Hid (Firm (fun k => k = g ∨ k = ga ∨ gb ≤ k) M)) (HB : Hid (∀ x, M x → gb ≤ x.heap.size)) (HC : Hid (2 < C.length)) (HMN : Hid ((mny s).1.toNat = N ∧ mt = (mny s).2 ∧ N ≤ 1024)) (HQ1 : Hid (QM w g B v mt (LB M ga 28 C 2 (.slice none 0 0) AsT.vs 4 91 gb (.slice none 0 0) []) w1))
  (hQ : ∀ (X7 X2i X2j X2k X2l X2m X2n X2o X2p X2q X2r X2s X2t X2u X2v X2w X2x X2y X2z X30 X31 X32 X33 X34 X35 X36 X37 X38 X39 X3a X3b X3c X3d X3e X3f : Value) (wx : World), LpP AsT.vs 4 rdAsT w g ga gb 2 B v s M 28 91 C wx → K { tmps := #[.pointer (some ⟨g, 0, none⟩), V1, V2, .pointer (some ⟨ga, 0, none⟩), V4, V5, V6, X7, V8, V9, Va, Vb, Vc, Vd, Ve, Vf, Vg, Vh, Vi, Vj, Vk, Vl, Vm, Vn, Vo, Vp, Vq, Vr, Vs, Vt, Vu, Vv, Vw, Vx, Vy, Vz, V10, V11, V12, V13, V14, V15, V16, V17, V18, V19, V1a, V1b, V1c, V1d, V1e, V1f, V1g, V1h, V1i, V1j, V1k, V1l, V1m, V1n, V1o, V1p, V1q, V1r, V1s, V1t, V1u, V1v, V1w, V1x, V1y, V1z, V20, V21, V22, V23, V24, V25, V26, V27, V28, V29, V2a, V2b, V2c, V2d, V2e, V2f, V2g, V2h, X2i, X2j, X2k, X2l, X2m, X2n, X2o, X2p, X2q, X2r, X2s, X2t, X2u, X2v, X2w, X2x, X2y, X2z, X30, X31, X32, X33, X34, X35, X36, X37, X38, X39, X3a, X3b, X3c, X3d, X3e, X3f, V3g], defers := [] } wx) :
  Code.wp Tryz.prog (codeAt [true, true, true, true, false, true] Tryz.f35) (Exit.then K (bodyPost Tryz.prog Tryz.f35 R)) { tmps := #[.pointer (some ⟨g, 0, none⟩), V1, V2, .pointer (some ⟨ga, 0, none⟩), V4, V5, V6, .int .i64 (N : Int), V8, V9, Va, Vb, Vc, Vd, Ve, Vf, Vg, Vh, Vi, Vj, Vk, Vl, Vm, Vn, Vo, Vp, Vq, Vr, Vs, Vt, Vu, Vv, Vw, Vx, Vy, Vz, V10, V11, V12, V13, V14, V15, V16, V17, V18, V19, V1a, V1b, V1c, V1d, V1e, V1f, V1g, V1h, V1i, V1j, V1k, V1l, V1m, V1n, V1o, V1p, V1q, V1r, V1s, V1t, V1u, V1v, V1w, V1x, V1y, V1z, V20, V21, V22, V23, V24, V25, V26, V27, V28, V29, V2a, V2b, V2c, V2d, V2e, V2f, V2g, V2h, V2i, V2j, V2k, V2l, V2m, V2n, V2o, V2p, V2q, V2r, V2s, V2t, V2u, V2v, V2w, V2x, V2y, V2z, V30, V31, V32, V33, V34, V35, V36, V37, V38, V39, V3a, V3b, V3c, V3d, V3e, V3f, V3g], defers := [] } w1 := by
 refine wp_at (c := _) rfl (.r (.r (.r (.r (.l (.r (.nil))))))) ?_
 go_wp2_with fail
 go_loopw [7] (fun v4 wr => ∃ (k : Nat) (a0 : Option Addr) (n0 c0 : Nat), k ≤ N ∧ v4 = .int .i64 ((N : Int) - k) ∧ QM w g B v (rRs rdAsT k mt).2 (LB M ga 28 C 2 (.slice a0 n0 c0) AsT.vs 4 91 gb (.slice a0 n0 c0) (rRs rdAsT k mt).1) wr) (fun i _ => (intOf i).toNat)
 case atStart => exact ⟨0, none, 0, 0, Nat.zero_le _, by simp, HQ1.out⟩
 case round =>
  obtain ⟨k, a0, n0, c0, hk, rfl, hq⟩ := hrel
  obtain ⟨t0, L, b, HT0, hcb, HQB, HQL, HLL⟩ := loop_rd HMN hk hq
  clear hq
  by_cases hltN : k < N
  ·
   have hpos : (0 : Int) < (N : Int) - (k : Int) := by omega
   have hup : (N : Int) - (k : Int) ≤ 1024 := by have := HMN.out.2.2; omega
   by_cases hz : b = 0
   ·
    subst hz
    obtain ⟨z0, z1, z2, z3, t1, t2, t3, t4, p0, p1, p2, p3, HP⟩ := rI4 t0
    have HN1 := loop_nx HT0 (show rdAsT t0 = ((⟨z0, z1, z2, z3⟩ : AsT), t4) by unfold rdAsT; rw [HP.out]; rfl)
    go_upto_region 15 with fail
    have HFL : Hid (∀ u D, Firm (fun k => k = g) (LB M ga 28 C 2 (.slice a0 n0 c0) AsT.vs 4 91 gb u D)) := fun u D => LB.firm (FMg HFM.out) HNE.out.1 (by have := HNE.out; omega)
    have HCL : Hid (∀ t u D, Cls (fun x => x.cell? ⟨ga, 2, none⟩ = some (.slice a0 n0 c0)) (QM w g B v t (LB M ga 28 C 2 (.slice a0 n0 c0) AsT.vs 4 91 gb u D))) := fun t u D => QM.cls (HFL.out _ _) (fun x hx => hx.2.1.cell (j := 2) (set_at HC.out _))
    refine wp_region_uni (S0 := fun x => x.cell? ⟨ga, 2, none⟩ = some (.slice a0 n0 c0)) (S := QM w g B v t0 (LB M ga 28 C 2 (.slice a0 n0 c0) AsT.vs 4 91 gb (.slice a0 n0 c0) L)) 22 (by kernel_rfl) (QM.below (HFL.out _ _) HQB.out (Below.refl _ _).drew) ?_
    refine uP 1 [(0, some 102, .pointer (some ⟨ga, 2, none⟩))] (HCL.out _ _ _) ?_
    refine uL 1 (some 103) (.slice a0 n0 c0) (HCL.out _ _ _) (p := ⟨ga, 2, none⟩) (fun w hSw => hSw) ?_
    refine uP 12 [(2, some 104, .pointer (some ⟨g, 0, none⟩)), (3, some 105, .pointer (some ⟨g, 0, none⟩)), (4, some 106, .pointer (some ⟨g, 0, none⟩)), (6, some 108, .pointer (some ⟨g, 0, none⟩)), (7, some 109, .pointer (some ⟨g, 0, none⟩)), (8, some 110, .pointer (some ⟨g, 0, none⟩)), (10, some 112, .pointer (some ⟨g, 0, none⟩)), (11, some 113, .pointer (some ⟨g, 0, none⟩)), (12, some 114, .pointer (some ⟨g, 0, none⟩)), (14, some 116, .pointer (some ⟨g, 0, none⟩)), (15, some 117, .pointer (some ⟨g, 0, none⟩)), (16, some 118, .pointer (some ⟨g, 0, none⟩))] (HCL.out _ _ _) ?_
    simp only [zq]
    refine uS 5 rfl (fun wA5 hA5 K hK => ?_)
    go_simp
    refine (QE (HFL.out _ _) hA5 p0 HLEN).mono ?_
    rintro e wn0 ⟨rfl, hn⟩
    refine hK.out _ _ _ (HCL.out _ _ _) hn ?_
    clear hK K
    try simp only [zq]
    refine uS 9 rfl (fun wA9 hA9 K hK => ?_)
    go_simp
    refine (QE (HFL.out _ _) hA9 p1 HLEN).mono ?_
    rintro e wn1 ⟨rfl, hn⟩
    refine hK.out _ _ _ (HCL.out _ _ _) hn ?_
    clear hK K
    try simp only [zq]
    refine uS 13 rfl (fun wA13 hA13 K hK => ?_)
    go_simp
    refine (QE (HFL.out _ _) hA13 p2 HLEN).mono ?_
    rintro e wn2 ⟨rfl, hn⟩
    refine hK.out _ _ _ (HCL.out _ _ _) hn ?_
    clear hK K
    try simp only [zq]
    refine uS 17 rfl (fun wA17 hA17 K hK => ?_)
    go_simp
    refine (QE (HFL.out _ _) hA17 p3 HLEN).mono ?_
    rintro e wn3 ⟨rfl, hn⟩
    refine hK.out _ _ _ (HCL.out _ _ _) hn ?_
    clear hK K
    try simp only [zq]
    refine uG 18 (some 120) (.agg #[z0, z1, z2, z3]) (HCL.out _ _ _) ?_
    simp only [zq]
    refine uS 19 rfl (fun wA19 hA19 K hK => ?_)
    go_simp
    refine hK.out _ _ (fun x => QM w g B v t4 (LB M ga 28 C 2 (.slice a0 n0 c0) AsT.vs 4 91 gb (.slice a0 n0 c0) L) x ∧ Rs AsT.vs 4 x (.slice (some ⟨wA19.heap.size, 0, none⟩) 1 1) [(⟨z0, z1, z2, z3⟩ : AsT)]) (Cls.and (HCL.out _ _ _) (fun _ _ h hb => Rs.mono h hb)) ⟨QM.below (HFL.out _ _) hA19 (Bn), Rs.one AsT.len wA19 (⟨z0, z1, z2, z3⟩ : AsT) 91⟩ ?_
    clear hK K
    try simp only [zq]
    refine uS 20 rfl (fun wA20 hA20 K hK => ?_)
    have hbase : gb ≤ wA20.heap.size := HB.out _ hA20.1.2.1
    refine step_append_rows (v := .slice a0 n0 c0) (vx := .slice (some ⟨wA19.heap.size, 0, none⟩) 1 1) rfl (.tmp 103) (.tmp 121) 26 rfl (L := L) (M := [(⟨z0, z1, z2, z3⟩ : AsT)]) (base := gb) elem_ass rfl rfl hA20.1.2.2.2 hA20.2 AsT.one (loop_le (BY := 32) HLL HMN hk (by decide)) (by decide) hbase ?_
    intro a7 n7 c7 w7 Hn7 ho7 hg7 hat7 hb7
    have HQ7 := Lh (row_app hA20.1 HFM.out HNE.out hg7 ho7)
    clear ho7 hg7 hat7 hb7 Hn7 hbase
    refine hK.out _ _ _ (HCL.out _ _ _) HQ7.out ?_
    clear HQ7
    clear hK K
    try simp only [zq]
    refine uP 1 [(21, some 123, .pointer (some ⟨ga, 2, none⟩))] (HCL.out _ _ _) ?_
    simp only [zq]
    refine uZ rfl (fun w1 hb1 K hK => ?_)
    have hcx := hb1.2.2.1.cell (j := 2) (set_at HC.out _)
    have hfx := hb1.2.2.1.frozen 2
    have HQ9 := Lh (row_put hb1 HFM.out HNE.out)
    clear hb1
    go_simp
    refine hK.out _ _ ?_
    clear hK K
    try simp only [Act.put]
    go_wp2_with fail
    first
     | exact ⟨⟨k + 1, a7, n7, c7, by omega, go_num_sub hltN, by rw [HN1.out.1, HN1.out.2]; exact HQ9.out⟩, by simp [intOf]; omega⟩
     | ((repeat apply Exists.intro); exact ⟨⟨k + 1, a7, n7, c7, by omega, go_num_sub hltN, by rw [HN1.out.1, HN1.out.2]; exact HQ9.out⟩, rfl⟩)
   ·
    have hz1 : (b == 0) = false := by simpa using hz
    have HE := Lh (HQL.out (.inr hz))
    clear hz
    go_wp2_with fail
    exact LpP.mk ⟨_, _, _, _, _, HE.out, HQB.out⟩
  ·
   obtain rfl : k = N := by omega
   have HE := Lh (HQL.out (.inl rfl))
   have hneg : ¬ (0 : Int) < (k : Int) - (k : Int) := by omega
   go_wp2_with fail
   exact LpP.mk ⟨_, _, _, _, _, HE.out, HQB.out⟩
end Cam
