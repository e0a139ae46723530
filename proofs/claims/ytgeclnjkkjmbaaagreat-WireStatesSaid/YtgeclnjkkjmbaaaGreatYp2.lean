import Derived.Test.YtgeclnjkkjmbaaaGreatYpLz
/- cambistref24: R.book: its loops. -/
namespace Cam
open Go Go.RowKit Go.Proofs
set_option linter.unusedVariables false
set_option linter.unusedSimpArgs false
set_option maxRecDepth 100000
set_option maxHeartbeats 6400000
variable {V0 V1 V2 V3 V4 V5 V6 V7 V8 V9 Va Vb Vc Vd Ve Vf Vg Vh Vi Vj Vk Vl Vm Vn Vo Vp Vq Vr Vs Vt Vu Vv Vw Vx Vy Vz V10 V11 V12 V13 V14 V15 V16 V17 V18 V19 V1a V1b V1c V1d V1e V1f V1g V1h V1i V1j V1k V1l V1m V1n V1o V1p V1q V1r V1s V1t V1u V1v V1w V1x V1y V1z V20 V21 V22 V23 V24 V25 V26 V27 V28 V29 V2a V2b V2c V2d V2e V2f V2g V2h V2i V2j V2k V2l V2m V2n V2o V2p V2q : Value}
theorem rs_trd {w w1 : World} {g ga gb N : Nat} {B : List UInt8} {v : Value} {s mt : RS} {M : World → Prop} {C : List Value} {K : Act → World → Prop} {R : Ending → World → Prop} (HLEN : Hid (B.length ≤ 70368744177664)) (HNE : Hid (g < ga ∧ w.heap.size ≤ ga ∧ ga < gb)) (HFM : Hid (Firm (fun k => k = g ∨ k = ga ∨ gb ≤ k) M)) (HB : Hid (∀ x, M x → gb ≤ x.heap.size)) (HC : Hid (1 < C.length)) (HMN : Hid ((mny s).1.toNat = N ∧ mt = (mny s).2 ∧ N ≤ 1024)) (HQ1 : Hid (QM w g B v mt (LB M ga 32 C 1 (.slice none 0 0) TrT.vs 7 93 gb (.slice none 0 0) []) w1))
  (hQ : ∀ (X4 Xe Xf Xg Xh Xi Xj Xk Xl Xm Xn Xo Xp Xq Xr Xs Xt Xu Xv Xw Xx Xy Xz X10 X11 X12 X13 X14 X15 X16 X17 X18 X19 X1a X1b X1c X1d X1e X1f X1g X1h X1i X1j X1k X1l X1m X1n : Value) (wx : World), LpP TrT.vs 7 rdTrT w g ga gb 1 B v s M 32 93 C wx → K { tmps := #[.pointer (some ⟨g, 0, none⟩), V1, V2, .pointer (some ⟨ga, 0, none⟩), X4, V5, V6, V7, V8, V9, Va, Vb, Vc, Vd, Xe, Xf, Xg, Xh, Xi, Xj, Xk, Xl, Xm, Xn, Xo, Xp, Xq, Xr, Xs, Xt, Xu, Xv, Xw, Xx, Xy, Xz, X10, X11, X12, X13, X14, X15, X16, X17, X18, X19, X1a, X1b, X1c, X1d, X1e, X1f, X1g, X1h, X1i, X1j, X1k, X1l, X1m, X1n, V1o, V1p, V1q, V1r, V1s, V1t, V1u, V1v, V1w, V1x, V1y, V1z, V20, V21, V22, V23, V24, V25, V26, V27, V28, V29, V2a, V2b, V2c, V2d, V2e, V2f, V2g, V2h, V2i, V2j, V2k, V2l, V2m, V2n, V2o, V2p, V2q], defers := [] } wx) :
  Code.wp Tryz.prog (codeAt [true, true, false, true] Tryz.f36) (Exit.then K (bodyPost Tryz.prog Tryz.f36 R)) { tmps := #[.pointer (some ⟨g, 0, none⟩), V1, V2, .pointer (some ⟨ga, 0, none⟩), (N : Int), V5, V6, V7, V8, V9, Va, Vb, Vc, Vd, Ve, Vf, Vg, Vh, Vi, Vj, Vk, Vl, Vm, Vn, Vo, Vp, Vq, Vr, Vs, Vt, Vu, Vv, Vw, Vx, Vy, Vz, V10, V11, V12, V13, V14, V15, V16, V17, V18, V19, V1a, V1b, V1c, V1d, V1e, V1f, V1g, V1h, V1i, V1j, V1k, V1l, V1m, V1n, V1o, V1p, V1q, V1r, V1s, V1t, V1u, V1v, V1w, V1x, V1y, V1z, V20, V21, V22, V23, V24, V25, V26, V27, V28, V29, V2a, V2b, V2c, V2d, V2e, V2f, V2g, V2h, V2i, V2j, V2k, V2l, V2m, V2n, V2o, V2p, V2q], defers := [] } w1 := by
 refine wp_at (c := _) rfl (.r (.r (.l (.r (.nil))))) ?_
 go_wp2_with fail
 go_loopw [4] (fun v4 wr => ∃ (k : Nat) (a0 : Option Addr) (n0 c0 : Nat), k ≤ N ∧ v4 = .int .i64 ((N : Int) - k) ∧ QM w g B v (rRs rdTrT k mt).2 (LB M ga 32 C 1 (.slice a0 n0 c0) TrT.vs 7 93 gb (.slice a0 n0 c0) (rRs rdTrT k mt).1) wr) (fun i _ => (intOf i).toNat)
 case atStart => exact ⟨0, none, 0, 0, Nat.zero_le _, by simp, HQ1.out⟩
 case round =>
  obtain ⟨k, a0, n0, c0, hk, rfl, hq⟩ := hrel
  obtain ⟨t0, L, b, HT0, hcb, HQB, HQL, HLL⟩ := loop_rd HMN hk hq
  clear hq
  by_cases hltN : k < N
  ·
   have hpos : (0 : Int) < (N : Int) - (k : Int) := by omega
   have hup : (N : Int) - (k : Int) ≤ 1024 := by have := HMN.out.2.2; omega
   by_cases hz : b = 0
   ·
    subst hz
    obtain ⟨z0, z1, z2, z3, z4, z5, t1, t2, t3, t4, t5, t6, p0, p1, p2, p3, p4, p5, HP⟩ := rI6 t0
    obtain ⟨zb, t7, p6⟩ : ∃ y t, Hid (rM t6 = (y, t)) := ⟨_, _, Lh rfl⟩
    have HN1 := loop_nx HT0 (show rdTrT t0 = ((⟨z0, z1, z2, z3, z4, z5, zb⟩ : TrT), t7) by unfold rdTrT; rw [HP.out]; dsimp only; rw [p6.out]; rfl)
    go_upto_region 5 with fail
    have HFL : Hid (∀ u D, Firm (fun k => k = g) (LB M ga 32 C 1 (.slice a0 n0 c0) TrT.vs 7 93 gb u D)) := fun u D => LB.firm (FMg HFM.out) HNE.out.1 (by have := HNE.out; omega)
    have HCL : Hid (∀ t u D, Cls (fun x => x.cell? ⟨ga, 1, none⟩ = some (.slice a0 n0 c0)) (QM w g B v t (LB M ga 32 C 1 (.slice a0 n0 c0) TrT.vs 7 93 gb u D))) := fun t u D => QM.cls (HFL.out _ _) (fun x hx => hx.2.1.cell (j := 1) (set_at HC.out _))
    refine wp_region_uni (S0 := fun x => x.cell? ⟨ga, 1, none⟩ = some (.slice a0 n0 c0)) (S := QM w g B v t0 (LB M ga 32 C 1 (.slice a0 n0 c0) TrT.vs 7 93 gb (.slice a0 n0 c0) L)) 34 (by kernel_rfl) (QM.below (HFL.out _ _) HQB.out (Below.refl _ _).drew) ?_
    refine uP 1 [(0, some 26, .pointer (some ⟨ga, 1, none⟩))] (HCL.out _ _ _) ?_
    refine uL 1 (some 27) (.slice a0 n0 c0) (HCL.out _ _ _) (p := ⟨ga, 1, none⟩) (fun w hSw => hSw) ?_
    refine uP 21 [(2, some 28, .pointer (some ⟨g, 0, none⟩)), (3, some 29, .pointer (some ⟨g, 0, none⟩)), (4, some 30, .pointer (some ⟨g, 0, none⟩)), (6, some 32, .pointer (some ⟨g, 0, none⟩)), (7, some 33, .pointer (some ⟨g, 0, none⟩)), (8, some 34, .pointer (some ⟨g, 0, none⟩)), (10, some 36, .pointer (some ⟨g, 0, none⟩)), (11, some 37, .pointer (some ⟨g, 0, none⟩)), (12, some 38, .pointer (some ⟨g, 0, none⟩)), (14, some 40, .pointer (some ⟨g, 0, none⟩)), (15, some 41, .pointer (some ⟨g, 0, none⟩)), (16, some 42, .pointer (some ⟨g, 0, none⟩)), (18, some 44, .pointer (some ⟨g, 0, none⟩)), (19, some 45, .pointer (some ⟨g, 0, none⟩)), (20, some 46, .pointer (some ⟨g, 0, none⟩)), (22, some 48, .pointer (some ⟨g, 0, none⟩)), (23, some 49, .pointer (some ⟨g, 0, none⟩)), (24, some 50, .pointer (some ⟨g, 0, none⟩)), (26, some 52, .pointer (some ⟨g, 0, none⟩)), (27, some 53, .pointer (some ⟨g, 0, none⟩)), (28, some 54, .pointer (some ⟨g, 0, none⟩))] (HCL.out _ _ _) ?_
    simp only [zq]
    refine uS 5 rfl (fun wA5 hA5 K hK => ?_)
    go_simp
    refine (QE (HFL.out _ _) hA5 p0 HLEN).mono ?_
    rintro e wn0 ⟨rfl, hn⟩
    refine hK.out _ _ _ (HCL.out _ _ _) hn ?_
    clear hK K
    try simp only [zq]
    refine uS 9 rfl (fun wA9 hA9 K hK => ?_)
    go_simp
    refine (QE (HFL.out _ _) hA9 p1 HLEN).mono ?_
    rintro e wn1 ⟨rfl, hn⟩
    refine hK.out _ _ _ (HCL.out _ _ _) hn ?_
    clear hK K
    try simp only [zq]
    refine uS 13 rfl (fun wA13 hA13 K hK => ?_)
    go_simp
    refine (QE (HFL.out _ _) hA13 p2 HLEN).mono ?_
    rintro e wn2 ⟨rfl, hn⟩
    refine hK.out _ _ _ (HCL.out _ _ _) hn ?_
    clear hK K
    try simp only [zq]
    refine uS 17 rfl (fun wA17 hA17 K hK => ?_)
    go_simp
    refine (QE (HFL.out _ _) hA17 p3 HLEN).mono ?_
    rintro e wn3 ⟨rfl, hn⟩
    refine hK.out _ _ _ (HCL.out _ _ _) hn ?_
    clear hK K
    try simp only [zq]
    refine uS 21 rfl (fun wA21 hA21 K hK => ?_)
    go_simp
    refine (QE (HFL.out _ _) hA21 p4 HLEN).mono ?_
    rintro e wn4 ⟨rfl, hn⟩
    refine hK.out _ _ _ (HCL.out _ _ _) hn ?_
    clear hK K
    try simp only [zq]
    refine uS 25 rfl (fun wA25 hA25 K hK => ?_)
    go_simp
    refine (QE (HFL.out _ _) hA25 p5 HLEN).mono ?_
    rintro e wn5 ⟨rfl, hn⟩
    refine hK.out _ _ _ (HCL.out _ _ _) hn ?_
    clear hK K
    try simp only [zq]
    refine uS 29 rfl (fun wA29 hA29 K hK => ?_)
    go_simp
    refine (QK (HFL.out _ _) hA29 p6).mono ?_
    rintro e wn6 ⟨rfl, hn⟩
    refine hK.out _ _ _ (HCL.out _ _ _) hn ?_
    clear hK K
    try simp only [zq]
    refine uG 30 (some 56) (.agg #[z0, z1, z2, z3, z4, z5, .bool zb]) (HCL.out _ _ _) ?_
    simp only [zq]
    refine uS 31 rfl (fun wA31 hA31 K hK => ?_)
    go_simp
    refine hK.out _ _ (fun x => QM w g B v t7 (LB M ga 32 C 1 (.slice a0 n0 c0) TrT.vs 7 93 gb (.slice a0 n0 c0) L) x ∧ Rs TrT.vs 7 x (.slice (some ⟨wA31.heap.size, 0, none⟩) 1 1) [(⟨z0, z1, z2, z3, z4, z5, zb⟩ : TrT)]) (Cls.and (HCL.out _ _ _) (fun _ _ h hb => Rs.mono h hb)) ⟨QM.below (HFL.out _ _) hA31 (Bn), Rs.one TrT.len wA31 (⟨z0, z1, z2, z3, z4, z5, zb⟩ : TrT) 93⟩ ?_
    clear hK K
    try simp only [zq]
    refine uS 32 rfl (fun wA32 hA32 K hK => ?_)
    have hbase : gb ≤ wA32.heap.size := HB.out _ hA32.1.2.1
    refine step_append_rows (v := .slice a0 n0 c0) (vx := .slice (some ⟨wA31.heap.size, 0, none⟩) 1 1) rfl (.tmp 27) (.tmp 57) 29 rfl (L := L) (M := [(⟨z0, z1, z2, z3, z4, z5, zb⟩ : TrT)]) (base := gb) elem_trd rfl rfl hA32.1.2.2.2 hA32.2 TrT.one (loop_le (BY := 56) HLL HMN hk (by decide)) (by decide) hbase ?_
    intro a7 n7 c7 w7 Hn7 ho7 hg7 hat7 hb7
    have HQ7 := Lh (row_app hA32.1 HFM.out HNE.out hg7 ho7)
    clear ho7 hg7 hat7 hb7 Hn7 hbase
    refine hK.out _ _ _ (HCL.out _ _ _) HQ7.out ?_
    clear HQ7
    clear hK K
    try simp only [zq]
    refine uP 1 [(33, some 59, .pointer (some ⟨ga, 1, none⟩))] (HCL.out _ _ _) ?_
    simp only [zq]
    refine uZ rfl (fun w1 hb1 K hK => ?_)
    have hcx := hb1.2.2.1.cell (j := 1) (set_at HC.out _)
    have hfx := hb1.2.2.1.frozen 1
    have HQ9 := Lh (row_put hb1 HFM.out HNE.out)
    clear hb1
    go_simp
    refine hK.out _ _ ?_
    clear hK K
    try simp only [Act.put]
    go_wp2_with fail
    first
     | exact ⟨⟨k + 1, a7, n7, c7, by omega, go_num_sub hltN, by rw [HN1.out.1, HN1.out.2]; exact HQ9.out⟩, by simp [intOf]; omega⟩
     | ((repeat apply Exists.intro); exact ⟨⟨k + 1, a7, n7, c7, by omega, go_num_sub hltN, by rw [HN1.out.1, HN1.out.2]; exact HQ9.out⟩, rfl⟩)
   ·
    have hz1 : (b == 0) = false := by simpa using hz
    have HE := Lh (HQL.out (.inr hz))
    clear hz
    go_wp2_with fail
    exact LpP.mk ⟨_, _, _, _, _, HE.out, HQB.out⟩
  ·
   obtain rfl : k = N := by omega
   have HE := Lh (HQL.out (.inl rfl))
   have hneg : ¬ (0 : Int) < (k : Int) - (k : Int) := by omega
   go_wp2_with fail
   exact LpP.mk ⟨_, _, _, _, _, HE.out, HQB.out⟩
theorem rs_pos {w w1 : World} {g ga gb N : Nat} {B : List UInt8} {v : Value} {s mt : RS} {M : World → Prop} {C : List Value} {K : Act → World → Prop} {R : Ending → World → Prop} (HLEN : Hid (B.length ≤ 70368744177664)) (HNE : Hid (g < ga ∧ w.heap.size ≤ ga ∧ ga < gb)) (HFM : Hid (Firm (fun k => k = g ∨ k = ga ∨ gb ≤ k) M)) (HB : Hid (∀ x, M x → gb ≤ x.heap.size)) (HC : Hid (2 < C.length)) (HMN : Hid ((mny s).1.toNat = N ∧ mt = (mny s).2 ∧ N ≤ 1024)) (HQ1 : Hid (QM w g B v mt (LB M ga 32 C 2 (.slice none 0 0) PoT.vs 4 98 gb (.slice none 0 0) []) w1))
  (hQ : ∀ (X5 X6 X1q X1r X1s X1t X1u X1v X1w X1x X1y X1z X20 X21 X22 X23 X24 X25 X26 X27 X28 X29 X2a X2b X2c X2d X2e X2f X2g X2h X2i X2j X2k X2l X2m X2n X2o X2p : Value) (wx : World), LpP PoT.vs 4 rdPoT w g ga gb 2 B v s M 32 98 C wx → K { tmps := #[.pointer (some ⟨g, 0, none⟩), V1, V2, .pointer (some ⟨ga, 0, none⟩), V4, X5, X6, V7, V8, V9, Va, Vb, Vc, Vd, Ve, Vf, Vg, Vh, Vi, Vj, Vk, Vl, Vm, Vn, Vo, Vp, Vq, Vr, Vs, Vt, Vu, Vv, Vw, Vx, Vy, Vz, V10, V11, V12, V13, V14, V15, V16, V17, V18, V19, V1a, V1b, V1c, V1d, V1e, V1f, V1g, V1h, V1i, V1j, V1k, V1l, V1m, V1n, V1o, V1p, X1q, X1r, X1s, X1t, X1u, X1v, X1w, X1x, X1y, X1z, X20, X21, X22, X23, X24, X25, X26, X27, X28, X29, X2a, X2b, X2c, X2d, X2e, X2f, X2g, X2h, X2i, X2j, X2k, X2l, X2m, X2n, X2o, X2p, V2q], defers := [] } wx) :
  Code.wp Tryz.prog (codeAt [true, true, true, false, true] Tryz.f36) (Exit.then K (bodyPost Tryz.prog Tryz.f36 R)) { tmps := #[.pointer (some ⟨g, 0, none⟩), V1, V2, .pointer (some ⟨ga, 0, none⟩), V4, (N : Int), V6, V7, V8, V9, Va, Vb, Vc, Vd, Ve, Vf, Vg, Vh, Vi, Vj, Vk, Vl, Vm, Vn, Vo, Vp, Vq, Vr, Vs, Vt, Vu, Vv, Vw, Vx, Vy, Vz, V10, V11, V12, V13, V14, V15, V16, V17, V18, V19, V1a, V1b, V1c, V1d, V1e, V1f, V1g, V1h, V1i, V1j, V1k, V1l, V1m, V1n, V1o, V1p, V1q, V1r, V1s, V1t, V1u, V1v, V1w, V1x, V1y, V1z, V20, V21, V22, V23, V24, V25, V26, V27, V28, V29, V2a, V2b, V2c, V2d, V2e, V2f, V2g, V2h, V2i, V2j, V2k, V2l, V2m, V2n, V2o, V2p, V2q], defers := [] } w1 := by
 refine wp_at (c := _) rfl (.r (.r (.r (.l (.r (.nil)))))) ?_
 go_wp2_with fail
 go_loopw [5] (fun v4 wr => ∃ (k : Nat) (a0 : Option Addr) (n0 c0 : Nat), k ≤ N ∧ v4 = .int .i64 ((N : Int) - k) ∧ QM w g B v (rRs rdPoT k mt).2 (LB M ga 32 C 2 (.slice a0 n0 c0) PoT.vs 4 98 gb (.slice a0 n0 c0) (rRs rdPoT k mt).1) wr) (fun i _ => (intOf i).toNat)
 case atStart => exact ⟨0, none, 0, 0, Nat.zero_le _, by simp, HQ1.out⟩
 case round =>
  obtain ⟨k, a0, n0, c0, hk, rfl, hq⟩ := hrel
  obtain ⟨t0, L, b, HT0, hcb, HQB, HQL, HLL⟩ := loop_rd HMN hk hq
  clear hq
  by_cases hltN : k < N
  ·
   have hpos : (0 : Int) < (N : Int) - (k : Int) := by omega
   have hup : (N : Int) - (k : Int) ≤ 1024 := by have := HMN.out.2.2; omega
   by_cases hz : b = 0
   ·
    subst hz
    obtain ⟨z0, z1, z2, z3, t1, t2, t3, t4, p0, p1, p2, p3, HP⟩ := rI4 t0
    have HN1 := loop_nx HT0 (show rdPoT t0 = ((⟨z0, z1, z2, z3⟩ : PoT), t4) by unfold rdPoT; rw [HP.out]; rfl)
    obtain ⟨gb9, M9, HFM9, HF9, HB9, HX9, HQ9x, HNEF, HLT9⟩ := box_in HQB.out HFM.out HB.out HNE.out
    go_upto_region 9 with fail
    go_cut [6] from 62 to 97 (fun v6 wx => BoxP w g B v t2 M9 96 [z0, z1] gb9 v6 wx)
    case first =>
     refine wp_region_uni (S0 := fun _ => True) (S := QM w g B v t0 M9) 10 (by kernel_rfl) (QM.below HF9.out HQ9x.out (Below.refl _ _).drew) ?_
     refine uP 6 [(0, some 74, .pointer (some ⟨g, 0, none⟩)), (1, some 75, .pointer (some ⟨g, 0, none⟩)), (2, some 76, .pointer (some ⟨g, 0, none⟩)), (4, some 78, .pointer (some ⟨g, 0, none⟩)), (5, some 79, .pointer (some ⟨g, 0, none⟩)), (6, some 80, .pointer (some ⟨g, 0, none⟩))] (QM.cls HF9.out (fun _ _ => trivial)) ?_
     simp only [zq]
     refine wpAnyU_ready (rs := [3, 9]) (by kernel_rfl) (by simp) ?_
     refine uD rfl (fun wA3 hA3 K hK => ?_) (uD rfl (fun wA9 hA9 K hK => ?_) AllReadyU.nil)
     ·
      go_simp
      refine (QE HF9.out hA3 p0 HLEN).mono ?_
      rintro e wn0 ⟨rfl, hn⟩
      refine hK.out _ _ _ (QM.cls HF9.out (fun _ _ => trivial)) hn ?_
      clear hK K
      try simp only [zq]
      refine wpAnyU_ready (rs := [7, 9]) (by kernel_rfl) (by simp) ?_
      refine uD rfl (fun wA7 hA7 K hK => ?_) (uD rfl (fun wA9 hA9 K hK => ?_) AllReadyU.nil)
      ·
       go_simp
       refine (QE HF9.out hA7 p1 HLEN).mono ?_
       rintro e wn1 ⟨rfl, hn⟩
       refine hK.out _ _ _ (QM.cls HF9.out (fun _ _ => trivial)) hn ?_
       clear hK K
       try simp only [zq]
       refine uG 8 (some 82) (.agg #[z0, z1]) (QM.cls HF9.out (fun _ _ => trivial)) ?_
       simp only [zq]
       refine uS 9 rfl (fun wA9 hA9 K hK => ?_)
       go_simp
       obtain ⟨gf, hgf, HNE9, HF1, hnq⟩ := box_new (Z := [(0:Int), (0:Int)]) (KT := 96) hA9 HF9.out HB9.out
       rw [hgf]
       clear hgf
       refine hK.out _ _ _ (QM.cls HF1.out (fun _ _ => trivial)) hnq ?_
       clear hnq
       clear hK K
       try simp only [zq]
       refine uZ rfl (fun w1 hb1 K hK => ?_)
       refine step_store_mid rfl 96 (.tmp 6) (.tmp 82) rfl gf 0 [z0, z1] rfl rfl (fun j hj => ⟨hb1.2.2.isSome (by simpa using hj), hb1.2.2.frozen _⟩) (by rw [qkeySz]; rfl) (by simp [Value.oneCell']) ?_
       have HQ9 := Lh (box_put (CF := [z0, z1]) hb1 HFM9.out HNE9.out rfl)
       obtain ⟨w9, hw9⟩ : ∃ w9, w9 = w1.setCells gf 0 [z0, z1] := ⟨_, rfl⟩
       rw [← hw9] at HQ9 ⊢
       clear hb1 hw9
       refine hK.out _ _ ?_
       clear hK K
       try simp only [Act.put]
       go_wp2_with fail
       go_meet
       exact HQ9.out
      ·
       go_simp
       obtain ⟨gf, hgf, HNE9, HF1, hnq⟩ := box_new (Z := [(0:Int), (0:Int)]) (KT := 96) hA9 HF9.out HB9.out
       rw [hgf]
       clear hgf
       refine hK.out _ _ _ (QM.cls HF1.out (fun _ _ => trivial)) hnq ?_
       clear hnq
       clear hK K
       try simp only [zq]
       refine uS 7 rfl (fun wA7 hA7 K hK => ?_)
       go_simp
       refine (QE HF1.out hA7 p1 HLEN).mono ?_
       rintro e wn1 ⟨rfl, hn⟩
       refine hK.out _ _ _ (QM.cls HF1.out (fun _ _ => trivial)) hn ?_
       clear hK K
       try simp only [zq]
       refine uG 8 (some 82) (.agg #[z0, z1]) (QM.cls HF1.out (fun _ _ => trivial)) ?_
       simp only [zq]
       refine uZ rfl (fun w1 hb1 K hK => ?_)
       refine step_store_mid rfl 96 (.tmp 6) (.tmp 82) rfl gf 0 [z0, z1] rfl rfl (fun j hj => ⟨hb1.2.2.isSome (by simpa using hj), hb1.2.2.frozen _⟩) (by rw [qkeySz]; rfl) (by simp [Value.oneCell']) ?_
       have HQ9 := Lh (box_put (CF := [z0, z1]) hb1 HFM9.out HNE9.out rfl)
       obtain ⟨w9, hw9⟩ : ∃ w9, w9 = w1.setCells gf 0 [z0, z1] := ⟨_, rfl⟩
       rw [← hw9] at HQ9 ⊢
       clear hb1 hw9
       refine hK.out _ _ ?_
       clear hK K
       try simp only [Act.put]
       go_wp2_with fail
       go_meet
       exact HQ9.out
     ·
      go_simp
      obtain ⟨gf, hgf, HNE9, HF1, hnq⟩ := box_new (Z := [(0:Int), (0:Int)]) (KT := 96) hA9 HF9.out HB9.out
      rw [hgf]
      clear hgf
      refine hK.out _ _ _ (QM.cls HF1.out (fun _ _ => trivial)) hnq ?_
      clear hnq
      clear hK K
      try simp only [zq]
      refine uS 3 rfl (fun wA3 hA3 K hK => ?_)
      go_simp
      refine (QE HF1.out hA3 p0 HLEN).mono ?_
      rintro e wn0 ⟨rfl, hn⟩
      refine hK.out _ _ _ (QM.cls HF1.out (fun _ _ => trivial)) hn ?_
      clear hK K
      try simp only [zq]
      refine uS 7 rfl (fun wA7 hA7 K hK => ?_)
      go_simp
      refine (QE HF1.out hA7 p1 HLEN).mono ?_
      rintro e wn1 ⟨rfl, hn⟩
      refine hK.out _ _ _ (QM.cls HF1.out (fun _ _ => trivial)) hn ?_
      clear hK K
      try simp only [zq]
      refine uG 8 (some 82) (.agg #[z0, z1]) (QM.cls HF1.out (fun _ _ => trivial)) ?_
      simp only [zq]
      refine uZ rfl (fun w1 hb1 K hK => ?_)
      refine step_store_mid rfl 96 (.tmp 6) (.tmp 82) rfl gf 0 [z0, z1] rfl rfl (fun j hj => ⟨hb1.2.2.isSome (by simpa using hj), hb1.2.2.frozen _⟩) (by rw [qkeySz]; rfl) (by simp [Value.oneCell']) ?_
      have HQ9 := Lh (box_put (CF := [z0, z1]) hb1 HFM9.out HNE9.out rfl)
      obtain ⟨w9, hw9⟩ : ∃ w9, w9 = w1.setCells gf 0 [z0, z1] := ⟨_, rfl⟩
      rw [← hw9] at HQ9 ⊢
      clear hb1 hw9
      refine hK.out _ _ ?_
      clear hK K
      try simp only [Act.put]
      go_wp2_with fail
      go_meet
      exact HQ9.out
    case rest =>
     obtain ⟨gf, rfl, hq, h1, h2, h3, h4⟩ := hcut
     have HGF := Lh (⟨h1, h2, h3, h4⟩ : _ ∧ _ ∧ _ ∧ _)
     clear h1 h2 h3 h4
     have HOB : Hid (∀ k, (Value.slice a0 n0 c0).ownBlock = some k → k < gf) := fun k hk => by have := HLT9.out k hk; have := HGF.out; omega
     have HQB2 := Lh (box_row hq HX9.out)
     clear hq
     go_upto_region 10 with fail
     have HFL : Hid (∀ u D, Firm (fun k => k = g) (LB (BM M gf 96 [z0, z1]) ga 32 C 2 (.slice a0 n0 c0) PoT.vs 4 98 gb u D)) := fun u D => LB.firm (BM.firm (FMg HFM.out) HGF.out.1) HNE.out.1 (by have := HNE.out; omega)
     have HCL : Hid (∀ t u D, Cls (fun x => x.cell? ⟨ga, 2, none⟩ = some (.slice a0 n0 c0) ∧ HT x gf 96 [z0, z1]) (QM w g B v t (LB (BM M gf 96 [z0, z1]) ga 32 C 2 (.slice a0 n0 c0) PoT.vs 4 98 gb u D))) := fun t u D => QM.cls (HFL.out _ _) (fun x hx => ⟨hx.2.1.cell (j := 2) (set_at HC.out _), hx.1.2⟩)
     refine wp_region_uni (S0 := fun x => x.cell? ⟨ga, 2, none⟩ = some (.slice a0 n0 c0) ∧ HT x gf 96 [z0, z1]) (S := QM w g B v t2 (LB (BM M gf 96 [z0, z1]) ga 32 C 2 (.slice a0 n0 c0) PoT.vs 4 98 gb (.slice a0 n0 c0) L)) 15 (by kernel_rfl) (QM.below (HFL.out _ _) HQB2.out (Below.refl _ _).drew) ?_
     refine uP 1 [(0, some 83, .pointer (some ⟨ga, 2, none⟩))] (HCL.out _ _ _) ?_
     refine uL 1 (some 84) (.slice a0 n0 c0) (HCL.out _ _ _) (p := ⟨ga, 2, none⟩) (fun w hSw => hSw.1) ?_
     simp only [zq]
     refine uO 2 (some 85) (.agg #[z0, z1]) (HCL.out _ _ _) (fun _ ho => by cases ho; exact .inl ⟨rfl, fun w hSw => eff_load_row 96 (.tmp 6) rfl gf rfl _ _ hSw.2 Tryz.underlying96 rfl (by rw [qkeySz]; rfl)⟩) ?_
     refine uP 6 [(3, some 86, .pointer (some ⟨g, 0, none⟩)), (4, some 87, .pointer (some ⟨g, 0, none⟩)), (5, some 88, .pointer (some ⟨g, 0, none⟩)), (7, some 90, .pointer (some ⟨g, 0, none⟩)), (8, some 91, .pointer (some ⟨g, 0, none⟩)), (9, some 92, .pointer (some ⟨g, 0, none⟩))] (HCL.out _ _ _) ?_
     simp only [zq]
     refine uS 6 rfl (fun wA6 hA6 K hK => ?_)
     go_simp
     refine (QE (HFL.out _ _) hA6 p2 HLEN).mono ?_
     rintro e wn0 ⟨rfl, hn⟩
     refine hK.out _ _ _ (HCL.out _ _ _) hn ?_
     clear hK K
     try simp only [zq]
     refine uS 10 rfl (fun wA10 hA10 K hK => ?_)
     go_simp
     refine (QE (HFL.out _ _) hA10 p3 HLEN).mono ?_
     rintro e wn1 ⟨rfl, hn⟩
     refine hK.out _ _ _ (HCL.out _ _ _) hn ?_
     clear hK K
     try simp only [zq]
     refine uG 11 (some 94) (.agg #[z0, z1, z2, z3]) (HCL.out _ _ _) ?_
     simp only [zq]
     refine uS 12 rfl (fun wA12 hA12 K hK => ?_)
     go_simp
     refine hK.out _ _ (fun x => QM w g B v t4 (LB (BM M gf 96 [z0, z1]) ga 32 C 2 (.slice a0 n0 c0) PoT.vs 4 98 gb (.slice a0 n0 c0) L) x ∧ Rs PoT.vs 4 x (.slice (some ⟨wA12.heap.size, 0, none⟩) 1 1) [(⟨z0, z1, z2, z3⟩ : PoT)]) (Cls.and (HCL.out _ _ _) (fun _ _ h hb => Rs.mono h hb)) ⟨QM.below (HFL.out _ _) hA12 (Bn), Rs.one PoT.len wA12 (⟨z0, z1, z2, z3⟩ : PoT) 98⟩ ?_
     clear hK K
     try simp only [zq]
     refine uS 13 rfl (fun wA13 hA13 K hK => ?_)
     have hbase : gb ≤ wA13.heap.size := HB.out _ hA13.1.2.1.1
     refine step_append_rows (v := .slice a0 n0 c0) (vx := .slice (some ⟨wA12.heap.size, 0, none⟩) 1 1) rfl (.tmp 84) (.tmp 95) 30 rfl (L := L) (M := [(⟨z0, z1, z2, z3⟩ : PoT)]) (base := gb) elem_pos rfl rfl hA13.1.2.2.2 hA13.2 PoT.one (loop_le (BY := 32) HLL HMN hk (by decide)) (by decide) hbase ?_
     intro a7 n7 c7 w7 Hn7 ho7 hg7 hat7 hb7
     have HQ7 := Lh (row_appB hA13.1 HFM.out HNE.out HOB.out hg7 ho7)
     clear ho7 hg7 hat7 hb7 Hn7 hbase
     refine hK.out _ _ _ (HCL.out _ _ _) HQ7.out ?_
     clear HQ7
     clear hK K
     try simp only [zq]
     refine uP 1 [(14, some 97, .pointer (some ⟨ga, 2, none⟩))] (HCL.out _ _ _) ?_
     simp only [zq]
     refine uZ rfl (fun w1 hb1 K hK => ?_)
     have hcx := hb1.2.2.1.cell (j := 2) (set_at HC.out _)
     have hfx := hb1.2.2.1.frozen 2
     have HQ9 := Lh (row_put (LB.unbox hb1) HFM.out HNE.out)
     clear hb1
     go_simp
     refine hK.out _ _ ?_
     clear hK K
     try simp only [Act.put]
     go_wp2_with fail
     first
      | exact ⟨⟨k + 1, a7, n7, c7, by omega, go_num_sub hltN, by rw [HN1.out.1, HN1.out.2]; exact HQ9.out⟩, by simp [intOf]; omega⟩
      | ((repeat apply Exists.intro); exact ⟨⟨k + 1, a7, n7, c7, by omega, go_num_sub hltN, by rw [HN1.out.1, HN1.out.2]; exact HQ9.out⟩, rfl⟩)
   ·
    have hz1 : (b == 0) = false := by simpa using hz
    have HE := Lh (HQL.out (.inr hz))
    clear hz
    go_wp2_with fail
    exact LpP.mk ⟨_, _, _, _, _, HE.out, HQB.out⟩
  ·
   obtain rfl : k = N := by omega
   have HE := Lh (HQL.out (.inl rfl))
   have hneg : ¬ (0 : Int) < (k : Int) - (k : Int) := by omega
   go_wp2_with fail
   exact LpP.mk ⟨_, _, _, _, _, HE.out, HQB.out⟩
end Cam
