import Derived.Test.YtgeclnjkkjmbaaaGreatWqSz
/- cambistref24: State: members, assets, positions. -/
namespace Cam
open Go Go.RowKit Go.Proofs
set_option linter.unusedVariables false
set_option linter.unusedSimpArgs false
set_option maxRecDepth 100000
set_option maxHeartbeats 6400000
variable {V0 V1 V2 V3 V4 V5 V6 V7 V8 V9 Va Vb Vc Vd Ve Vf Vg Vh Vi Vj Vk Vl Vm Vn Vo Vp Vq Vr Vs Vt Vu Vv Vw Vx Vy Vz V10 V11 V12 V13 V14 V15 V16 V17 V18 V19 V1a V1b V1c V1d V1e V1f V1g V1h V1i V1j V1k V1l V1m V1n V1o V1p V1q V1r V1s V1t V1u V1v V1w V1x V1y V1z V20 V21 V22 V23 V24 V25 V26 V27 V28 V29 V2a V2b V2c V2d V2e V2f V2g V2h V2i V2j V2k V2l V2m V2n V2o V2p V2q V2r V2s V2t V2u V2v V2w V2x V2y V2z V30 V31 V32 V33 V34 V35 V36 V37 V38 V39 V3a V3b V3c V3d V3e V3f V3g V3h V3i V3j V3k V3l V3m V3n V3o V3p V3q V3r V3s V3t V3u V3v V3w V3x V3y V3z V40 V41 V42 V43 V44 V45 V46 V47 V48 V49 V4a V4b V4c V4d V4e V4f V4g V4h V4i V4j V4k V4l V4m V4n V4o V4p V4q V4r V4s V4t V4u V4v V4w V4x V4y V4z V50 V51 V52 V53 V54 V55 V56 V57 V58 V59 V5a V5b V5c V5d V5e V5f V5g V5h V5i V5j V5k V5l V5m V5n V5o V5p V5q V5r V5s V5t V5u V5v V5w V5x V5y V5z V60 V61 V62 V63 V64 V65 V66 V67 V68 V69 V6a V6b V6c V6d V6e V6f V6g V6h V6i V6j V6k V6l V6m V6n V6o V6p V6q V6r V6s V6t V6u V6v V6w V6x V6y V6z V70 V71 V72 V73 V74 V75 V76 V77 V78 V79 V7a V7b V7c V7d V7e V7f V7g V7h V7i V7j V7k V7l V7m V7n V7o V7p V7q V7r V7s V7t V7u V7v V7w V7x V7y V7z V80 V81 V82 V83 V84 V85 V86 V87 V88 V89 V8a V8b V8c V8d V8e V8f V8g V8h V8i V8j V8k V8l V8m V8n V8o V8p V8q V8r V8s V8t V8u V8v V8w V8x V8y V8z V90 V91 V92 V93 V94 V95 V96 V97 V98 V99 V9a V9b V9c V9d V9e V9f V9g V9h V9i V9j V9k V9l V9m V9n V9o V9p V9q V9r V9s V9t V9u V9v V9w V9x V9y V9z Va0 Va1 Va2 Va3 Va4 Va5 Va6 Va7 Va8 Va9 Vaa Vab Vac Vad Vae Vaf Vag Vah Vai Vaj Vak Val Vam Van Vao Vap Vaq Var Vas Vat Vau Vav Vaw Vax Vay Vaz Vb0 Vb1 Vb2 Vb3 Vb4 Vb5 Vb6 Vb7 Vb8 Vb9 Vba Vbb Vbc Vbd Vbe Vbf Vbg Vbh Vbi Vbj Vbk Vbl Vbm Vbn Vbo Vbp Vbq Vbr Vbs Vbt Vbu Vbv Vbw Vbx Vby Vbz : Value}
theorem ws_mem {w1 W : World} {g1 : Nat} {C : List Value} {a1 : Option Addr} {n1 c1 : Nat} {l : List UInt8} {a0 : Option Addr} {n0 c0 : Nat} {K : Act → World → Prop} {R : Ending → World → Prop} (HBOX : Hid (HT W g1 41 C)) (HNE : Hid ((Value.slice none 0 0).ownBlock ≠ some g1)) (HFC : Hid (C[3]? = some (.slice a1 n1 c1))) {L : List MbT} (HROWS : Hid (∀ x, Kept (fun k => (Value.slice none 0 0).ownBlock = some k) W x → Rs MbT.vs 3 x (.slice a1 n1 c1) L)) (HNN : Hid (n1 = L.length ∧ n1 ≤ 1024)) (HRD : Hid (∀ x ∈ L, okI x.ints)) (HLN : Hid (l.length ≤ 500000000)) (HBK1 : Hid (BK W.heap.size W (.slice none 0 0) l (.slice a0 n0 c0) w1))
  (hQ : ∀ (X5 X11 X12 X13 X14 X15 X16 X17 X18 X19 X1a X1b X1c X1d X1e X1f X1g X1h X1i X1j X1k X1l X1m X1n X1o X1p X1q X1r X1s X1t X1u X1v X1w : Value) (a : Option Addr) (n c : Nat) (wx : World), WsP W (l ++ encG MbT.bytes L) a n c wx → K { tmps := #[V0, .pointer (some ⟨g1, 0, none⟩), V2, V3, .slice a n c, X5, V6, V7, V8, V9, Va, Vb, Vc, Vd, Ve, Vf, Vg, Vh, Vi, Vj, Vk, Vl, Vm, Vn, Vo, Vp, Vq, Vr, Vs, Vt, Vu, Vv, Vw, Vx, Vy, Vz, V10, X11, X12, X13, X14, X15, X16, X17, X18, X19, X1a, X1b, X1c, X1d, X1e, X1f, X1g, X1h, X1i, X1j, X1k, X1l, X1m, X1n, X1o, X1p, X1q, X1r, X1s, X1t, X1u, X1v, X1w, V1x, V1y, V1z, V20, V21, V22, V23, V24, V25, V26, V27, V28, V29, V2a, V2b, V2c, V2d, V2e, V2f, V2g, V2h, V2i, V2j, V2k, V2l, V2m, V2n, V2o, V2p, V2q, V2r, V2s, V2t, V2u, V2v, V2w, V2x, V2y, V2z, V30, V31, V32, V33, V34, V35, V36, V37, V38, V39, V3a, V3b, V3c, V3d, V3e, V3f, V3g, V3h, V3i, V3j, V3k, V3l, V3m, V3n, V3o, V3p, V3q, V3r, V3s, V3t, V3u, V3v, V3w, V3x, V3y, V3z, V40, V41, V42, V43, V44, V45, V46, V47, V48, V49, V4a, V4b, V4c, V4d, V4e, V4f, V4g, V4h, V4i, V4j, V4k, V4l, V4m, V4n, V4o, V4p, V4q, V4r, V4s, V4t, V4u, V4v, V4w, V4x, V4y, V4z, V50, V51, V52, V53, V54, V55, V56, V57, V58, V59, V5a, V5b, V5c, V5d, V5e, V5f, V5g, V5h, V5i, V5j, V5k, V5l, V5m, V5n, V5o, V5p, V5q, V5r, V5s, V5t, V5u, V5v, V5w, V5x, V5y, V5z, V60, V61, V62, V63, V64, V65, V66, V67, V68, V69, V6a, V6b, V6c, V6d, V6e, V6f, V6g, V6h, V6i, V6j, V6k, V6l, V6m, V6n, V6o, V6p, V6q, V6r, V6s, V6t, V6u, V6v, V6w, V6x, V6y, V6z, V70, V71, V72, V73, V74, V75, V76, V77, V78, V79, V7a, V7b, V7c, V7d, V7e, V7f, V7g, V7h, V7i, V7j, V7k, V7l, V7m, V7n, V7o, V7p, V7q, V7r, V7s, V7t, V7u, V7v, V7w, V7x, V7y, V7z, V80, V81, V82, V83, V84, V85, V86, V87, V88, V89, V8a, V8b, V8c, V8d, V8e, V8f, V8g, V8h, V8i, V8j, V8k, V8l, V8m, V8n, V8o, V8p, V8q, V8r, V8s, V8t, V8u, V8v, V8w, V8x, V8y, V8z, V90, V91, V92, V93, V94, V95, V96, V97, V98, V99, V9a, V9b, V9c, V9d, V9e, V9f, V9g, V9h, V9i, V9j, V9k, V9l, V9m, V9n, V9o, V9p, V9q, V9r, V9s, V9t, V9u, V9v, V9w, V9x, V9y, V9z, Va0, Va1, Va2, Va3, Va4, Va5, Va6, Va7, Va8, Va9, Vaa, Vab, Vac, Vad, Vae, Vaf, Vag, Vah, Vai, Vaj, Vak, Val, Vam, Van, Vao, Vap, Vaq, Var, Vas, Vat, Vau, Vav, Vaw, Vax, Vay, Vaz, Vb0, Vb1, Vb2, Vb3, Vb4, Vb5, Vb6, Vb7, Vb8, Vb9, Vba, Vbb, Vbc, Vbd, Vbe, Vbf, Vbg, Vbh, Vbi, Vbj, Vbk, Vbl, Vbm, Vbn, Vbo, Vbp, Vbq, Vbr, Vbs, Vbt, Vbu, Vbv, Vbw, Vbx, Vby, Vbz], defers := [] } wx) :
  Code.wp Tryz.prog (codeAt [true, true, true, false, true] Tryz.f8) (Exit.then K (bodyPost Tryz.prog Tryz.f8 R)) { tmps := #[V0, .pointer (some ⟨g1, 0, none⟩), V2, V3, .slice a0 n0 c0, (0:Int), V6, V7, V8, V9, Va, Vb, Vc, Vd, Ve, Vf, Vg, Vh, Vi, Vj, Vk, Vl, Vm, Vn, Vo, Vp, Vq, Vr, Vs, Vt, Vu, Vv, Vw, Vx, Vy, Vz, V10, V11, V12, V13, V14, V15, V16, V17, V18, V19, V1a, V1b, V1c, V1d, V1e, V1f, V1g, V1h, V1i, V1j, V1k, V1l, V1m, V1n, V1o, V1p, V1q, V1r, V1s, V1t, V1u, V1v, V1w, V1x, V1y, V1z, V20, V21, V22, V23, V24, V25, V26, V27, V28, V29, V2a, V2b, V2c, V2d, V2e, V2f, V2g, V2h, V2i, V2j, V2k, V2l, V2m, V2n, V2o, V2p, V2q, V2r, V2s, V2t, V2u, V2v, V2w, V2x, V2y, V2z, V30, V31, V32, V33, V34, V35, V36, V37, V38, V39, V3a, V3b, V3c, V3d, V3e, V3f, V3g, V3h, V3i, V3j, V3k, V3l, V3m, V3n, V3o, V3p, V3q, V3r, V3s, V3t, V3u, V3v, V3w, V3x, V3y, V3z, V40, V41, V42, V43, V44, V45, V46, V47, V48, V49, V4a, V4b, V4c, V4d, V4e, V4f, V4g, V4h, V4i, V4j, V4k, V4l, V4m, V4n, V4o, V4p, V4q, V4r, V4s, V4t, V4u, V4v, V4w, V4x, V4y, V4z, V50, V51, V52, V53, V54, V55, V56, V57, V58, V59, V5a, V5b, V5c, V5d, V5e, V5f, V5g, V5h, V5i, V5j, V5k, V5l, V5m, V5n, V5o, V5p, V5q, V5r, V5s, V5t, V5u, V5v, V5w, V5x, V5y, V5z, V60, V61, V62, V63, V64, V65, V66, V67, V68, V69, V6a, V6b, V6c, V6d, V6e, V6f, V6g, V6h, V6i, V6j, V6k, V6l, V6m, V6n, V6o, V6p, V6q, V6r, V6s, V6t, V6u, V6v, V6w, V6x, V6y, V6z, V70, V71, V72, V73, V74, V75, V76, V77, V78, V79, V7a, V7b, V7c, V7d, V7e, V7f, V7g, V7h, V7i, V7j, V7k, V7l, V7m, V7n, V7o, V7p, V7q, V7r, V7s, V7t, V7u, V7v, V7w, V7x, V7y, V7z, V80, V81, V82, V83, V84, V85, V86, V87, V88, V89, V8a, V8b, V8c, V8d, V8e, V8f, V8g, V8h, V8i, V8j, V8k, V8l, V8m, V8n, V8o, V8p, V8q, V8r, V8s, V8t, V8u, V8v, V8w, V8x, V8y, V8z, V90, V91, V92, V93, V94, V95, V96, V97, V98, V99, V9a, V9b, V9c, V9d, V9e, V9f, V9g, V9h, V9i, V9j, V9k, V9l, V9m, V9n, V9o, V9p, V9q, V9r, V9s, V9t, V9u, V9v, V9w, V9x, V9y, V9z, Va0, Va1, Va2, Va3, Va4, Va5, Va6, Va7, Va8, Va9, Vaa, Vab, Vac, Vad, Vae, Vaf, Vag, Vah, Vai, Vaj, Vak, Val, Vam, Van, Vao, Vap, Vaq, Var, Vas, Vat, Vau, Vav, Vaw, Vax, Vay, Vaz, Vb0, Vb1, Vb2, Vb3, Vb4, Vb5, Vb6, Vb7, Vb8, Vb9, Vba, Vbb, Vbc, Vbd, Vbe, Vbf, Vbg, Vbh, Vbi, Vbj, Vbk, Vbl, Vbm, Vbn, Vbo, Vbp, Vbq, Vbr, Vbs, Vbt, Vbu, Vbv, Vbw, Vbx, Vby, Vbz], defers := [] } w1 := by
 refine wp_at (c := _) rfl (.r (.r (.r (.l (.r (.nil)))))) ?_
 have HBASE : Hid (W.heap.size ≤ W.heap.size) := Nat.le_refl _
 go_wp2_with fail
 go_loopw [4, 5] (fun v4 v5 wr => ∃ (k : Nat) (aw : Option Addr) (mw cw : Nat), k ≤ n1 ∧ v5 = .int .i64 k ∧ v4 = .slice aw mw cw ∧ BK W.heap.size W (.slice none 0 0) (l ++ encG MbT.bytes (L.take k)) (.slice aw mw cw) wr) (fun _ i _ => n1 - (intOf i).toNat)
 case atStart => exact ⟨0, _, _, _, Nat.zero_le _, rfl, rfl, by simpa [encG] using HBK1.out⟩
 case round =>
  obtain ⟨k, aw, mw, cw, hk, rfl, rfl, hbk⟩ := hrel
  have HBK := Lh hbk
  have hbox := hbk.box HBOX.out HNE.out
  have H3 := hbox.cell (j := 3) HFC.out
  have hup : (n1 : Int) ≤ 1024 := by have := HNN.out.2; omega
  by_cases hlt : k < n1
  ·
   have hkL : k < L.length := by rw [← HNN.out.1]; exact hlt
   have hrows : Rs MbT.vs 3 wr (.slice a1 L.length c1) L := by rw [← HNN.out.1]; exact HROWS.out wr hbk.2.1
   obtain ⟨bD, oD, rfl, hbw, hat⟩ := hrows.at (by omega) (by decide)
   obtain ⟨d, hc⟩ : ∃ d, d = L[k] := ⟨_, rfl⟩
   have HC := Lh hc
   have HKW : Hid (Kept (fun k => (Value.slice none 0 0).ownBlock = some k) W wr) := hbk.2.1
   have HLL : Hid ((l ++ encG MbT.bytes (L.take k)).length ≤ 1000000000) := wsl _ (fun x hx => MbT.blen x (HRD.out x hx)) (by have := HNN.out; omega) HLN.out
   have hk0 : (0 : Int) ≤ k := by omega
   have hk1 : (k : Int) < n1 := by omega
   have HAT : Hid (∀ x, Kept (fun k => (Value.slice none 0 0).ownBlock = some k) W x → x.cell? ⟨bD, oD + k * 3, none⟩ = some (.int .i64 d.no) ∧ x.cell? ⟨bD, oD + k * 3 + 1, none⟩ = some (.int .i64 d.state) ∧ x.cell? ⟨bD, oD + k * 3 + 2, none⟩ = some (.int .i64 d.need)) := by
    intro x hx
    have hr := HROWS.out x hx
    rw [HNN.out.1] at hr
    rw [hc]
    exact ⟨hr.cells (by decide) hkL (j := 0) rfl, hr.cells (by decide) hkL (j := 1) rfl, hr.cells (by decide) hkL (j := 2) rfl⟩
   have HRG : Hid (okI [d.no, d.state, d.need]) := by rw [hc]; exact HRD.out _ (List.getElem_mem hkL)
   clear hrows hat hc hbk hbox
   go_upto_region 7 with fail
   refine wp_region_uni (S0 := fun x => Kept (fun k => (Value.slice none 0 0).ownBlock = some k) W x) (S := BL wr) 25 (by kernel_rfl) (Below.refl _ _).drew ?_
   refine uP 3 [(0, some 45, .slice aw mw cw), (1, some 46, .pointer (some ⟨g1, 3, none⟩)), (2, some 47, .pointer (some ⟨g1, 3, none⟩))] (BLK.cls HKW.out) ?_
   refine uL 3 (some 48) (.slice (some ⟨bD, oD, none⟩) n1 c1) (BLK.cls HKW.out) (p := ⟨g1, 3, none⟩) (fun w hSw => (HBOX.out.keptH hSw HNE.out).cell (j := 3) HFC.out) ?_
   refine uP 1 [(4, some 49, .int .i64 (k : Int))] (BLK.cls HKW.out) ?_
   simp only [zq]
   refine uG 5 (some 50) (.pointer (some ⟨bD, oD + k * 3, none⟩)) (BLK.cls HKW.out) ?_
   refine uP 1 [(6, some 51, .pointer (some ⟨bD, oD + k * 3, none⟩))] (BLK.cls HKW.out) ?_
   refine uL 7 (some 52) (.int .i64 d.no) (BLK.cls HKW.out) (p := ⟨bD, oD + k * 3, none⟩) (fun w hSw => (HAT.out w hSw).1) ?_
   simp only [zq]
   refine uP 2 [(8, some 53, .pointer (some ⟨g1, 3, none⟩)), (9, some 54, .pointer (some ⟨g1, 3, none⟩))] (BLK.cls HKW.out) ?_
   refine uL 10 (some 55) (.slice (some ⟨bD, oD, none⟩) n1 c1) (BLK.cls HKW.out) (p := ⟨g1, 3, none⟩) (fun w hSw => (HBOX.out.keptH hSw HNE.out).cell (j := 3) HFC.out) ?_
   refine uP 1 [(11, some 56, .int .i64 (k : Int))] (BLK.cls HKW.out) ?_
   simp only [zq]
   refine uG 12 (some 57) (.pointer (some ⟨bD, oD + k * 3, none⟩)) (BLK.cls HKW.out) ?_
   refine uP 1 [(13, some 58, .pointer (some ⟨bD, oD + k * 3 + 1, none⟩))] (BLK.cls HKW.out) ?_
   refine uL 14 (some 59) (.int .i64 d.state) (BLK.cls HKW.out) (p := ⟨bD, oD + k * 3 + 1, none⟩) (fun w hSw => (HAT.out w hSw).2.1) ?_
   simp only [zq]
   refine uP 2 [(15, some 60, .pointer (some ⟨g1, 3, none⟩)), (16, some 61, .pointer (some ⟨g1, 3, none⟩))] (BLK.cls HKW.out) ?_
   refine uL 17 (some 62) (.slice (some ⟨bD, oD, none⟩) n1 c1) (BLK.cls HKW.out) (p := ⟨g1, 3, none⟩) (fun w hSw => (HBOX.out.keptH hSw HNE.out).cell (j := 3) HFC.out) ?_
   refine uP 1 [(18, some 63, .int .i64 (k : Int))] (BLK.cls HKW.out) ?_
   simp only [zq]
   refine uG 19 (some 64) (.pointer (some ⟨bD, oD + k * 3, none⟩)) (BLK.cls HKW.out) ?_
   refine uP 1 [(20, some 65, .pointer (some ⟨bD, oD + k * 3 + 2, none⟩))] (BLK.cls HKW.out) ?_
   refine uL 21 (some 66) (.int .i64 d.need) (BLK.cls HKW.out) (p := ⟨bD, oD + k * 3 + 2, none⟩) (fun w hSw => (HAT.out w hSw).2.2) ?_
   simp only [zq]
   refine uS 22 rfl (fun wA22 hA22 K hK => ?_)
   go_simp
   have hkA : Kept (fun k => (Value.slice none 0 0).ownBlock = some k) W (wA22.alloc (.cells #[d.no, d.state, d.need] 3)) := (HKW.out.trans (Kept.of_below hA22) (fun _ _ h => h.elim)).alloc _
   refine hK.out _ _ (BL (wA22.alloc (.cells #[d.no, d.state, d.need] 3))) (BLK.cls hkA) (Below.refl _ _) ?_
   clear hK K
   try simp only [zq]
   refine uS 23 rfl (fun wA23 hA23 K hK => ?_)
   go_simp
   have hbl : Below wr.heap.size wr wA23 := (Below.alloc hA22 hA22.size (.cells #[d.no, d.state, d.need] 3)).trans (hA23.mono (by simp; exact Nat.le_succ_of_le hA22.size))
   have his : Is (wA22.alloc (.cells #[d.no, d.state, d.need] 3)) (.slice (some ⟨wA22.heap.size, 0, none⟩) 3 3) [d.no, d.state, d.need] := Is.block (l := [d.no, d.state, d.need]) (heap_new rfl) (Nat.le_refl _) (by simp [maxLen])
   refine (BK.num HBK.out hbl (his.mono hA23) HRG.out (by simp) HLL.out HBASE.out).mono ?_
   rintro e wn ⟨a3, n3, c3, rfl, hbk⟩
   refine hK.out _ _ (BK W.heap.size W (.slice none 0 0) (l ++ encG MbT.bytes (L.take k) ++ encIs [d.no, d.state, d.need]) (.slice a3 n3 c3)) BK.cls hbk ?_
   clear hbl his hbk
   clear hK K
   try simp only [zq]
   refine uP 1 [(24, some 4, .slice a3 n3 c3)] BK.cls ?_
   simp only [zq]
   refine wpAnyU_done (by kernel_rfl) (fun w1 hb1 => ?_) _
   have HBN := Lh hb1
   clear hb1
   go_wp2_with fail
   first
    | exact ⟨⟨k + 1, a3, n3, c3, by omega, by push_cast; rfl, rfl, by rw [encG_snoc _ hkL, ← HC.out, ← List.append_assoc]; exact HBN.out⟩, by simp [intOf]; omega⟩
    | ((repeat apply Exists.intro); exact ⟨⟨k + 1, a3, n3, c3, by omega, by push_cast; rfl, rfl, by rw [encG_snoc _ hkL, ← HC.out, ← List.append_assoc]; exact HBN.out⟩, rfl⟩)
  ·
   obtain rfl : n1 = k := by omega
   rw [List.take_of_length_le (by rw [← HNN.out.1]; exact Nat.le_refl _)] at hbk
   have HF : Hid (WsP W (l ++ encG MbT.bytes L) aw mw cw wr) := hbk
   clear hbk HBK hbox
   go_wp2_with fail
   exact HF.out
theorem ws_ass {w1 W : World} {g1 : Nat} {C : List Value} {a3 : Option Addr} {n3 c3 : Nat} {l : List UInt8} {a0 : Option Addr} {n0 c0 : Nat} {K : Act → World → Prop} {R : Ending → World → Prop} (HBOX : Hid (HT W g1 41 C)) (HNE : Hid ((Value.slice none 0 0).ownBlock ≠ some g1)) (HFC : Hid (C[5]? = some (.slice a3 n3 c3))) {L : List AsT} (HROWS : Hid (∀ x, Kept (fun k => (Value.slice none 0 0).ownBlock = some k) W x → Rs AsT.vs 4 x (.slice a3 n3 c3) L)) (HNN : Hid (n3 = L.length ∧ n3 ≤ 1024)) (HRD : Hid (∀ x ∈ L, okI x.ints)) (HLN : Hid (l.length ≤ 500000000)) (HBK1 : Hid (BK W.heap.size W (.slice none 0 0) l (.slice a0 n0 c0) w1))
  (hQ : ∀ (X8 X37 X38 X39 X3a X3b X3c X3d X3e X3f X3g X3h X3i X3j X3k X3l X3m X3n X3o X3p X3q X3r X3s X3t X3u X3v X3w X3x X3y X3z X40 X41 X42 X43 X44 X45 X46 X47 X48 X49 : Value) (a : Option Addr) (n c : Nat) (wx : World), WsP W (l ++ encG AsT.bytes L) a n c wx → K { tmps := #[V0, .pointer (some ⟨g1, 0, none⟩), V2, V3, .slice a n c, V5, V6, V7, X8, V9, Va, Vb, Vc, Vd, Ve, Vf, Vg, Vh, Vi, Vj, Vk, Vl, Vm, Vn, Vo, Vp, Vq, Vr, Vs, Vt, Vu, Vv, Vw, Vx, Vy, Vz, V10, V11, V12, V13, V14, V15, V16, V17, V18, V19, V1a, V1b, V1c, V1d, V1e, V1f, V1g, V1h, V1i, V1j, V1k, V1l, V1m, V1n, V1o, V1p, V1q, V1r, V1s, V1t, V1u, V1v, V1w, V1x, V1y, V1z, V20, V21, V22, V23, V24, V25, V26, V27, V28, V29, V2a, V2b, V2c, V2d, V2e, V2f, V2g, V2h, V2i, V2j, V2k, V2l, V2m, V2n, V2o, V2p, V2q, V2r, V2s, V2t, V2u, V2v, V2w, V2x, V2y, V2z, V30, V31, V32, V33, V34, V35, V36, X37, X38, X39, X3a, X3b, X3c, X3d, X3e, X3f, X3g, X3h, X3i, X3j, X3k, X3l, X3m, X3n, X3o, X3p, X3q, X3r, X3s, X3t, X3u, X3v, X3w, X3x, X3y, X3z, X40, X41, X42, X43, X44, X45, X46, X47, X48, X49, V4a, V4b, V4c, V4d, V4e, V4f, V4g, V4h, V4i, V4j, V4k, V4l, V4m, V4n, V4o, V4p, V4q, V4r, V4s, V4t, V4u, V4v, V4w, V4x, V4y, V4z, V50, V51, V52, V53, V54, V55, V56, V57, V58, V59, V5a, V5b, V5c, V5d, V5e, V5f, V5g, V5h, V5i, V5j, V5k, V5l, V5m, V5n, V5o, V5p, V5q, V5r, V5s, V5t, V5u, V5v, V5w, V5x, V5y, V5z, V60, V61, V62, V63, V64, V65, V66, V67, V68, V69, V6a, V6b, V6c, V6d, V6e, V6f, V6g, V6h, V6i, V6j, V6k, V6l, V6m, V6n, V6o, V6p, V6q, V6r, V6s, V6t, V6u, V6v, V6w, V6x, V6y, V6z, V70, V71, V72, V73, V74, V75, V76, V77, V78, V79, V7a, V7b, V7c, V7d, V7e, V7f, V7g, V7h, V7i, V7j, V7k, V7l, V7m, V7n, V7o, V7p, V7q, V7r, V7s, V7t, V7u, V7v, V7w, V7x, V7y, V7z, V80, V81, V82, V83, V84, V85, V86, V87, V88, V89, V8a, V8b, V8c, V8d, V8e, V8f, V8g, V8h, V8i, V8j, V8k, V8l, V8m, V8n, V8o, V8p, V8q, V8r, V8s, V8t, V8u, V8v, V8w, V8x, V8y, V8z, V90, V91, V92, V93, V94, V95, V96, V97, V98, V99, V9a, V9b, V9c, V9d, V9e, V9f, V9g, V9h, V9i, V9j, V9k, V9l, V9m, V9n, V9o, V9p, V9q, V9r, V9s, V9t, V9u, V9v, V9w, V9x, V9y, V9z, Va0, Va1, Va2, Va3, Va4, Va5, Va6, Va7, Va8, Va9, Vaa, Vab, Vac, Vad, Vae, Vaf, Vag, Vah, Vai, Vaj, Vak, Val, Vam, Van, Vao, Vap, Vaq, Var, Vas, Vat, Vau, Vav, Vaw, Vax, Vay, Vaz, Vb0, Vb1, Vb2, Vb3, Vb4, Vb5, Vb6, Vb7, Vb8, Vb9, Vba, Vbb, Vbc, Vbd, Vbe, Vbf, Vbg, Vbh, Vbi, Vbj, Vbk, Vbl, Vbm, Vbn, Vbo, Vbp, Vbq, Vbr, Vbs, Vbt, Vbu, Vbv, Vbw, Vbx, Vby, Vbz], defers := [] } wx) :
  Code.wp Tryz.prog (codeAt [true, true, true, true, true, true, true, false, true] Tryz.f8) (Exit.then K (bodyPost Tryz.prog Tryz.f8 R)) { tmps := #[V0, .pointer (some ⟨g1, 0, none⟩), V2, V3, .slice a0 n0 c0, V5, V6, V7, (0:Int), V9, Va, Vb, Vc, Vd, Ve, Vf, Vg, Vh, Vi, Vj, Vk, Vl, Vm, Vn, Vo, Vp, Vq, Vr, Vs, Vt, Vu, Vv, Vw, Vx, Vy, Vz, V10, V11, V12, V13, V14, V15, V16, V17, V18, V19, V1a, V1b, V1c, V1d, V1e, V1f, V1g, V1h, V1i, V1j, V1k, V1l, V1m, V1n, V1o, V1p, V1q, V1r, V1s, V1t, V1u, V1v, V1w, V1x, V1y, V1z, V20, V21, V22, V23, V24, V25, V26, V27, V28, V29, V2a, V2b, V2c, V2d, V2e, V2f, V2g, V2h, V2i, V2j, V2k, V2l, V2m, V2n, V2o, V2p, V2q, V2r, V2s, V2t, V2u, V2v, V2w, V2x, V2y, V2z, V30, V31, V32, V33, V34, V35, V36, V37, V38, V39, V3a, V3b, V3c, V3d, V3e, V3f, V3g, V3h, V3i, V3j, V3k, V3l, V3m, V3n, V3o, V3p, V3q, V3r, V3s, V3t, V3u, V3v, V3w, V3x, V3y, V3z, V40, V41, V42, V43, V44, V45, V46, V47, V48, V49, V4a, V4b, V4c, V4d, V4e, V4f, V4g, V4h, V4i, V4j, V4k, V4l, V4m, V4n, V4o, V4p, V4q, V4r, V4s, V4t, V4u, V4v, V4w, V4x, V4y, V4z, V50, V51, V52, V53, V54, V55, V56, V57, V58, V59, V5a, V5b, V5c, V5d, V5e, V5f, V5g, V5h, V5i, V5j, V5k, V5l, V5m, V5n, V5o, V5p, V5q, V5r, V5s, V5t, V5u, V5v, V5w, V5x, V5y, V5z, V60, V61, V62, V63, V64, V65, V66, V67, V68, V69, V6a, V6b, V6c, V6d, V6e, V6f, V6g, V6h, V6i, V6j, V6k, V6l, V6m, V6n, V6o, V6p, V6q, V6r, V6s, V6t, V6u, V6v, V6w, V6x, V6y, V6z, V70, V71, V72, V73, V74, V75, V76, V77, V78, V79, V7a, V7b, V7c, V7d, V7e, V7f, V7g, V7h, V7i, V7j, V7k, V7l, V7m, V7n, V7o, V7p, V7q, V7r, V7s, V7t, V7u, V7v, V7w, V7x, V7y, V7z, V80, V81, V82, V83, V84, V85, V86, V87, V88, V89, V8a, V8b, V8c, V8d, V8e, V8f, V8g, V8h, V8i, V8j, V8k, V8l, V8m, V8n, V8o, V8p, V8q, V8r, V8s, V8t, V8u, V8v, V8w, V8x, V8y, V8z, V90, V91, V92, V93, V94, V95, V96, V97, V98, V99, V9a, V9b, V9c, V9d, V9e, V9f, V9g, V9h, V9i, V9j, V9k, V9l, V9m, V9n, V9o, V9p, V9q, V9r, V9s, V9t, V9u, V9v, V9w, V9x, V9y, V9z, Va0, Va1, Va2, Va3, Va4, Va5, Va6, Va7, Va8, Va9, Vaa, Vab, Vac, Vad, Vae, Vaf, Vag, Vah, Vai, Vaj, Vak, Val, Vam, Van, Vao, Vap, Vaq, Var, Vas, Vat, Vau, Vav, Vaw, Vax, Vay, Vaz, Vb0, Vb1, Vb2, Vb3, Vb4, Vb5, Vb6, Vb7, Vb8, Vb9, Vba, Vbb, Vbc, Vbd, Vbe, Vbf, Vbg, Vbh, Vbi, Vbj, Vbk, Vbl, Vbm, Vbn, Vbo, Vbp, Vbq, Vbr, Vbs, Vbt, Vbu, Vbv, Vbw, Vbx, Vby, Vbz], defers := [] } w1 := by
 refine wp_at (c := _) rfl (.r (.r (.r (.r (.r (.r (.r (.l (.r (.nil)))))))))) ?_
 have HBASE : Hid (W.heap.size ≤ W.heap.size) := Nat.le_refl _
 go_wp2_with fail
 go_loopw [4, 8] (fun v4 v5 wr => ∃ (k : Nat) (aw : Option Addr) (mw cw : Nat), k ≤ n3 ∧ v5 = .int .i64 k ∧ v4 = .slice aw mw cw ∧ BK W.heap.size W (.slice none 0 0) (l ++ encG AsT.bytes (L.take k)) (.slice aw mw cw) wr) (fun _ i _ => n3 - (intOf i).toNat)
 case atStart => exact ⟨0, _, _, _, Nat.zero_le _, rfl, rfl, by simpa [encG] using HBK1.out⟩
 case round =>
  obtain ⟨k, aw, mw, cw, hk, rfl, rfl, hbk⟩ := hrel
  have HBK := Lh hbk
  have hbox := hbk.box HBOX.out HNE.out
  have H3 := hbox.cell (j := 5) HFC.out
  have hup : (n3 : Int) ≤ 1024 := by have := HNN.out.2; omega
  by_cases hlt : k < n3
  ·
   have hkL : k < L.length := by rw [← HNN.out.1]; exact hlt
   have hrows : Rs AsT.vs 4 wr (.slice a3 L.length c3) L := by rw [← HNN.out.1]; exact HROWS.out wr hbk.2.1
   obtain ⟨bD, oD, rfl, hbw, hat⟩ := hrows.at (by omega) (by decide)
   obtain ⟨d, hc⟩ : ∃ d, d = L[k] := ⟨_, rfl⟩
   have HC := Lh hc
   have HKW : Hid (Kept (fun k => (Value.slice none 0 0).ownBlock = some k) W wr) := hbk.2.1
   have HLL : Hid ((l ++ encG AsT.bytes (L.take k)).length ≤ 1000000000) := wsl _ (fun x hx => AsT.blen x (HRD.out x hx)) (by have := HNN.out; omega) HLN.out
   have hk0 : (0 : Int) ≤ k := by omega
   have hk1 : (k : Int) < n3 := by omega
   have HAT : Hid (∀ x, Kept (fun k => (Value.slice none 0 0).ownBlock = some k) W x → x.cell? ⟨bD, oD + k * 4, none⟩ = some (.int .i64 d.no) ∧ x.cell? ⟨bD, oD + k * 4 + 1, none⟩ = some (.int .i64 d.cur) ∧ x.cell? ⟨bD, oD + k * 4 + 2, none⟩ = some (.int .i64 d.price) ∧ x.cell? ⟨bD, oD + k * 4 + 3, none⟩ = some (.int .i64 d.cut)) := by
    intro x hx
    have hr := HROWS.out x hx
    rw [HNN.out.1] at hr
    rw [hc]
    exact ⟨hr.cells (by decide) hkL (j := 0) rfl, hr.cells (by decide) hkL (j := 1) rfl, hr.cells (by decide) hkL (j := 2) rfl, hr.cells (by decide) hkL (j := 3) rfl⟩
   have HRG : Hid (okI [d.no, d.cur, d.price, d.cut]) := by rw [hc]; exact HRD.out _ (List.getElem_mem hkL)
   clear hrows hat hc hbk hbox
   go_upto_region 18 with fail
   refine wp_region_uni (S0 := fun x => Kept (fun k => (Value.slice none 0 0).ownBlock = some k) W x) (S := BL wr) 32 (by kernel_rfl) (Below.refl _ _).drew ?_
   refine uP 3 [(0, some 123, .slice aw mw cw), (1, some 124, .pointer (some ⟨g1, 3, none⟩)), (2, some 125, .pointer (some ⟨g1, 5, none⟩))] (BLK.cls HKW.out) ?_
   refine uL 3 (some 126) (.slice (some ⟨bD, oD, none⟩) n3 c3) (BLK.cls HKW.out) (p := ⟨g1, 5, none⟩) (fun w hSw => (HBOX.out.keptH hSw HNE.out).cell (j := 5) HFC.out) ?_
   refine uP 1 [(4, some 127, .int .i64 (k : Int))] (BLK.cls HKW.out) ?_
   simp only [zq]
   refine uG 5 (some 128) (.pointer (some ⟨bD, oD + k * 4, none⟩)) (BLK.cls HKW.out) ?_
   refine uP 1 [(6, some 129, .pointer (some ⟨bD, oD + k * 4, none⟩))] (BLK.cls HKW.out) ?_
   refine uL 7 (some 130) (.int .i64 d.no) (BLK.cls HKW.out) (p := ⟨bD, oD + k * 4, none⟩) (fun w hSw => (HAT.out w hSw).1) ?_
   simp only [zq]
   refine uP 2 [(8, some 131, .pointer (some ⟨g1, 3, none⟩)), (9, some 132, .pointer (some ⟨g1, 5, none⟩))] (BLK.cls HKW.out) ?_
   refine uL 10 (some 133) (.slice (some ⟨bD, oD, none⟩) n3 c3) (BLK.cls HKW.out) (p := ⟨g1, 5, none⟩) (fun w hSw => (HBOX.out.keptH hSw HNE.out).cell (j := 5) HFC.out) ?_
   refine uP 1 [(11, some 134, .int .i64 (k : Int))] (BLK.cls HKW.out) ?_
   simp only [zq]
   refine uG 12 (some 135) (.pointer (some ⟨bD, oD + k * 4, none⟩)) (BLK.cls HKW.out) ?_
   refine uP 1 [(13, some 136, .pointer (some ⟨bD, oD + k * 4 + 1, none⟩))] (BLK.cls HKW.out) ?_
   refine uL 14 (some 137) (.int .i64 d.cur) (BLK.cls HKW.out) (p := ⟨bD, oD + k * 4 + 1, none⟩) (fun w hSw => (HAT.out w hSw).2.1) ?_
   simp only [zq]
   refine uP 2 [(15, some 138, .pointer (some ⟨g1, 3, none⟩)), (16, some 139, .pointer (some ⟨g1, 5, none⟩))] (BLK.cls HKW.out) ?_
   refine uL 17 (some 140) (.slice (some ⟨bD, oD, none⟩) n3 c3) (BLK.cls HKW.out) (p := ⟨g1, 5, none⟩) (fun w hSw => (HBOX.out.keptH hSw HNE.out).cell (j := 5) HFC.out) ?_
   refine uP 1 [(18, some 141, .int .i64 (k : Int))] (BLK.cls HKW.out) ?_
   simp only [zq]
   refine uG 19 (some 142) (.pointer (some ⟨bD, oD + k * 4, none⟩)) (BLK.cls HKW.out) ?_
   refine uP 1 [(20, some 143, .pointer (some ⟨bD, oD + k * 4 + 2, none⟩))] (BLK.cls HKW.out) ?_
   refine uL 21 (some 144) (.int .i64 d.price) (BLK.cls HKW.out) (p := ⟨bD, oD + k * 4 + 2, none⟩) (fun w hSw => (HAT.out w hSw).2.2.1) ?_
   simp only [zq]
   refine uP 2 [(22, some 145, .pointer (some ⟨g1, 3, none⟩)), (23, some 146, .pointer (some ⟨g1, 5, none⟩))] (BLK.cls HKW.out) ?_
   refine uL 24 (some 147) (.slice (some ⟨bD, oD, none⟩) n3 c3) (BLK.cls HKW.out) (p := ⟨g1, 5, none⟩) (fun w hSw => (HBOX.out.keptH hSw HNE.out).cell (j := 5) HFC.out) ?_
   refine uP 1 [(25, some 148, .int .i64 (k : Int))] (BLK.cls HKW.out) ?_
   simp only [zq]
   refine uG 26 (some 149) (.pointer (some ⟨bD, oD + k * 4, none⟩)) (BLK.cls HKW.out) ?_
   refine uP 1 [(27, some 150, .pointer (some ⟨bD, oD + k * 4 + 3, none⟩))] (BLK.cls HKW.out) ?_
   refine uL 28 (some 151) (.int .i64 d.cut) (BLK.cls HKW.out) (p := ⟨bD, oD + k * 4 + 3, none⟩) (fun w hSw => (HAT.out w hSw).2.2.2) ?_
   simp only [zq]
   refine uS 29 rfl (fun wA29 hA29 K hK => ?_)
   go_simp
   have hkA : Kept (fun k => (Value.slice none 0 0).ownBlock = some k) W (wA29.alloc (.cells #[d.no, d.cur, d.price, d.cut] 3)) := (HKW.out.trans (Kept.of_below hA29) (fun _ _ h => h.elim)).alloc _
   refine hK.out _ _ (BL (wA29.alloc (.cells #[d.no, d.cur, d.price, d.cut] 3))) (BLK.cls hkA) (Below.refl _ _) ?_
   clear hK K
   try simp only [zq]
   refine uS 30 rfl (fun wA30 hA30 K hK => ?_)
   go_simp
   have hbl : Below wr.heap.size wr wA30 := (Below.alloc hA29 hA29.size (.cells #[d.no, d.cur, d.price, d.cut] 3)).trans (hA30.mono (by simp; exact Nat.le_succ_of_le hA29.size))
   have his : Is (wA29.alloc (.cells #[d.no, d.cur, d.price, d.cut] 3)) (.slice (some ⟨wA29.heap.size, 0, none⟩) 4 4) [d.no, d.cur, d.price, d.cut] := Is.block (l := [d.no, d.cur, d.price, d.cut]) (heap_new rfl) (Nat.le_refl _) (by simp [maxLen])
   refine (BK.num HBK.out hbl (his.mono hA30) HRG.out (by simp) HLL.out HBASE.out).mono ?_
   rintro e wn ⟨a3, n3, c3, rfl, hbk⟩
   refine hK.out _ _ (BK W.heap.size W (.slice none 0 0) (l ++ encG AsT.bytes (L.take k) ++ encIs [d.no, d.cur, d.price, d.cut]) (.slice a3 n3 c3)) BK.cls hbk ?_
   clear hbl his hbk
   clear hK K
   try simp only [zq]
   refine uP 1 [(31, some 4, .slice a3 n3 c3)] BK.cls ?_
   simp only [zq]
   refine wpAnyU_done (by kernel_rfl) (fun w1 hb1 => ?_) _
   have HBN := Lh hb1
   clear hb1
   go_wp2_with fail
   first
    | exact ⟨⟨k + 1, a3, n3, c3, by omega, by push_cast; rfl, rfl, by rw [encG_snoc _ hkL, ← HC.out, ← List.append_assoc]; exact HBN.out⟩, by simp [intOf]; omega⟩
    | ((repeat apply Exists.intro); exact ⟨⟨k + 1, a3, n3, c3, by omega, by push_cast; rfl, rfl, by rw [encG_snoc _ hkL, ← HC.out, ← List.append_assoc]; exact HBN.out⟩, rfl⟩)
  ·
   obtain rfl : n3 = k := by omega
   rw [List.take_of_length_le (by rw [← HNN.out.1]; exact Nat.le_refl _)] at hbk
   have HF : Hid (WsP W (l ++ encG AsT.bytes L) aw mw cw wr) := hbk
   clear hbk HBK hbox
   go_wp2_with fail
   exact HF.out
theorem ws_pos {w1 W : World} {g1 : Nat} {C : List Value} {a5 : Option Addr} {n5 c5 : Nat} {l : List UInt8} {a0 : Option Addr} {n0 c0 : Nat} {K : Act → World → Prop} {R : Ending → World → Prop} (HBOX : Hid (HT W g1 41 C)) (HNE : Hid ((Value.slice none 0 0).ownBlock ≠ some g1)) (HFC : Hid (C[8]? = some (.slice a5 n5 c5))) {L : List PoT} (HROWS : Hid (∀ x, Kept (fun k => (Value.slice none 0 0).ownBlock = some k) W x → Rs PoT.vs 4 x (.slice a5 n5 c5) L)) (HNN : Hid (n5 = L.length ∧ n5 ≤ 1024)) (HRD : Hid (∀ x ∈ L, okI x.ints)) (HLN : Hid (l.length ≤ 500000000)) (HBK1 : Hid (BK W.heap.size W (.slice none 0 0) l (.slice a0 n0 c0) w1))
  (hQ : ∀ (Xb X5o X5p X5q X5r X5s X5t X5u X5v X5w X5x X5y X5z X60 X61 X62 X63 X64 X65 X66 X67 X68 X69 X6a X6b X6c X6d X6e X6f X6g X6h X6i X6j X6k X6l X6m X6n X6o X6p X6q X6r X6s : Value) (a : Option Addr) (n c : Nat) (wx : World), WsP W (l ++ encG PoT.bytes L) a n c wx → K { tmps := #[V0, .pointer (some ⟨g1, 0, none⟩), V2, V3, .slice a n c, V5, V6, V7, V8, V9, Va, Xb, Vc, Vd, Ve, Vf, Vg, Vh, Vi, Vj, Vk, Vl, Vm, Vn, Vo, Vp, Vq, Vr, Vs, Vt, Vu, Vv, Vw, Vx, Vy, Vz, V10, V11, V12, V13, V14, V15, V16, V17, V18, V19, V1a, V1b, V1c, V1d, V1e, V1f, V1g, V1h, V1i, V1j, V1k, V1l, V1m, V1n, V1o, V1p, V1q, V1r, V1s, V1t, V1u, V1v, V1w, V1x, V1y, V1z, V20, V21, V22, V23, V24, V25, V26, V27, V28, V29, V2a, V2b, V2c, V2d, V2e, V2f, V2g, V2h, V2i, V2j, V2k, V2l, V2m, V2n, V2o, V2p, V2q, V2r, V2s, V2t, V2u, V2v, V2w, V2x, V2y, V2z, V30, V31, V32, V33, V34, V35, V36, V37, V38, V39, V3a, V3b, V3c, V3d, V3e, V3f, V3g, V3h, V3i, V3j, V3k, V3l, V3m, V3n, V3o, V3p, V3q, V3r, V3s, V3t, V3u, V3v, V3w, V3x, V3y, V3z, V40, V41, V42, V43, V44, V45, V46, V47, V48, V49, V4a, V4b, V4c, V4d, V4e, V4f, V4g, V4h, V4i, V4j, V4k, V4l, V4m, V4n, V4o, V4p, V4q, V4r, V4s, V4t, V4u, V4v, V4w, V4x, V4y, V4z, V50, V51, V52, V53, V54, V55, V56, V57, V58, V59, V5a, V5b, V5c, V5d, V5e, V5f, V5g, V5h, V5i, V5j, V5k, V5l, V5m, V5n, X5o, X5p, X5q, X5r, X5s, X5t, X5u, X5v, X5w, X5x, X5y, X5z, X60, X61, X62, X63, X64, X65, X66, X67, X68, X69, X6a, X6b, X6c, X6d, X6e, X6f, X6g, X6h, X6i, X6j, X6k, X6l, X6m, X6n, X6o, X6p, X6q, X6r, X6s, V6t, V6u, V6v, V6w, V6x, V6y, V6z, V70, V71, V72, V73, V74, V75, V76, V77, V78, V79, V7a, V7b, V7c, V7d, V7e, V7f, V7g, V7h, V7i, V7j, V7k, V7l, V7m, V7n, V7o, V7p, V7q, V7r, V7s, V7t, V7u, V7v, V7w, V7x, V7y, V7z, V80, V81, V82, V83, V84, V85, V86, V87, V88, V89, V8a, V8b, V8c, V8d, V8e, V8f, V8g, V8h, V8i, V8j, V8k, V8l, V8m, V8n, V8o, V8p, V8q, V8r, V8s, V8t, V8u, V8v, V8w, V8x, V8y, V8z, V90, V91, V92, V93, V94, V95, V96, V97, V98, V99, V9a, V9b, V9c, V9d, V9e, V9f, V9g, V9h, V9i, V9j, V9k, V9l, V9m, V9n, V9o, V9p, V9q, V9r, V9s, V9t, V9u, V9v, V9w, V9x, V9y, V9z, Va0, Va1, Va2, Va3, Va4, Va5, Va6, Va7, Va8, Va9, Vaa, Vab, Vac, Vad, Vae, Vaf, Vag, Vah, Vai, Vaj, Vak, Val, Vam, Van, Vao, Vap, Vaq, Var, Vas, Vat, Vau, Vav, Vaw, Vax, Vay, Vaz, Vb0, Vb1, Vb2, Vb3, Vb4, Vb5, Vb6, Vb7, Vb8, Vb9, Vba, Vbb, Vbc, Vbd, Vbe, Vbf, Vbg, Vbh, Vbi, Vbj, Vbk, Vbl, Vbm, Vbn, Vbo, Vbp, Vbq, Vbr, Vbs, Vbt, Vbu, Vbv, Vbw, Vbx, Vby, Vbz], defers := [] } wx) :
  Code.wp Tryz.prog (codeAt [true, true, true, true, true, true, true, true, true, true, true, false, true] Tryz.f8) (Exit.then K (bodyPost Tryz.prog Tryz.f8 R)) { tmps := #[V0, .pointer (some ⟨g1, 0, none⟩), V2, V3, .slice a0 n0 c0, V5, V6, V7, V8, V9, Va, (0:Int), Vc, Vd, Ve, Vf, Vg, Vh, Vi, Vj, Vk, Vl, Vm, Vn, Vo, Vp, Vq, Vr, Vs, Vt, Vu, Vv, Vw, Vx, Vy, Vz, V10, V11, V12, V13, V14, V15, V16, V17, V18, V19, V1a, V1b, V1c, V1d, V1e, V1f, V1g, V1h, V1i, V1j, V1k, V1l, V1m, V1n, V1o, V1p, V1q, V1r, V1s, V1t, V1u, V1v, V1w, V1x, V1y, V1z, V20, V21, V22, V23, V24, V25, V26, V27, V28, V29, V2a, V2b, V2c, V2d, V2e, V2f, V2g, V2h, V2i, V2j, V2k, V2l, V2m, V2n, V2o, V2p, V2q, V2r, V2s, V2t, V2u, V2v, V2w, V2x, V2y, V2z, V30, V31, V32, V33, V34, V35, V36, V37, V38, V39, V3a, V3b, V3c, V3d, V3e, V3f, V3g, V3h, V3i, V3j, V3k, V3l, V3m, V3n, V3o, V3p, V3q, V3r, V3s, V3t, V3u, V3v, V3w, V3x, V3y, V3z, V40, V41, V42, V43, V44, V45, V46, V47, V48, V49, V4a, V4b, V4c, V4d, V4e, V4f, V4g, V4h, V4i, V4j, V4k, V4l, V4m, V4n, V4o, V4p, V4q, V4r, V4s, V4t, V4u, V4v, V4w, V4x, V4y, V4z, V50, V51, V52, V53, V54, V55, V56, V57, V58, V59, V5a, V5b, V5c, V5d, V5e, V5f, V5g, V5h, V5i, V5j, V5k, V5l, V5m, V5n, V5o, V5p, V5q, V5r, V5s, V5t, V5u, V5v, V5w, V5x, V5y, V5z, V60, V61, V62, V63, V64, V65, V66, V67, V68, V69, V6a, V6b, V6c, V6d, V6e, V6f, V6g, V6h, V6i, V6j, V6k, V6l, V6m, V6n, V6o, V6p, V6q, V6r, V6s, V6t, V6u, V6v, V6w, V6x, V6y, V6z, V70, V71, V72, V73, V74, V75, V76, V77, V78, V79, V7a, V7b, V7c, V7d, V7e, V7f, V7g, V7h, V7i, V7j, V7k, V7l, V7m, V7n, V7o, V7p, V7q, V7r, V7s, V7t, V7u, V7v, V7w, V7x, V7y, V7z, V80, V81, V82, V83, V84, V85, V86, V87, V88, V89, V8a, V8b, V8c, V8d, V8e, V8f, V8g, V8h, V8i, V8j, V8k, V8l, V8m, V8n, V8o, V8p, V8q, V8r, V8s, V8t, V8u, V8v, V8w, V8x, V8y, V8z, V90, V91, V92, V93, V94, V95, V96, V97, V98, V99, V9a, V9b, V9c, V9d, V9e, V9f, V9g, V9h, V9i, V9j, V9k, V9l, V9m, V9n, V9o, V9p, V9q, V9r, V9s, V9t, V9u, V9v, V9w, V9x, V9y, V9z, Va0, Va1, Va2, Va3, Va4, Va5, Va6, Va7, Va8, Va9, Vaa, Vab, Vac, Vad, Vae, Vaf, Vag, Vah, Vai, Vaj, Vak, Val, Vam, Van, Vao, Vap, Vaq, Var, Vas, Vat, Vau, Vav, Vaw, Vax, Vay, Vaz, Vb0, Vb1, Vb2, Vb3, Vb4, Vb5, Vb6, Vb7, Vb8, Vb9, Vba, Vbb, Vbc, Vbd, Vbe, Vbf, Vbg, Vbh, Vbi, Vbj, Vbk, Vbl, Vbm, Vbn, Vbo, Vbp, Vbq, Vbr, Vbs, Vbt, Vbu, Vbv, Vbw, Vbx, Vby, Vbz], defers := [] } w1 := by
 refine wp_at (c := _) rfl (.r (.r (.r (.r (.r (.r (.r (.r (.r (.r (.r (.l (.r (.nil)))))))))))))) ?_
 have HBASE : Hid (W.heap.size ≤ W.heap.size) := Nat.le_refl _
 go_wp2_with fail
 go_loopw [4, 11] (fun v4 v5 wr => ∃ (k : Nat) (aw : Option Addr) (mw cw : Nat), k ≤ n5 ∧ v5 = .int .i64 k ∧ v4 = .slice aw mw cw ∧ BK W.heap.size W (.slice none 0 0) (l ++ encG PoT.bytes (L.take k)) (.slice aw mw cw) wr) (fun _ i _ => n5 - (intOf i).toNat)
 case atStart => exact ⟨0, _, _, _, Nat.zero_le _, rfl, rfl, by simpa [encG] using HBK1.out⟩
 case round =>
  obtain ⟨k, aw, mw, cw, hk, rfl, rfl, hbk⟩ := hrel
  have HBK := Lh hbk
  have hbox := hbk.box HBOX.out HNE.out
  have H3 := hbox.cell (j := 8) HFC.out
  have hup : (n5 : Int) ≤ 1024 := by have := HNN.out.2; omega
  by_cases hlt : k < n5
  ·
   have hkL : k < L.length := by rw [← HNN.out.1]; exact hlt
   have hrows : Rs PoT.vs 4 wr (.slice a5 L.length c5) L := by rw [← HNN.out.1]; exact HROWS.out wr hbk.2.1
   obtain ⟨bD, oD, rfl, hbw, hat⟩ := hrows.at (by omega) (by decide)
   obtain ⟨d, hc⟩ : ∃ d, d = L[k] := ⟨_, rfl⟩
   have HC := Lh hc
   have HKW : Hid (Kept (fun k => (Value.slice none 0 0).ownBlock = some k) W wr) := hbk.2.1
   have HLL : Hid ((l ++ encG PoT.bytes (L.take k)).length ≤ 1000000000) := wsl _ (fun x hx => PoT.blen x (HRD.out x hx)) (by have := HNN.out; omega) HLN.out
   have hk0 : (0 : Int) ≤ k := by omega
   have hk1 : (k : Int) < n5 := by omega
   have HAT : Hid (∀ x, Kept (fun k => (Value.slice none 0 0).ownBlock = some k) W x → x.cell? ⟨bD, oD + k * 4, none⟩ = some (.int .i64 d.who) ∧ x.cell? ⟨bD, oD + k * 4 + 1, none⟩ = some (.int .i64 d.inst) ∧ x.cell? ⟨bD, oD + k * 4 + 2, none⟩ = some (.int .i64 d.qty) ∧ x.cell? ⟨bD, oD + k * 4 + 3, none⟩ = some (.int .i64 d.cost)) := by
    intro x hx
    have hr := HROWS.out x hx
    rw [HNN.out.1] at hr
    rw [hc]
    exact ⟨hr.cells (by decide) hkL (j := 0) rfl, hr.cells (by decide) hkL (j := 1) rfl, hr.cells (by decide) hkL (j := 2) rfl, hr.cells (by decide) hkL (j := 3) rfl⟩
   have HRG : Hid (okI [d.who, d.inst, d.qty, d.cost]) := by rw [hc]; exact HRD.out _ (List.getElem_mem hkL)
   clear hrows hat hc hbk hbox
   go_upto_region 29 with fail
   refine wp_region_uni (S0 := fun x => Kept (fun k => (Value.slice none 0 0).ownBlock = some k) W x) (S := BL wr) 34 (by kernel_rfl) (Below.refl _ _).drew ?_
   refine uP 3 [(0, some 212, .slice aw mw cw), (1, some 213, .pointer (some ⟨g1, 6, none⟩)), (2, some 214, .pointer (some ⟨g1, 8, none⟩))] (BLK.cls HKW.out) ?_
   refine uL 3 (some 215) (.slice (some ⟨bD, oD, none⟩) n5 c5) (BLK.cls HKW.out) (p := ⟨g1, 8, none⟩) (fun w hSw => (HBOX.out.keptH hSw HNE.out).cell (j := 8) HFC.out) ?_
   refine uP 1 [(4, some 216, .int .i64 (k : Int))] (BLK.cls HKW.out) ?_
   simp only [zq]
   refine uG 5 (some 217) (.pointer (some ⟨bD, oD + k * 4, none⟩)) (BLK.cls HKW.out) ?_
   refine uP 2 [(6, some 218, .pointer (some ⟨bD, oD + k * 4, none⟩)), (7, some 219, .pointer (some ⟨bD, oD + k * 4, none⟩))] (BLK.cls HKW.out) ?_
   refine uL 8 (some 220) (.int .i64 d.who) (BLK.cls HKW.out) (p := ⟨bD, oD + k * 4, none⟩) (fun w hSw => (HAT.out w hSw).1) ?_
   simp only [zq]
   refine uP 2 [(9, some 221, .pointer (some ⟨g1, 6, none⟩)), (10, some 222, .pointer (some ⟨g1, 8, none⟩))] (BLK.cls HKW.out) ?_
   refine uL 11 (some 223) (.slice (some ⟨bD, oD, none⟩) n5 c5) (BLK.cls HKW.out) (p := ⟨g1, 8, none⟩) (fun w hSw => (HBOX.out.keptH hSw HNE.out).cell (j := 8) HFC.out) ?_
   refine uP 1 [(12, some 224, .int .i64 (k : Int))] (BLK.cls HKW.out) ?_
   simp only [zq]
   refine uG 13 (some 225) (.pointer (some ⟨bD, oD + k * 4, none⟩)) (BLK.cls HKW.out) ?_
   refine uP 2 [(14, some 226, .pointer (some ⟨bD, oD + k * 4, none⟩)), (15, some 227, .pointer (some ⟨bD, oD + k * 4 + 1, none⟩))] (BLK.cls HKW.out) ?_
   refine uL 16 (some 228) (.int .i64 d.inst) (BLK.cls HKW.out) (p := ⟨bD, oD + k * 4 + 1, none⟩) (fun w hSw => (HAT.out w hSw).2.1) ?_
   simp only [zq]
   refine uP 2 [(17, some 229, .pointer (some ⟨g1, 6, none⟩)), (18, some 230, .pointer (some ⟨g1, 8, none⟩))] (BLK.cls HKW.out) ?_
   refine uL 19 (some 231) (.slice (some ⟨bD, oD, none⟩) n5 c5) (BLK.cls HKW.out) (p := ⟨g1, 8, none⟩) (fun w hSw => (HBOX.out.keptH hSw HNE.out).cell (j := 8) HFC.out) ?_
   refine uP 1 [(20, some 232, .int .i64 (k : Int))] (BLK.cls HKW.out) ?_
   simp only [zq]
   refine uG 21 (some 233) (.pointer (some ⟨bD, oD + k * 4, none⟩)) (BLK.cls HKW.out) ?_
   refine uP 1 [(22, some 234, .pointer (some ⟨bD, oD + k * 4 + 2, none⟩))] (BLK.cls HKW.out) ?_
   refine uL 23 (some 235) (.int .i64 d.qty) (BLK.cls HKW.out) (p := ⟨bD, oD + k * 4 + 2, none⟩) (fun w hSw => (HAT.out w hSw).2.2.1) ?_
   simp only [zq]
   refine uP 2 [(24, some 236, .pointer (some ⟨g1, 6, none⟩)), (25, some 237, .pointer (some ⟨g1, 8, none⟩))] (BLK.cls HKW.out) ?_
   refine uL 26 (some 238) (.slice (some ⟨bD, oD, none⟩) n5 c5) (BLK.cls HKW.out) (p := ⟨g1, 8, none⟩) (fun w hSw => (HBOX.out.keptH hSw HNE.out).cell (j := 8) HFC.out) ?_
   refine uP 1 [(27, some 239, .int .i64 (k : Int))] (BLK.cls HKW.out) ?_
   simp only [zq]
   refine uG 28 (some 240) (.pointer (some ⟨bD, oD + k * 4, none⟩)) (BLK.cls HKW.out) ?_
   refine uP 1 [(29, some 241, .pointer (some ⟨bD, oD + k * 4 + 3, none⟩))] (BLK.cls HKW.out) ?_
   refine uL 30 (some 242) (.int .i64 d.cost) (BLK.cls HKW.out) (p := ⟨bD, oD + k * 4 + 3, none⟩) (fun w hSw => (HAT.out w hSw).2.2.2) ?_
   simp only [zq]
   refine uS 31 rfl (fun wA31 hA31 K hK => ?_)
   go_simp
   have hkA : Kept (fun k => (Value.slice none 0 0).ownBlock = some k) W (wA31.alloc (.cells #[d.who, d.inst, d.qty, d.cost] 3)) := (HKW.out.trans (Kept.of_below hA31) (fun _ _ h => h.elim)).alloc _
   refine hK.out _ _ (BL (wA31.alloc (.cells #[d.who, d.inst, d.qty, d.cost] 3))) (BLK.cls hkA) (Below.refl _ _) ?_
   clear hK K
   try simp only [zq]
   refine uS 32 rfl (fun wA32 hA32 K hK => ?_)
   go_simp
   have hbl : Below wr.heap.size wr wA32 := (Below.alloc hA31 hA31.size (.cells #[d.who, d.inst, d.qty, d.cost] 3)).trans (hA32.mono (by simp; exact Nat.le_succ_of_le hA31.size))
   have his : Is (wA31.alloc (.cells #[d.who, d.inst, d.qty, d.cost] 3)) (.slice (some ⟨wA31.heap.size, 0, none⟩) 4 4) [d.who, d.inst, d.qty, d.cost] := Is.block (l := [d.who, d.inst, d.qty, d.cost]) (heap_new rfl) (Nat.le_refl _) (by simp [maxLen])
   refine (BK.num HBK.out hbl (his.mono hA32) HRG.out (by simp) HLL.out HBASE.out).mono ?_
   rintro e wn ⟨a3, n3, c3, rfl, hbk⟩
   refine hK.out _ _ (BK W.heap.size W (.slice none 0 0) (l ++ encG PoT.bytes (L.take k) ++ encIs [d.who, d.inst, d.qty, d.cost]) (.slice a3 n3 c3)) BK.cls hbk ?_
   clear hbl his hbk
   clear hK K
   try simp only [zq]
   refine uP 1 [(33, some 4, .slice a3 n3 c3)] BK.cls ?_
   simp only [zq]
   refine wpAnyU_done (by kernel_rfl) (fun w1 hb1 => ?_) _
   have HBN := Lh hb1
   clear hb1
   go_wp2_with fail
   first
    | exact ⟨⟨k + 1, a3, n3, c3, by omega, by push_cast; rfl, rfl, by rw [encG_snoc _ hkL, ← HC.out, ← List.append_assoc]; exact HBN.out⟩, by simp [intOf]; omega⟩
    | ((repeat apply Exists.intro); exact ⟨⟨k + 1, a3, n3, c3, by omega, by push_cast; rfl, rfl, by rw [encG_snoc _ hkL, ← HC.out, ← List.append_assoc]; exact HBN.out⟩, rfl⟩)
  ·
   obtain rfl : n5 = k := by omega
   rw [List.take_of_length_le (by rw [← HNN.out.1]; exact Nat.le_refl _)] at hbk
   have HF : Hid (WsP W (l ++ encG PoT.bytes L) aw mw cw wr) := hbk
   clear hbk HBK hbox
   go_wp2_with fail
   exact HF.out
end Cam
