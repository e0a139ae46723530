import Derived.Test.YtgeclnjkkjmbaaaGreatWqSz
/- cambistref24: State: pledges, calls. -/
namespace Cam
open Go Go.RowKit Go.Proofs
set_option linter.unusedVariables false
set_option linter.unusedSimpArgs false
set_option maxRecDepth 100000
set_option maxHeartbeats 6400000
variable {V0 V1 V2 V3 V4 V5 V6 V7 V8 V9 Va Vb Vc Vd Ve Vf Vg Vh Vi Vj Vk Vl Vm Vn Vo Vp Vq Vr Vs Vt Vu Vv Vw Vx Vy Vz V10 V11 V12 V13 V14 V15 V16 V17 V18 V19 V1a V1b V1c V1d V1e V1f V1g V1h V1i V1j V1k V1l V1m V1n V1o V1p V1q V1r V1s V1t V1u V1v V1w V1x V1y V1z V20 V21 V22 V23 V24 V25 V26 V27 V28 V29 V2a V2b V2c V2d V2e V2f V2g V2h V2i V2j V2k V2l V2m V2n V2o V2p V2q V2r V2s V2t V2u V2v V2w V2x V2y V2z V30 V31 V32 V33 V34 V35 V36 V37 V38 V39 V3a V3b V3c V3d V3e V3f V3g V3h V3i V3j V3k V3l V3m V3n V3o V3p V3q V3r V3s V3t V3u V3v V3w V3x V3y V3z V40 V41 V42 V43 V44 V45 V46 V47 V48 V49 V4a V4b V4c V4d V4e V4f V4g V4h V4i V4j V4k V4l V4m V4n V4o V4p V4q V4r V4s V4t V4u V4v V4w V4x V4y V4z V50 V51 V52 V53 V54 V55 V56 V57 V58 V59 V5a V5b V5c V5d V5e V5f V5g V5h V5i V5j V5k V5l V5m V5n V5o V5p V5q V5r V5s V5t V5u V5v V5w V5x V5y V5z V60 V61 V62 V63 V64 V65 V66 V67 V68 V69 V6a V6b V6c V6d V6e V6f V6g V6h V6i V6j V6k V6l V6m V6n V6o V6p V6q V6r V6s V6t V6u V6v V6w V6x V6y V6z V70 V71 V72 V73 V74 V75 V76 V77 V78 V79 V7a V7b V7c V7d V7e V7f V7g V7h V7i V7j V7k V7l V7m V7n V7o V7p V7q V7r V7s V7t V7u V7v V7w V7x V7y V7z V80 V81 V82 V83 V84 V85 V86 V87 V88 V89 V8a V8b V8c V8d V8e V8f V8g V8h V8i V8j V8k V8l V8m V8n V8o V8p V8q V8r V8s V8t V8u V8v V8w V8x V8y V8z V90 V91 V92 V93 V94 V95 V96 V97 V98 V99 V9a V9b V9c V9d V9e V9f V9g V9h V9i V9j V9k V9l V9m V9n V9o V9p V9q V9r V9s V9t V9u V9v V9w V9x V9y V9z Va0 Va1 Va2 Va3 Va4 Va5 Va6 Va7 Va8 Va9 Vaa Vab Vac Vad Vae Vaf Vag Vah Vai Vaj Vak Val Vam Van Vao Vap Vaq Var Vas Vat Vau Vav Vaw Vax Vay Vaz Vb0 Vb1 Vb2 Vb3 Vb4 Vb5 Vb6 Vb7 Vb8 Vb9 Vba Vbb Vbc Vbd Vbe Vbf Vbg Vbh Vbi Vbj Vbk Vbl Vbm Vbn Vbo Vbp Vbq Vbr Vbs Vbt Vbu Vbv Vbw Vbx Vby Vbz : Value}
theorem ws_ple {w1 W : World} {g1 : Nat} {C : List Value} {a7 : Option Addr} {n7 c7 : Nat} {l : List UInt8} {a0 : Option Addr} {n0 c0 : Nat} {K : Act → World → Prop} {R : Ending → World → Prop} (HBOX : Hid (HT W g1 41 C)) (HNE : Hid ((Value.slice none 0 0).ownBlock ≠ some g1)) (HFC : Hid (C[11]? = some (.slice a7 n7 c7))) {L : List PlT} (HROWS : Hid (∀ x, Kept (fun k => (Value.slice none 0 0).ownBlock = some k) W x → Rs PlT.vs 3 x (.slice a7 n7 c7) L)) (HNN : Hid (n7 = L.length ∧ n7 ≤ 1024)) (HRD : Hid (∀ x ∈ L, okI x.ints)) (HLN : Hid (l.length ≤ 500000000)) (HBK1 : Hid (BK W.heap.size W (.slice none 0 0) l (.slice a0 n0 c0) w1))
  (hQ : ∀ (Xe X81 X82 X83 X84 X85 X86 X87 X88 X89 X8a X8b X8c X8d X8e X8f X8g X8h X8i X8j X8k X8l X8m X8n X8o X8p X8q X8r X8s : Value) (a : Option Addr) (n c : Nat) (wx : World), WsP W (l ++ encG PlT.bytes L) a n c wx → K { tmps := #[V0, .pointer (some ⟨g1, 0, none⟩), V2, V3, .slice a n c, V5, V6, V7, V8, V9, Va, Vb, Vc, Vd, Xe, Vf, Vg, Vh, Vi, Vj, Vk, Vl, Vm, Vn, Vo, Vp, Vq, Vr, Vs, Vt, Vu, Vv, Vw, Vx, Vy, Vz, V10, V11, V12, V13, V14, V15, V16, V17, V18, V19, V1a, V1b, V1c, V1d, V1e, V1f, V1g, V1h, V1i, V1j, V1k, V1l, V1m, V1n, V1o, V1p, V1q, V1r, V1s, V1t, V1u, V1v, V1w, V1x, V1y, V1z, V20, V21, V22, V23, V24, V25, V26, V27, V28, V29, V2a, V2b, V2c, V2d, V2e, V2f, V2g, V2h, V2i, V2j, V2k, V2l, V2m, V2n, V2o, V2p, V2q, V2r, V2s, V2t, V2u, V2v, V2w, V2x, V2y, V2z, V30, V31, V32, V33, V34, V35, V36, V37, V38, V39, V3a, V3b, V3c, V3d, V3e, V3f, V3g, V3h, V3i, V3j, V3k, V3l, V3m, V3n, V3o, V3p, V3q, V3r, V3s, V3t, V3u, V3v, V3w, V3x, V3y, V3z, V40, V41, V42, V43, V44, V45, V46, V47, V48, V49, V4a, V4b, V4c, V4d, V4e, V4f, V4g, V4h, V4i, V4j, V4k, V4l, V4m, V4n, V4o, V4p, V4q, V4r, V4s, V4t, V4u, V4v, V4w, V4x, V4y, V4z, V50, V51, V52, V53, V54, V55, V56, V57, V58, V59, V5a, V5b, V5c, V5d, V5e, V5f, V5g, V5h, V5i, V5j, V5k, V5l, V5m, V5n, V5o, V5p, V5q, V5r, V5s, V5t, V5u, V5v, V5w, V5x, V5y, V5z, V60, V61, V62, V63, V64, V65, V66, V67, V68, V69, V6a, V6b, V6c, V6d, V6e, V6f, V6g, V6h, V6i, V6j, V6k, V6l, V6m, V6n, V6o, V6p, V6q, V6r, V6s, V6t, V6u, V6v, V6w, V6x, V6y, V6z, V70, V71, V72, V73, V74, V75, V76, V77, V78, V79, V7a, V7b, V7c, V7d, V7e, V7f, V7g, V7h, V7i, V7j, V7k, V7l, V7m, V7n, V7o, V7p, V7q, V7r, V7s, V7t, V7u, V7v, V7w, V7x, V7y, V7z, V80, X81, X82, X83, X84, X85, X86, X87, X88, X89, X8a, X8b, X8c, X8d, X8e, X8f, X8g, X8h, X8i, X8j, X8k, X8l, X8m, X8n, X8o, X8p, X8q, X8r, X8s, V8t, V8u, V8v, V8w, V8x, V8y, V8z, V90, V91, V92, V93, V94, V95, V96, V97, V98, V99, V9a, V9b, V9c, V9d, V9e, V9f, V9g, V9h, V9i, V9j, V9k, V9l, V9m, V9n, V9o, V9p, V9q, V9r, V9s, V9t, V9u, V9v, V9w, V9x, V9y, V9z, Va0, Va1, Va2, Va3, Va4, Va5, Va6, Va7, Va8, Va9, Vaa, Vab, Vac, Vad, Vae, Vaf, Vag, Vah, Vai, Vaj, Vak, Val, Vam, Van, Vao, Vap, Vaq, Var, Vas, Vat, Vau, Vav, Vaw, Vax, Vay, Vaz, Vb0, Vb1, Vb2, Vb3, Vb4, Vb5, Vb6, Vb7, Vb8, Vb9, Vba, Vbb, Vbc, Vbd, Vbe, Vbf, Vbg, Vbh, Vbi, Vbj, Vbk, Vbl, Vbm, Vbn, Vbo, Vbp, Vbq, Vbr, Vbs, Vbt, Vbu, Vbv, Vbw, Vbx, Vby, Vbz], defers := [] } wx) :
  Code.wp Tryz.prog (codeAt [true, true, true, true, true, true, true, true, true, true, true, true, true, true, true, false, true] Tryz.f8) (Exit.then K (bodyPost Tryz.prog Tryz.f8 R)) { tmps := #[V0, .pointer (some ⟨g1, 0, none⟩), V2, V3, .slice a0 n0 c0, V5, V6, V7, V8, V9, Va, Vb, Vc, Vd, (0:Int), Vf, Vg, Vh, Vi, Vj, Vk, Vl, Vm, Vn, Vo, Vp, Vq, Vr, Vs, Vt, Vu, Vv, Vw, Vx, Vy, Vz, V10, V11, V12, V13, V14, V15, V16, V17, V18, V19, V1a, V1b, V1c, V1d, V1e, V1f, V1g, V1h, V1i, V1j, V1k, V1l, V1m, V1n, V1o, V1p, V1q, V1r, V1s, V1t, V1u, V1v, V1w, V1x, V1y, V1z, V20, V21, V22, V23, V24, V25, V26, V27, V28, V29, V2a, V2b, V2c, V2d, V2e, V2f, V2g, V2h, V2i, V2j, V2k, V2l, V2m, V2n, V2o, V2p, V2q, V2r, V2s, V2t, V2u, V2v, V2w, V2x, V2y, V2z, V30, V31, V32, V33, V34, V35, V36, V37, V38, V39, V3a, V3b, V3c, V3d, V3e, V3f, V3g, V3h, V3i, V3j, V3k, V3l, V3m, V3n, V3o, V3p, V3q, V3r, V3s, V3t, V3u, V3v, V3w, V3x, V3y, V3z, V40, V41, V42, V43, V44, V45, V46, V47, V48, V49, V4a, V4b, V4c, V4d, V4e, V4f, V4g, V4h, V4i, V4j, V4k, V4l, V4m, V4n, V4o, V4p, V4q, V4r, V4s, V4t, V4u, V4v, V4w, V4x, V4y, V4z, V50, V51, V52, V53, V54, V55, V56, V57, V58, V59, V5a, V5b, V5c, V5d, V5e, V5f, V5g, V5h, V5i, V5j, V5k, V5l, V5m, V5n, V5o, V5p, V5q, V5r, V5s, V5t, V5u, V5v, V5w, V5x, V5y, V5z, V60, V61, V62, V63, V64, V65, V66, V67, V68, V69, V6a, V6b, V6c, V6d, V6e, V6f, V6g, V6h, V6i, V6j, V6k, V6l, V6m, V6n, V6o, V6p, V6q, V6r, V6s, V6t, V6u, V6v, V6w, V6x, V6y, V6z, V70, V71, V72, V73, V74, V75, V76, V77, V78, V79, V7a, V7b, V7c, V7d, V7e, V7f, V7g, V7h, V7i, V7j, V7k, V7l, V7m, V7n, V7o, V7p, V7q, V7r, V7s, V7t, V7u, V7v, V7w, V7x, V7y, V7z, V80, V81, V82, V83, V84, V85, V86, V87, V88, V89, V8a, V8b, V8c, V8d, V8e, V8f, V8g, V8h, V8i, V8j, V8k, V8l, V8m, V8n, V8o, V8p, V8q, V8r, V8s, V8t, V8u, V8v, V8w, V8x, V8y, V8z, V90, V91, V92, V93, V94, V95, V96, V97, V98, V99, V9a, V9b, V9c, V9d, V9e, V9f, V9g, V9h, V9i, V9j, V9k, V9l, V9m, V9n, V9o, V9p, V9q, V9r, V9s, V9t, V9u, V9v, V9w, V9x, V9y, V9z, Va0, Va1, Va2, Va3, Va4, Va5, Va6, Va7, Va8, Va9, Vaa, Vab, Vac, Vad, Vae, Vaf, Vag, Vah, Vai, Vaj, Vak, Val, Vam, Van, Vao, Vap, Vaq, Var, Vas, Vat, Vau, Vav, Vaw, Vax, Vay, Vaz, Vb0, Vb1, Vb2, Vb3, Vb4, Vb5, Vb6, Vb7, Vb8, Vb9, Vba, Vbb, Vbc, Vbd, Vbe, Vbf, Vbg, Vbh, Vbi, Vbj, Vbk, Vbl, Vbm, Vbn, Vbo, Vbp, Vbq, Vbr, Vbs, Vbt, Vbu, Vbv, Vbw, Vbx, Vby, Vbz], defers := [] } w1 := by
 refine wp_at (c := _) rfl (.r (.r (.r (.r (.r (.r (.r (.r (.r (.r (.r (.r (.r (.r (.r (.l (.r (.nil)))))))))))))))))) ?_
 have HBASE : Hid (W.heap.size ≤ W.heap.size) := Nat.le_refl _
 go_wp2_with fail
 go_loopw [4, 14] (fun v4 v5 wr => ∃ (k : Nat) (aw : Option Addr) (mw cw : Nat), k ≤ n7 ∧ v5 = .int .i64 k ∧ v4 = .slice aw mw cw ∧ BK W.heap.size W (.slice none 0 0) (l ++ encG PlT.bytes (L.take k)) (.slice aw mw cw) wr) (fun _ i _ => n7 - (intOf i).toNat)
 case atStart => exact ⟨0, _, _, _, Nat.zero_le _, rfl, rfl, by simpa [encG] using HBK1.out⟩
 case round =>
  obtain ⟨k, aw, mw, cw, hk, rfl, rfl, hbk⟩ := hrel
  have HBK := Lh hbk
  have hbox := hbk.box HBOX.out HNE.out
  have H3 := hbox.cell (j := 11) HFC.out
  have hup : (n7 : Int) ≤ 1024 := by have := HNN.out.2; omega
  by_cases hlt : k < n7
  ·
   have hkL : k < L.length := by rw [← HNN.out.1]; exact hlt
   have hrows : Rs PlT.vs 3 wr (.slice a7 L.length c7) L := by rw [← HNN.out.1]; exact HROWS.out wr hbk.2.1
   obtain ⟨bD, oD, rfl, hbw, hat⟩ := hrows.at (by omega) (by decide)
   obtain ⟨d, hc⟩ : ∃ d, d = L[k] := ⟨_, rfl⟩
   have HC := Lh hc
   have HKW : Hid (Kept (fun k => (Value.slice none 0 0).ownBlock = some k) W wr) := hbk.2.1
   have HLL : Hid ((l ++ encG PlT.bytes (L.take k)).length ≤ 1000000000) := wsl _ (fun x hx => PlT.blen x (HRD.out x hx)) (by have := HNN.out; omega) HLN.out
   have hk0 : (0 : Int) ≤ k := by omega
   have hk1 : (k : Int) < n7 := by omega
   have HAT : Hid (∀ x, Kept (fun k => (Value.slice none 0 0).ownBlock = some k) W x → x.cell? ⟨bD, oD + k * 3, none⟩ = some (.int .i64 d.who) ∧ x.cell? ⟨bD, oD + k * 3 + 1, none⟩ = some (.int .i64 d.asset) ∧ x.cell? ⟨bD, oD + k * 3 + 2, none⟩ = some (.int .i64 d.units)) := by
    intro x hx
    have hr := HROWS.out x hx
    rw [HNN.out.1] at hr
    rw [hc]
    exact ⟨hr.cells (by decide) hkL (j := 0) rfl, hr.cells (by decide) hkL (j := 1) rfl, hr.cells (by decide) hkL (j := 2) rfl⟩
   have HRG : Hid (okI [d.who, d.asset, d.units]) := by rw [hc]; exact HRD.out _ (List.getElem_mem hkL)
   clear hrows hat hc hbk hbox
   go_upto_region 40 with fail
   refine wp_region_uni (S0 := fun x => Kept (fun k => (Value.slice none 0 0).ownBlock = some k) W x) (S := BL wr) 22 (by kernel_rfl) (Below.refl _ _).drew ?_
   refine uP 2 [(0, some 296, .slice aw mw cw), (1, some 297, .pointer (some ⟨g1, 11, none⟩))] (BLK.cls HKW.out) ?_
   refine uL 2 (some 298) (.slice (some ⟨bD, oD, none⟩) n7 c7) (BLK.cls HKW.out) (p := ⟨g1, 11, none⟩) (fun w hSw => (HBOX.out.keptH hSw HNE.out).cell (j := 11) HFC.out) ?_
   refine uP 1 [(3, some 299, .int .i64 (k : Int))] (BLK.cls HKW.out) ?_
   simp only [zq]
   refine uG 4 (some 300) (.pointer (some ⟨bD, oD + k * 3, none⟩)) (BLK.cls HKW.out) ?_
   refine uP 1 [(5, some 301, .pointer (some ⟨bD, oD + k * 3, none⟩))] (BLK.cls HKW.out) ?_
   refine uL 6 (some 302) (.int .i64 d.who) (BLK.cls HKW.out) (p := ⟨bD, oD + k * 3, none⟩) (fun w hSw => (HAT.out w hSw).1) ?_
   simp only [zq]
   refine uP 1 [(7, some 303, .pointer (some ⟨g1, 11, none⟩))] (BLK.cls HKW.out) ?_
   refine uL 8 (some 304) (.slice (some ⟨bD, oD, none⟩) n7 c7) (BLK.cls HKW.out) (p := ⟨g1, 11, none⟩) (fun w hSw => (HBOX.out.keptH hSw HNE.out).cell (j := 11) HFC.out) ?_
   refine uP 1 [(9, some 305, .int .i64 (k : Int))] (BLK.cls HKW.out) ?_
   simp only [zq]
   refine uG 10 (some 306) (.pointer (some ⟨bD, oD + k * 3, none⟩)) (BLK.cls HKW.out) ?_
   refine uP 1 [(11, some 307, .pointer (some ⟨bD, oD + k * 3 + 1, none⟩))] (BLK.cls HKW.out) ?_
   refine uL 12 (some 308) (.int .i64 d.asset) (BLK.cls HKW.out) (p := ⟨bD, oD + k * 3 + 1, none⟩) (fun w hSw => (HAT.out w hSw).2.1) ?_
   simp only [zq]
   refine uP 1 [(13, some 309, .pointer (some ⟨g1, 11, none⟩))] (BLK.cls HKW.out) ?_
   refine uL 14 (some 310) (.slice (some ⟨bD, oD, none⟩) n7 c7) (BLK.cls HKW.out) (p := ⟨g1, 11, none⟩) (fun w hSw => (HBOX.out.keptH hSw HNE.out).cell (j := 11) HFC.out) ?_
   refine uP 1 [(15, some 311, .int .i64 (k : Int))] (BLK.cls HKW.out) ?_
   simp only [zq]
   refine uG 16 (some 312) (.pointer (some ⟨bD, oD + k * 3, none⟩)) (BLK.cls HKW.out) ?_
   refine uP 1 [(17, some 313, .pointer (some ⟨bD, oD + k * 3 + 2, none⟩))] (BLK.cls HKW.out) ?_
   refine uL 18 (some 314) (.int .i64 d.units) (BLK.cls HKW.out) (p := ⟨bD, oD + k * 3 + 2, none⟩) (fun w hSw => (HAT.out w hSw).2.2) ?_
   simp only [zq]
   refine uS 19 rfl (fun wA19 hA19 K hK => ?_)
   go_simp
   have hkA : Kept (fun k => (Value.slice none 0 0).ownBlock = some k) W (wA19.alloc (.cells #[d.who, d.asset, d.units] 3)) := (HKW.out.trans (Kept.of_below hA19) (fun _ _ h => h.elim)).alloc _
   refine hK.out _ _ (BL (wA19.alloc (.cells #[d.who, d.asset, d.units] 3))) (BLK.cls hkA) (Below.refl _ _) ?_
   clear hK K
   try simp only [zq]
   refine uS 20 rfl (fun wA20 hA20 K hK => ?_)
   go_simp
   have hbl : Below wr.heap.size wr wA20 := (Below.alloc hA19 hA19.size (.cells #[d.who, d.asset, d.units] 3)).trans (hA20.mono (by simp; exact Nat.le_succ_of_le hA19.size))
   have his : Is (wA19.alloc (.cells #[d.who, d.asset, d.units] 3)) (.slice (some ⟨wA19.heap.size, 0, none⟩) 3 3) [d.who, d.asset, d.units] := Is.block (l := [d.who, d.asset, d.units]) (heap_new rfl) (Nat.le_refl _) (by simp [maxLen])
   refine (BK.num HBK.out hbl (his.mono hA20) HRG.out (by simp) HLL.out HBASE.out).mono ?_
   rintro e wn ⟨a3, n3, c3, rfl, hbk⟩
   refine hK.out _ _ (BK W.heap.size W (.slice none 0 0) (l ++ encG PlT.bytes (L.take k) ++ encIs [d.who, d.asset, d.units]) (.slice a3 n3 c3)) BK.cls hbk ?_
   clear hbl his hbk
   clear hK K
   try simp only [zq]
   refine uP 1 [(21, some 4, .slice a3 n3 c3)] BK.cls ?_
   simp only [zq]
   refine wpAnyU_done (by kernel_rfl) (fun w1 hb1 => ?_) _
   have HBN := Lh hb1
   clear hb1
   go_wp2_with fail
   first
    | exact ⟨⟨k + 1, a3, n3, c3, by omega, by push_cast; rfl, rfl, by rw [encG_snoc _ hkL, ← HC.out, ← List.append_assoc]; exact HBN.out⟩, by simp [intOf]; omega⟩
    | ((repeat apply Exists.intro); exact ⟨⟨k + 1, a3, n3, c3, by omega, by push_cast; rfl, rfl, by rw [encG_snoc _ hkL, ← HC.out, ← List.append_assoc]; exact HBN.out⟩, rfl⟩)
  ·
   obtain rfl : n7 = k := by omega
   rw [List.take_of_length_le (by rw [← HNN.out.1]; exact Nat.le_refl _)] at hbk
   have HF : Hid (WsP W (l ++ encG PlT.bytes L) aw mw cw wr) := hbk
   clear hbk HBK hbox
   go_wp2_with fail
   exact HF.out
theorem ws_cal {w1 W : World} {g1 : Nat} {C : List Value} {a8 : Option Addr} {n8 c8 : Nat} {l : List UInt8} {a0 : Option Addr} {n0 c0 : Nat} {K : Act → World → Prop} {R : Ending → World → Prop} (HBOX : Hid (HT W g1 41 C)) (HNE : Hid ((Value.slice none 0 0).ownBlock ≠ some g1)) (HFC : Hid (C[12]? = some (.slice a8 n8 c8))) {L : List CaT} (HROWS : Hid (∀ x, Kept (fun k => (Value.slice none 0 0).ownBlock = some k) W x → Rs CaT.vs 4 x (.slice a8 n8 c8) L)) (HNN : Hid (n8 = L.length ∧ n8 ≤ 1024)) (HRD : Hid (∀ x ∈ L, okI x.ints)) (HLN : Hid (l.length ≤ 500000000)) (HBK1 : Hid (BK W.heap.size W (.slice none 0 0) l (.slice a0 n0 c0) w1))
  (hQ : ∀ (Xf X8z X90 X91 X92 X93 X94 X95 X96 X97 X98 X99 X9a X9b X9c X9d X9e X9f X9g X9h X9i X9j X9k X9l X9m X9n X9o X9p X9q X9r X9s X9t X9u X9v X9w X9x X9y X9z : Value) (a : Option Addr) (n c : Nat) (wx : World), WsP W (l ++ encG CaT.bytes L) a n c wx → K { tmps := #[V0, .pointer (some ⟨g1, 0, none⟩), V2, V3, .slice a n c, V5, V6, V7, V8, V9, Va, Vb, Vc, Vd, Ve, Xf, Vg, Vh, Vi, Vj, Vk, Vl, Vm, Vn, Vo, Vp, Vq, Vr, Vs, Vt, Vu, Vv, Vw, Vx, Vy, Vz, V10, V11, V12, V13, V14, V15, V16, V17, V18, V19, V1a, V1b, V1c, V1d, V1e, V1f, V1g, V1h, V1i, V1j, V1k, V1l, V1m, V1n, V1o, V1p, V1q, V1r, V1s, V1t, V1u, V1v, V1w, V1x, V1y, V1z, V20, V21, V22, V23, V24, V25, V26, V27, V28, V29, V2a, V2b, V2c, V2d, V2e, V2f, V2g, V2h, V2i, V2j, V2k, V2l, V2m, V2n, V2o, V2p, V2q, V2r, V2s, V2t, V2u, V2v, V2w, V2x, V2y, V2z, V30, V31, V32, V33, V34, V35, V36, V37, V38, V39, V3a, V3b, V3c, V3d, V3e, V3f, V3g, V3h, V3i, V3j, V3k, V3l, V3m, V3n, V3o, V3p, V3q, V3r, V3s, V3t, V3u, V3v, V3w, V3x, V3y, V3z, V40, V41, V42, V43, V44, V45, V46, V47, V48, V49, V4a, V4b, V4c, V4d, V4e, V4f, V4g, V4h, V4i, V4j, V4k, V4l, V4m, V4n, V4o, V4p, V4q, V4r, V4s, V4t, V4u, V4v, V4w, V4x, V4y, V4z, V50, V51, V52, V53, V54, V55, V56, V57, V58, V59, V5a, V5b, V5c, V5d, V5e, V5f, V5g, V5h, V5i, V5j, V5k, V5l, V5m, V5n, V5o, V5p, V5q, V5r, V5s, V5t, V5u, V5v, V5w, V5x, V5y, V5z, V60, V61, V62, V63, V64, V65, V66, V67, V68, V69, V6a, V6b, V6c, V6d, V6e, V6f, V6g, V6h, V6i, V6j, V6k, V6l, V6m, V6n, V6o, V6p, V6q, V6r, V6s, V6t, V6u, V6v, V6w, V6x, V6y, V6z, V70, V71, V72, V73, V74, V75, V76, V77, V78, V79, V7a, V7b, V7c, V7d, V7e, V7f, V7g, V7h, V7i, V7j, V7k, V7l, V7m, V7n, V7o, V7p, V7q, V7r, V7s, V7t, V7u, V7v, V7w, V7x, V7y, V7z, V80, V81, V82, V83, V84, V85, V86, V87, V88, V89, V8a, V8b, V8c, V8d, V8e, V8f, V8g, V8h, V8i, V8j, V8k, V8l, V8m, V8n, V8o, V8p, V8q, V8r, V8s, V8t, V8u, V8v, V8w, V8x, V8y, X8z, X90, X91, X92, X93, X94, X95, X96, X97, X98, X99, X9a, X9b, X9c, X9d, X9e, X9f, X9g, X9h, X9i, X9j, X9k, X9l, X9m, X9n, X9o, X9p, X9q, X9r, X9s, X9t, X9u, X9v, X9w, X9x, X9y, X9z, Va0, Va1, Va2, Va3, Va4, Va5, Va6, Va7, Va8, Va9, Vaa, Vab, Vac, Vad, Vae, Vaf, Vag, Vah, Vai, Vaj, Vak, Val, Vam, Van, Vao, Vap, Vaq, Var, Vas, Vat, Vau, Vav, Vaw, Vax, Vay, Vaz, Vb0, Vb1, Vb2, Vb3, Vb4, Vb5, Vb6, Vb7, Vb8, Vb9, Vba, Vbb, Vbc, Vbd, Vbe, Vbf, Vbg, Vbh, Vbi, Vbj, Vbk, Vbl, Vbm, Vbn, Vbo, Vbp, Vbq, Vbr, Vbs, Vbt, Vbu, Vbv, Vbw, Vbx, Vby, Vbz], defers := [] } wx) :
  Code.wp Tryz.prog (codeAt [true, true, true, true, true, true, true, true, true, true, true, true, true, true, true, true, true, false, true] Tryz.f8) (Exit.then K (bodyPost Tryz.prog Tryz.f8 R)) { tmps := #[V0, .pointer (some ⟨g1, 0, none⟩), V2, V3, .slice a0 n0 c0, V5, V6, V7, V8, V9, Va, Vb, Vc, Vd, Ve, (0:Int), Vg, Vh, Vi, Vj, Vk, Vl, Vm, Vn, Vo, Vp, Vq, Vr, Vs, Vt, Vu, Vv, Vw, Vx, Vy, Vz, V10, V11, V12, V13, V14, V15, V16, V17, V18, V19, V1a, V1b, V1c, V1d, V1e, V1f, V1g, V1h, V1i, V1j, V1k, V1l, V1m, V1n, V1o, V1p, V1q, V1r, V1s, V1t, V1u, V1v, V1w, V1x, V1y, V1z, V20, V21, V22, V23, V24, V25, V26, V27, V28, V29, V2a, V2b, V2c, V2d, V2e, V2f, V2g, V2h, V2i, V2j, V2k, V2l, V2m, V2n, V2o, V2p, V2q, V2r, V2s, V2t, V2u, V2v, V2w, V2x, V2y, V2z, V30, V31, V32, V33, V34, V35, V36, V37, V38, V39, V3a, V3b, V3c, V3d, V3e, V3f, V3g, V3h, V3i, V3j, V3k, V3l, V3m, V3n, V3o, V3p, V3q, V3r, V3s, V3t, V3u, V3v, V3w, V3x, V3y, V3z, V40, V41, V42, V43, V44, V45, V46, V47, V48, V49, V4a, V4b, V4c, V4d, V4e, V4f, V4g, V4h, V4i, V4j, V4k, V4l, V4m, V4n, V4o, V4p, V4q, V4r, V4s, V4t, V4u, V4v, V4w, V4x, V4y, V4z, V50, V51, V52, V53, V54, V55, V56, V57, V58, V59, V5a, V5b, V5c, V5d, V5e, V5f, V5g, V5h, V5i, V5j, V5k, V5l, V5m, V5n, V5o, V5p, V5q, V5r, V5s, V5t, V5u, V5v, V5w, V5x, V5y, V5z, V60, V61, V62, V63, V64, V65, V66, V67, V68, V69, V6a, V6b, V6c, V6d, V6e, V6f, V6g, V6h, V6i, V6j, V6k, V6l, V6m, V6n, V6o, V6p, V6q, V6r, V6s, V6t, V6u, V6v, V6w, V6x, V6y, V6z, V70, V71, V72, V73, V74, V75, V76, V77, V78, V79, V7a, V7b, V7c, V7d, V7e, V7f, V7g, V7h, V7i, V7j, V7k, V7l, V7m, V7n, V7o, V7p, V7q, V7r, V7s, V7t, V7u, V7v, V7w, V7x, V7y, V7z, V80, V81, V82, V83, V84, V85, V86, V87, V88, V89, V8a, V8b, V8c, V8d, V8e, V8f, V8g, V8h, V8i, V8j, V8k, V8l, V8m, V8n, V8o, V8p, V8q, V8r, V8s, V8t, V8u, V8v, V8w, V8x, V8y, V8z, V90, V91, V92, V93, V94, V95, V96, V97, V98, V99, V9a, V9b, V9c, V9d, V9e, V9f, V9g, V9h, V9i, V9j, V9k, V9l, V9m, V9n, V9o, V9p, V9q, V9r, V9s, V9t, V9u, V9v, V9w, V9x, V9y, V9z, Va0, Va1, Va2, Va3, Va4, Va5, Va6, Va7, Va8, Va9, Vaa, Vab, Vac, Vad, Vae, Vaf, Vag, Vah, Vai, Vaj, Vak, Val, Vam, Van, Vao, Vap, Vaq, Var, Vas, Vat, Vau, Vav, Vaw, Vax, Vay, Vaz, Vb0, Vb1, Vb2, Vb3, Vb4, Vb5, Vb6, Vb7, Vb8, Vb9, Vba, Vbb, Vbc, Vbd, Vbe, Vbf, Vbg, Vbh, Vbi, Vbj, Vbk, Vbl, Vbm, Vbn, Vbo, Vbp, Vbq, Vbr, Vbs, Vbt, Vbu, Vbv, Vbw, Vbx, Vby, Vbz], defers := [] } w1 := by
 refine wp_at (c := _) rfl (.r (.r (.r (.r (.r (.r (.r (.r (.r (.r (.r (.r (.r (.r (.r (.r (.r (.l (.r (.nil)))))))))))))))))))) ?_
 have HBASE : Hid (W.heap.size ≤ W.heap.size) := Nat.le_refl _
 go_wp2_with fail
 go_loopw [4, 15] (fun v4 v5 wr => ∃ (k : Nat) (aw : Option Addr) (mw cw : Nat), k ≤ n8 ∧ v5 = .int .i64 k ∧ v4 = .slice aw mw cw ∧ BK W.heap.size W (.slice none 0 0) (l ++ encG CaT.bytes (L.take k)) (.slice aw mw cw) wr) (fun _ i _ => n8 - (intOf i).toNat)
 case atStart => exact ⟨0, _, _, _, Nat.zero_le _, rfl, rfl, by simpa [encG] using HBK1.out⟩
 case round =>
  obtain ⟨k, aw, mw, cw, hk, rfl, rfl, hbk⟩ := hrel
  have HBK := Lh hbk
  have hbox := hbk.box HBOX.out HNE.out
  have H3 := hbox.cell (j := 12) HFC.out
  have hup : (n8 : Int) ≤ 1024 := by have := HNN.out.2; omega
  by_cases hlt : k < n8
  ·
   have hkL : k < L.length := by rw [← HNN.out.1]; exact hlt
   have hrows : Rs CaT.vs 4 wr (.slice a8 L.length c8) L := by rw [← HNN.out.1]; exact HROWS.out wr hbk.2.1
   obtain ⟨bD, oD, rfl, hbw, hat⟩ := hrows.at (by omega) (by decide)
   obtain ⟨d, hc⟩ : ∃ d, d = L[k] := ⟨_, rfl⟩
   have HC := Lh hc
   have HKW : Hid (Kept (fun k => (Value.slice none 0 0).ownBlock = some k) W wr) := hbk.2.1
   have HLL : Hid ((l ++ encG CaT.bytes (L.take k)).length ≤ 1000000000) := wsl _ (fun x hx => CaT.blen x (HRD.out x hx)) (by have := HNN.out; omega) HLN.out
   have hk0 : (0 : Int) ≤ k := by omega
   have hk1 : (k : Int) < n8 := by omega
   have HAT : Hid (∀ x, Kept (fun k => (Value.slice none 0 0).ownBlock = some k) W x → x.cell? ⟨bD, oD + k * 4, none⟩ = some (.int .i64 d.who) ∧ x.cell? ⟨bD, oD + k * 4 + 1, none⟩ = some (.int .i64 d.cur) ∧ x.cell? ⟨bD, oD + k * 4 + 2, none⟩ = some (.int .i64 d.amt) ∧ x.cell? ⟨bD, oD + k * 4 + 3, none⟩ = some (.int .i64 d.tick)) := by
    intro x hx
    have hr := HROWS.out x hx
    rw [HNN.out.1] at hr
    rw [hc]
    exact ⟨hr.cells (by decide) hkL (j := 0) rfl, hr.cells (by decide) hkL (j := 1) rfl, hr.cells (by decide) hkL (j := 2) rfl, hr.cells (by decide) hkL (j := 3) rfl⟩
   have HRG : Hid (okI [d.who, d.cur, d.amt, d.tick]) := by rw [hc]; exact HRD.out _ (List.getElem_mem hkL)
   clear hrows hat hc hbk hbox
   go_upto_region 45 with fail
   refine wp_region_uni (S0 := fun x => Kept (fun k => (Value.slice none 0 0).ownBlock = some k) W x) (S := BL wr) 31 (by kernel_rfl) (Below.refl _ _).drew ?_
   refine uP 2 [(0, some 330, .slice aw mw cw), (1, some 331, .pointer (some ⟨g1, 12, none⟩))] (BLK.cls HKW.out) ?_
   refine uL 2 (some 332) (.slice (some ⟨bD, oD, none⟩) n8 c8) (BLK.cls HKW.out) (p := ⟨g1, 12, none⟩) (fun w hSw => (HBOX.out.keptH hSw HNE.out).cell (j := 12) HFC.out) ?_
   refine uP 1 [(3, some 333, .int .i64 (k : Int))] (BLK.cls HKW.out) ?_
   simp only [zq]
   refine uG 4 (some 334) (.pointer (some ⟨bD, oD + k * 4, none⟩)) (BLK.cls HKW.out) ?_
   refine uP 2 [(5, some 335, .pointer (some ⟨bD, oD + k * 4, none⟩)), (6, some 336, .pointer (some ⟨bD, oD + k * 4, none⟩))] (BLK.cls HKW.out) ?_
   refine uL 7 (some 337) (.int .i64 d.who) (BLK.cls HKW.out) (p := ⟨bD, oD + k * 4, none⟩) (fun w hSw => (HAT.out w hSw).1) ?_
   simp only [zq]
   refine uP 1 [(8, some 338, .pointer (some ⟨g1, 12, none⟩))] (BLK.cls HKW.out) ?_
   refine uL 9 (some 339) (.slice (some ⟨bD, oD, none⟩) n8 c8) (BLK.cls HKW.out) (p := ⟨g1, 12, none⟩) (fun w hSw => (HBOX.out.keptH hSw HNE.out).cell (j := 12) HFC.out) ?_
   refine uP 1 [(10, some 340, .int .i64 (k : Int))] (BLK.cls HKW.out) ?_
   simp only [zq]
   refine uG 11 (some 341) (.pointer (some ⟨bD, oD + k * 4, none⟩)) (BLK.cls HKW.out) ?_
   refine uP 2 [(12, some 342, .pointer (some ⟨bD, oD + k * 4, none⟩)), (13, some 343, .pointer (some ⟨bD, oD + k * 4 + 1, none⟩))] (BLK.cls HKW.out) ?_
   refine uL 14 (some 344) (.int .i64 d.cur) (BLK.cls HKW.out) (p := ⟨bD, oD + k * 4 + 1, none⟩) (fun w hSw => (HAT.out w hSw).2.1) ?_
   simp only [zq]
   refine uP 1 [(15, some 345, .pointer (some ⟨g1, 12, none⟩))] (BLK.cls HKW.out) ?_
   refine uL 16 (some 346) (.slice (some ⟨bD, oD, none⟩) n8 c8) (BLK.cls HKW.out) (p := ⟨g1, 12, none⟩) (fun w hSw => (HBOX.out.keptH hSw HNE.out).cell (j := 12) HFC.out) ?_
   refine uP 1 [(17, some 347, .int .i64 (k : Int))] (BLK.cls HKW.out) ?_
   simp only [zq]
   refine uG 18 (some 348) (.pointer (some ⟨bD, oD + k * 4, none⟩)) (BLK.cls HKW.out) ?_
   refine uP 2 [(19, some 349, .pointer (some ⟨bD, oD + k * 4, none⟩)), (20, some 350, .pointer (some ⟨bD, oD + k * 4 + 2, none⟩))] (BLK.cls HKW.out) ?_
   refine uL 21 (some 351) (.int .i64 d.amt) (BLK.cls HKW.out) (p := ⟨bD, oD + k * 4 + 2, none⟩) (fun w hSw => (HAT.out w hSw).2.2.1) ?_
   simp only [zq]
   refine uP 1 [(22, some 352, .pointer (some ⟨g1, 12, none⟩))] (BLK.cls HKW.out) ?_
   refine uL 23 (some 353) (.slice (some ⟨bD, oD, none⟩) n8 c8) (BLK.cls HKW.out) (p := ⟨g1, 12, none⟩) (fun w hSw => (HBOX.out.keptH hSw HNE.out).cell (j := 12) HFC.out) ?_
   refine uP 1 [(24, some 354, .int .i64 (k : Int))] (BLK.cls HKW.out) ?_
   simp only [zq]
   refine uG 25 (some 355) (.pointer (some ⟨bD, oD + k * 4, none⟩)) (BLK.cls HKW.out) ?_
   refine uP 1 [(26, some 356, .pointer (some ⟨bD, oD + k * 4 + 3, none⟩))] (BLK.cls HKW.out) ?_
   refine uL 27 (some 357) (.int .i64 d.tick) (BLK.cls HKW.out) (p := ⟨bD, oD + k * 4 + 3, none⟩) (fun w hSw => (HAT.out w hSw).2.2.2) ?_
   simp only [zq]
   refine uS 28 rfl (fun wA28 hA28 K hK => ?_)
   go_simp
   have hkA : Kept (fun k => (Value.slice none 0 0).ownBlock = some k) W (wA28.alloc (.cells #[d.who, d.cur, d.amt, d.tick] 3)) := (HKW.out.trans (Kept.of_below hA28) (fun _ _ h => h.elim)).alloc _
   refine hK.out _ _ (BL (wA28.alloc (.cells #[d.who, d.cur, d.amt, d.tick] 3))) (BLK.cls hkA) (Below.refl _ _) ?_
   clear hK K
   try simp only [zq]
   refine uS 29 rfl (fun wA29 hA29 K hK => ?_)
   go_simp
   have hbl : Below wr.heap.size wr wA29 := (Below.alloc hA28 hA28.size (.cells #[d.who, d.cur, d.amt, d.tick] 3)).trans (hA29.mono (by simp; exact Nat.le_succ_of_le hA28.size))
   have his : Is (wA28.alloc (.cells #[d.who, d.cur, d.amt, d.tick] 3)) (.slice (some ⟨wA28.heap.size, 0, none⟩) 4 4) [d.who, d.cur, d.amt, d.tick] := Is.block (l := [d.who, d.cur, d.amt, d.tick]) (heap_new rfl) (Nat.le_refl _) (by simp [maxLen])
   refine (BK.num HBK.out hbl (his.mono hA29) HRG.out (by simp) HLL.out HBASE.out).mono ?_
   rintro e wn ⟨a3, n3, c3, rfl, hbk⟩
   refine hK.out _ _ (BK W.heap.size W (.slice none 0 0) (l ++ encG CaT.bytes (L.take k) ++ encIs [d.who, d.cur, d.amt, d.tick]) (.slice a3 n3 c3)) BK.cls hbk ?_
   clear hbl his hbk
   clear hK K
   try simp only [zq]
   refine uP 1 [(30, some 4, .slice a3 n3 c3)] BK.cls ?_
   simp only [zq]
   refine wpAnyU_done (by kernel_rfl) (fun w1 hb1 => ?_) _
   have HBN := Lh hb1
   clear hb1
   go_wp2_with fail
   first
    | exact ⟨⟨k + 1, a3, n3, c3, by omega, by push_cast; rfl, rfl, by rw [encG_snoc _ hkL, ← HC.out, ← List.append_assoc]; exact HBN.out⟩, by simp [intOf]; omega⟩
    | ((repeat apply Exists.intro); exact ⟨⟨k + 1, a3, n3, c3, by omega, by push_cast; rfl, rfl, by rw [encG_snoc _ hkL, ← HC.out, ← List.append_assoc]; exact HBN.out⟩, rfl⟩)
  ·
   obtain rfl : n8 = k := by omega
   rw [List.take_of_length_le (by rw [← HNN.out.1]; exact Nat.le_refl _)] at hbk
   have HF : Hid (WsP W (l ++ encG CaT.bytes L) aw mw cw wr) := hbk
   clear hbk HBK hbox
   go_wp2_with fail
   exact HF.out
end Cam
