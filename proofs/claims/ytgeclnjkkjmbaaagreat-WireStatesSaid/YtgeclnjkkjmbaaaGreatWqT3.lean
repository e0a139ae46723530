import Derived.Test.YtgeclnjkkjmbaaaGreatWqSz
/- cambistref24: State: balances, bids. -/
namespace Cam
open Go Go.RowKit Go.Proofs
set_option linter.unusedVariables false
set_option linter.unusedSimpArgs false
set_option maxRecDepth 100000
set_option maxHeartbeats 6400000
variable {V0 V1 V2 V3 V4 V5 V6 V7 V8 V9 Va Vb Vc Vd Ve Vf Vg Vh Vi Vj Vk Vl Vm Vn Vo Vp Vq Vr Vs Vt Vu Vv Vw Vx Vy Vz V10 V11 V12 V13 V14 V15 V16 V17 V18 V19 V1a V1b V1c V1d V1e V1f V1g V1h V1i V1j V1k V1l V1m V1n V1o V1p V1q V1r V1s V1t V1u V1v V1w V1x V1y V1z V20 V21 V22 V23 V24 V25 V26 V27 V28 V29 V2a V2b V2c V2d V2e V2f V2g V2h V2i V2j V2k V2l V2m V2n V2o V2p V2q V2r V2s V2t V2u V2v V2w V2x V2y V2z V30 V31 V32 V33 V34 V35 V36 V37 V38 V39 V3a V3b V3c V3d V3e V3f V3g V3h V3i V3j V3k V3l V3m V3n V3o V3p V3q V3r V3s V3t V3u V3v V3w V3x V3y V3z V40 V41 V42 V43 V44 V45 V46 V47 V48 V49 V4a V4b V4c V4d V4e V4f V4g V4h V4i V4j V4k V4l V4m V4n V4o V4p V4q V4r V4s V4t V4u V4v V4w V4x V4y V4z V50 V51 V52 V53 V54 V55 V56 V57 V58 V59 V5a V5b V5c V5d V5e V5f V5g V5h V5i V5j V5k V5l V5m V5n V5o V5p V5q V5r V5s V5t V5u V5v V5w V5x V5y V5z V60 V61 V62 V63 V64 V65 V66 V67 V68 V69 V6a V6b V6c V6d V6e V6f V6g V6h V6i V6j V6k V6l V6m V6n V6o V6p V6q V6r V6s V6t V6u V6v V6w V6x V6y V6z V70 V71 V72 V73 V74 V75 V76 V77 V78 V79 V7a V7b V7c V7d V7e V7f V7g V7h V7i V7j V7k V7l V7m V7n V7o V7p V7q V7r V7s V7t V7u V7v V7w V7x V7y V7z V80 V81 V82 V83 V84 V85 V86 V87 V88 V89 V8a V8b V8c V8d V8e V8f V8g V8h V8i V8j V8k V8l V8m V8n V8o V8p V8q V8r V8s V8t V8u V8v V8w V8x V8y V8z V90 V91 V92 V93 V94 V95 V96 V97 V98 V99 V9a V9b V9c V9d V9e V9f V9g V9h V9i V9j V9k V9l V9m V9n V9o V9p V9q V9r V9s V9t V9u V9v V9w V9x V9y V9z Va0 Va1 Va2 Va3 Va4 Va5 Va6 Va7 Va8 Va9 Vaa Vab Vac Vad Vae Vaf Vag Vah Vai Vaj Vak Val Vam Van Vao Vap Vaq Var Vas Vat Vau Vav Vaw Vax Vay Vaz Vb0 Vb1 Vb2 Vb3 Vb4 Vb5 Vb6 Vb7 Vb8 Vb9 Vba Vbb Vbc Vbd Vbe Vbf Vbg Vbh Vbi Vbj Vbk Vbl Vbm Vbn Vbo Vbp Vbq Vbr Vbs Vbt Vbu Vbv Vbw Vbx Vby Vbz : Value}
theorem ws_bal {w1 W : World} {g1 : Nat} {C : List Value} {a6 : Option Addr} {n6 c6 : Nat} {l : List UInt8} {a0 : Option Addr} {n0 c0 : Nat} {K : Act → World → Prop} {R : Ending → World → Prop} (HBOX : Hid (HT W g1 41 C)) (HNE : Hid ((Value.slice none 0 0).ownBlock ≠ some g1)) (HFC : Hid (C[10]? = some (.slice a6 n6 c6))) {L : List BaT} (HROWS : Hid (∀ x, Kept (fun k => (Value.slice none 0 0).ownBlock = some k) W x → Rs BaT.vs 4 x (.slice a6 n6 c6) L)) (HNN : Hid (n6 = L.length ∧ n6 ≤ 1024)) (HRD : Hid (∀ x ∈ L, okI x.ints)) (HLN : Hid (l.length ≤ 500000000)) (HBK1 : Hid (BK W.heap.size W (.slice none 0 0) l (.slice a0 n0 c0) w1))
  (hQ : ∀ (Xc Xd X73 X74 X75 X76 X77 X78 X79 X7a X7b X7c X7d X7e X7f X7g X7h X7i X7j X7k X7l X7m X7n X7o X7p X7q X7r X7s X7t X7u : Value) (a : Option Addr) (n c : Nat) (wx : World), WsP W (l ++ encG BaT.bytes L) a n c wx → K { tmps := #[V0, .pointer (some ⟨g1, 0, none⟩), V2, V3, .slice a n c, V5, V6, V7, V8, V9, Va, Vb, Xc, Xd, Ve, Vf, Vg, Vh, Vi, Vj, Vk, Vl, Vm, Vn, Vo, Vp, Vq, Vr, Vs, Vt, Vu, Vv, Vw, Vx, Vy, Vz, V10, V11, V12, V13, V14, V15, V16, V17, V18, V19, V1a, V1b, V1c, V1d, V1e, V1f, V1g, V1h, V1i, V1j, V1k, V1l, V1m, V1n, V1o, V1p, V1q, V1r, V1s, V1t, V1u, V1v, V1w, V1x, V1y, V1z, V20, V21, V22, V23, V24, V25, V26, V27, V28, V29, V2a, V2b, V2c, V2d, V2e, V2f, V2g, V2h, V2i, V2j, V2k, V2l, V2m, V2n, V2o, V2p, V2q, V2r, V2s, V2t, V2u, V2v, V2w, V2x, V2y, V2z, V30, V31, V32, V33, V34, V35, V36, V37, V38, V39, V3a, V3b, V3c, V3d, V3e, V3f, V3g, V3h, V3i, V3j, V3k, V3l, V3m, V3n, V3o, V3p, V3q, V3r, V3s, V3t, V3u, V3v, V3w, V3x, V3y, V3z, V40, V41, V42, V43, V44, V45, V46, V47, V48, V49, V4a, V4b, V4c, V4d, V4e, V4f, V4g, V4h, V4i, V4j, V4k, V4l, V4m, V4n, V4o, V4p, V4q, V4r, V4s, V4t, V4u, V4v, V4w, V4x, V4y, V4z, V50, V51, V52, V53, V54, V55, V56, V57, V58, V59, V5a, V5b, V5c, V5d, V5e, V5f, V5g, V5h, V5i, V5j, V5k, V5l, V5m, V5n, V5o, V5p, V5q, V5r, V5s, V5t, V5u, V5v, V5w, V5x, V5y, V5z, V60, V61, V62, V63, V64, V65, V66, V67, V68, V69, V6a, V6b, V6c, V6d, V6e, V6f, V6g, V6h, V6i, V6j, V6k, V6l, V6m, V6n, V6o, V6p, V6q, V6r, V6s, V6t, V6u, V6v, V6w, V6x, V6y, V6z, V70, V71, V72, X73, X74, X75, X76, X77, X78, X79, X7a, X7b, X7c, X7d, X7e, X7f, X7g, X7h, X7i, X7j, X7k, X7l, X7m, X7n, X7o, X7p, X7q, X7r, X7s, X7t, X7u, V7v, V7w, V7x, V7y, V7z, V80, V81, V82, V83, V84, V85, V86, V87, V88, V89, V8a, V8b, V8c, V8d, V8e, V8f, V8g, V8h, V8i, V8j, V8k, V8l, V8m, V8n, V8o, V8p, V8q, V8r, V8s, V8t, V8u, V8v, V8w, V8x, V8y, V8z, V90, V91, V92, V93, V94, V95, V96, V97, V98, V99, V9a, V9b, V9c, V9d, V9e, V9f, V9g, V9h, V9i, V9j, V9k, V9l, V9m, V9n, V9o, V9p, V9q, V9r, V9s, V9t, V9u, V9v, V9w, V9x, V9y, V9z, Va0, Va1, Va2, Va3, Va4, Va5, Va6, Va7, Va8, Va9, Vaa, Vab, Vac, Vad, Vae, Vaf, Vag, Vah, Vai, Vaj, Vak, Val, Vam, Van, Vao, Vap, Vaq, Var, Vas, Vat, Vau, Vav, Vaw, Vax, Vay, Vaz, Vb0, Vb1, Vb2, Vb3, Vb4, Vb5, Vb6, Vb7, Vb8, Vb9, Vba, Vbb, Vbc, Vbd, Vbe, Vbf, Vbg, Vbh, Vbi, Vbj, Vbk, Vbl, Vbm, Vbn, Vbo, Vbp, Vbq, Vbr, Vbs, Vbt, Vbu, Vbv, Vbw, Vbx, Vby, Vbz], defers := [] } wx) :
  Code.wp Tryz.prog (codeAt [true, true, true, true, true, true, true, true, true, true, true, true, true, false, true] Tryz.f8) (Exit.then K (bodyPost Tryz.prog Tryz.f8 R)) { tmps := #[V0, .pointer (some ⟨g1, 0, none⟩), V2, V3, .slice a0 n0 c0, V5, V6, V7, V8, V9, Va, Vb, (0:Int), Vd, Ve, Vf, Vg, Vh, Vi, Vj, Vk, Vl, Vm, Vn, Vo, Vp, Vq, Vr, Vs, Vt, Vu, Vv, Vw, Vx, Vy, Vz, V10, V11, V12, V13, V14, V15, V16, V17, V18, V19, V1a, V1b, V1c, V1d, V1e, V1f, V1g, V1h, V1i, V1j, V1k, V1l, V1m, V1n, V1o, V1p, V1q, V1r, V1s, V1t, V1u, V1v, V1w, V1x, V1y, V1z, V20, V21, V22, V23, V24, V25, V26, V27, V28, V29, V2a, V2b, V2c, V2d, V2e, V2f, V2g, V2h, V2i, V2j, V2k, V2l, V2m, V2n, V2o, V2p, V2q, V2r, V2s, V2t, V2u, V2v, V2w, V2x, V2y, V2z, V30, V31, V32, V33, V34, V35, V36, V37, V38, V39, V3a, V3b, V3c, V3d, V3e, V3f, V3g, V3h, V3i, V3j, V3k, V3l, V3m, V3n, V3o, V3p, V3q, V3r, V3s, V3t, V3u, V3v, V3w, V3x, V3y, V3z, V40, V41, V42, V43, V44, V45, V46, V47, V48, V49, V4a, V4b, V4c, V4d, V4e, V4f, V4g, V4h, V4i, V4j, V4k, V4l, V4m, V4n, V4o, V4p, V4q, V4r, V4s, V4t, V4u, V4v, V4w, V4x, V4y, V4z, V50, V51, V52, V53, V54, V55, V56, V57, V58, V59, V5a, V5b, V5c, V5d, V5e, V5f, V5g, V5h, V5i, V5j, V5k, V5l, V5m, V5n, V5o, V5p, V5q, V5r, V5s, V5t, V5u, V5v, V5w, V5x, V5y, V5z, V60, V61, V62, V63, V64, V65, V66, V67, V68, V69, V6a, V6b, V6c, V6d, V6e, V6f, V6g, V6h, V6i, V6j, V6k, V6l, V6m, V6n, V6o, V6p, V6q, V6r, V6s, V6t, V6u, V6v, V6w, V6x, V6y, V6z, V70, V71, V72, V73, V74, V75, V76, V77, V78, V79, V7a, V7b, V7c, V7d, V7e, V7f, V7g, V7h, V7i, V7j, V7k, V7l, V7m, V7n, V7o, V7p, V7q, V7r, V7s, V7t, V7u, V7v, V7w, V7x, V7y, V7z, V80, V81, V82, V83, V84, V85, V86, V87, V88, V89, V8a, V8b, V8c, V8d, V8e, V8f, V8g, V8h, V8i, V8j, V8k, V8l, V8m, V8n, V8o, V8p, V8q, V8r, V8s, V8t, V8u, V8v, V8w, V8x, V8y, V8z, V90, V91, V92, V93, V94, V95, V96, V97, V98, V99, V9a, V9b, V9c, V9d, V9e, V9f, V9g, V9h, V9i, V9j, V9k, V9l, V9m, V9n, V9o, V9p, V9q, V9r, V9s, V9t, V9u, V9v, V9w, V9x, V9y, V9z, Va0, Va1, Va2, Va3, Va4, Va5, Va6, Va7, Va8, Va9, Vaa, Vab, Vac, Vad, Vae, Vaf, Vag, Vah, Vai, Vaj, Vak, Val, Vam, Van, Vao, Vap, Vaq, Var, Vas, Vat, Vau, Vav, Vaw, Vax, Vay, Vaz, Vb0, Vb1, Vb2, Vb3, Vb4, Vb5, Vb6, Vb7, Vb8, Vb9, Vba, Vbb, Vbc, Vbd, Vbe, Vbf, Vbg, Vbh, Vbi, Vbj, Vbk, Vbl, Vbm, Vbn, Vbo, Vbp, Vbq, Vbr, Vbs, Vbt, Vbu, Vbv, Vbw, Vbx, Vby, Vbz], defers := [] } w1 := by
 refine wp_at (c := _) rfl (.r (.r (.r (.r (.r (.r (.r (.r (.r (.r (.r (.r (.r (.l (.r (.nil)))))))))))))))) ?_
 have HBASE : Hid (W.heap.size ≤ W.heap.size) := Nat.le_refl _
 go_wp2_with fail
 go_loopw [4, 12] (fun v4 v5 wr => ∃ (k : Nat) (aw : Option Addr) (mw cw : Nat), k ≤ n6 ∧ v5 = .int .i64 k ∧ v4 = .slice aw mw cw ∧ BK W.heap.size W (.slice none 0 0) (l ++ encG BaT.bytes (L.take k)) (.slice aw mw cw) wr) (fun _ i _ => n6 - (intOf i).toNat)
 case atStart => exact ⟨0, _, _, _, Nat.zero_le _, rfl, rfl, by simpa [encG] using HBK1.out⟩
 case round =>
  obtain ⟨k, aw, mw, cw, hk, rfl, rfl, hbk⟩ := hrel
  have HBK := Lh hbk
  have hbox := hbk.box HBOX.out HNE.out
  have H3 := hbox.cell (j := 10) HFC.out
  have hup : (n6 : Int) ≤ 1024 := by have := HNN.out.2; omega
  by_cases hlt : k < n6
  ·
   have hkL : k < L.length := by rw [← HNN.out.1]; exact hlt
   have hrows : Rs BaT.vs 4 wr (.slice a6 L.length c6) L := by rw [← HNN.out.1]; exact HROWS.out wr hbk.2.1
   obtain ⟨bD, oD, rfl, hbw, hat⟩ := hrows.at (by omega) (by decide)
   obtain ⟨d, hc⟩ : ∃ d, d = L[k] := ⟨_, rfl⟩
   have HC := Lh hc
   have HKW : Hid (Kept (fun k => (Value.slice none 0 0).ownBlock = some k) W wr) := hbk.2.1
   have HLL : Hid ((l ++ encG BaT.bytes (L.take k)).length ≤ 1000000000) := wsl _ (fun x hx => BaT.blen x (HRD.out x hx)) (by have := HNN.out; omega) HLN.out
   have hk0 : (0 : Int) ≤ k := by omega
   have hk1 : (k : Int) < n6 := by omega
   have HRAN : Hid (wr.rangeAt bD (oD + k * 4) [d.kind, d.who, d.cur, d.sum]) := by intro i u hu; rw [hc] at hu; exact hat k hkL i u hu
   have HRG : Hid (okI [d.kind, d.who, d.cur, d.sum]) := by rw [hc]; exact HRD.out _ (List.getElem_mem hkL)
   have HNEW : Hid ((wr.alloc (.cells #[(0:Int), (0:Int), (0:Int), (0:Int)] 102)).heap[wr.heap.size]? = some (.cells #[(0:Int), (0:Int), (0:Int), (0:Int)] 102 (0, 0))) := heap_alloc_new _ _
   have HNEW2 : Hid (((wr.alloc (.cells #[(0:Int), (0:Int), (0:Int), (0:Int)] 102)).setRow wr.heap.size #[d.kind, d.who, d.cur, d.sum]).heap[wr.heap.size]? = some (.cells #[d.kind, d.who, d.cur, d.sum] 102 (0, 0))) := setRow_heap _ _ _ _ _ _ (heap_alloc_new _ _)
   have HSZ : Hid ((Tryz.prog.info? 102).map (·.size) = some (#[d.kind, d.who, d.cur, d.sum] : Array Value).size) := by show _ = _; rw [bal_sz]; rfl
   have HONE : Hid ((#[d.kind, d.who, d.cur, d.sum] : Array Value).all (·.oneCell') = true) := by show _ = true; simp [Value.oneCell']
   have HAL : Hid (Below wr.heap.size wr ((wr.alloc (.cells #[(0:Int), (0:Int), (0:Int), (0:Int)] 102)).setRow wr.heap.size #[d.kind, d.who, d.cur, d.sum])) := (Bn).trans (setRow_below (Nat.le_refl _) _)
   have HSW : Hid (((wr.alloc (.cells #[(0:Int), (0:Int), (0:Int), (0:Int)] 102)).setRow wr.heap.size #[d.kind, d.who, d.cur, d.sum]).heap.size = wr.heap.size + 1) := by show _ = _; simp [World.setRow]
   have HLT : Hid (∀ q, (Value.slice aw mw cw).ownBlock = some q → q < wr.heap.size) := OwnB.lt hbk.1
   have HSB : Hid (W.heap.size ≤ wr.heap.size) := hbk.2.1.size
   clear hrows hat hc hbk hbox
   obtain ⟨W2, hW2⟩ : ∃ x, x = ((wr.alloc (.cells #[(0:Int), (0:Int), (0:Int), (0:Int)] 102)).setRow wr.heap.size #[d.kind, d.who, d.cur, d.sum]) := ⟨_, rfl⟩
   have HBF : Hid (HT W2 wr.heap.size 102 [d.kind, d.who, d.cur, d.sum]) := by show HT _ _ _ _; rw [hW2]; exact HNEW2.out
   have HAL2 : Hid (Below wr.heap.size wr W2) := by show Below _ _ _; rw [hW2]; exact HAL.out
   have HSW2 : Hid (W2.heap.size = wr.heap.size + 1) := by show _ = _; rw [hW2]; exact HSW.out
   have f0 := HBF.out.cell (j := 0) rfl
   have f1 := HBF.out.cell (j := 1) rfl
   have f2 := HBF.out.cell (j := 2) rfl
   have f3 := HBF.out.cell (j := 3) rfl
   have nm := BK.num HBK.out (HAL2.out.alloc HAL2.out.size (.cells #[d.kind, d.who, d.cur, d.sum] 3)) (Is.block (l := [d.kind, d.who, d.cur, d.sum]) (cap := 4) (heap_alloc_new _ _) (by simp) (by simp [maxLen])) HRG.out (by simp) HLL.out HBASE.out
   rw [HSW2.out] at nm
   have HW2 := Lh hW2
   rw [hW2] at f0 f1 f2 f3 nm
   clear hW2
   go_wp2_with (first
    | (refine wpList_load_mid rfl 102 (.tmp 267) rfl bD (oD + k * 4) rfl [d.kind, d.who, d.cur, d.sum] _ HRAN.out Tryz.underlying102 rfl HSZ.out ?_)
    | (refine wpList_store_row rfl 102 (.tmp 13) (.tmp 268) rfl wr.heap.size #[d.kind, d.who, d.cur, d.sum] rfl rfl 102 #[(0:Int), (0:Int), (0:Int), (0:Int)] HNEW.out HSZ.out rfl HONE.out ?_)
    | fail)
   rw [← HW2.out] at nm ⊢
   refine nm.mono ?_
   clear nm f0 f1 f2 f3
   rintro e w5 ⟨a3, n3, c3, rfl, hbk⟩
   have HBN := Lh hbk
   clear hbk
   go_wp2_with fail
   first
    | exact ⟨⟨k + 1, a3, n3, c3, by omega, by push_cast; rfl, rfl, by rw [encG_snoc _ hkL, ← HC.out, ← List.append_assoc]; exact HBN.out⟩, by simp [intOf]; omega⟩
    | ((repeat apply Exists.intro); exact ⟨⟨k + 1, a3, n3, c3, by omega, by push_cast; rfl, rfl, by rw [encG_snoc _ hkL, ← HC.out, ← List.append_assoc]; exact HBN.out⟩, rfl⟩)
  ·
   obtain rfl : n6 = k := by omega
   rw [List.take_of_length_le (by rw [← HNN.out.1]; exact Nat.le_refl _)] at hbk
   have HF : Hid (WsP W (l ++ encG BaT.bytes L) aw mw cw wr) := hbk
   clear hbk HBK hbox
   go_wp2_with fail
   exact HF.out
theorem ws_bid {w1 W : World} {g1 : Nat} {C : List Value} {a9 : Option Addr} {n9 c9 : Nat} {l : List UInt8} {a0 : Option Addr} {n0 c0 : Nat} {K : Act → World → Prop} {R : Ending → World → Prop} (HBOX : Hid (HT W g1 41 C)) (HNE : Hid ((Value.slice none 0 0).ownBlock ≠ some g1)) (HFC : Hid (C[13]? = some (.slice a9 n9 c9))) {L : List BiT} (HROWS : Hid (∀ x, Kept (fun k => (Value.slice none 0 0).ownBlock = some k) W x → Rs BiT.vs 5 x (.slice a9 n9 c9) L)) (HNN : Hid (n9 = L.length ∧ n9 ≤ 1024)) (HRD : Hid (∀ x ∈ L, okI x.ints)) (HLN : Hid (l.length ≤ 500000000)) (HBK1 : Hid (BK W.heap.size W (.slice none 0 0) l (.slice a0 n0 c0) w1))
  (hQ : ∀ (Xg Xh Xa6 Xa7 Xa8 Xa9 Xaa Xab Xac Xad Xae Xaf Xag Xah Xai Xaj Xak Xal Xam Xan Xao Xap Xaq Xar Xas Xat Xau Xav Xaw : Value) (a : Option Addr) (n c : Nat) (wx : World), WsP W (l ++ encG BiT.bytes L) a n c wx → K { tmps := #[V0, .pointer (some ⟨g1, 0, none⟩), V2, V3, .slice a n c, V5, V6, V7, V8, V9, Va, Vb, Vc, Vd, Ve, Vf, Xg, Xh, Vi, Vj, Vk, Vl, Vm, Vn, Vo, Vp, Vq, Vr, Vs, Vt, Vu, Vv, Vw, Vx, Vy, Vz, V10, V11, V12, V13, V14, V15, V16, V17, V18, V19, V1a, V1b, V1c, V1d, V1e, V1f, V1g, V1h, V1i, V1j, V1k, V1l, V1m, V1n, V1o, V1p, V1q, V1r, V1s, V1t, V1u, V1v, V1w, V1x, V1y, V1z, V20, V21, V22, V23, V24, V25, V26, V27, V28, V29, V2a, V2b, V2c, V2d, V2e, V2f, V2g, V2h, V2i, V2j, V2k, V2l, V2m, V2n, V2o, V2p, V2q, V2r, V2s, V2t, V2u, V2v, V2w, V2x, V2y, V2z, V30, V31, V32, V33, V34, V35, V36, V37, V38, V39, V3a, V3b, V3c, V3d, V3e, V3f, V3g, V3h, V3i, V3j, V3k, V3l, V3m, V3n, V3o, V3p, V3q, V3r, V3s, V3t, V3u, V3v, V3w, V3x, V3y, V3z, V40, V41, V42, V43, V44, V45, V46, V47, V48, V49, V4a, V4b, V4c, V4d, V4e, V4f, V4g, V4h, V4i, V4j, V4k, V4l, V4m, V4n, V4o, V4p, V4q, V4r, V4s, V4t, V4u, V4v, V4w, V4x, V4y, V4z, V50, V51, V52, V53, V54, V55, V56, V57, V58, V59, V5a, V5b, V5c, V5d, V5e, V5f, V5g, V5h, V5i, V5j, V5k, V5l, V5m, V5n, V5o, V5p, V5q, V5r, V5s, V5t, V5u, V5v, V5w, V5x, V5y, V5z, V60, V61, V62, V63, V64, V65, V66, V67, V68, V69, V6a, V6b, V6c, V6d, V6e, V6f, V6g, V6h, V6i, V6j, V6k, V6l, V6m, V6n, V6o, V6p, V6q, V6r, V6s, V6t, V6u, V6v, V6w, V6x, V6y, V6z, V70, V71, V72, V73, V74, V75, V76, V77, V78, V79, V7a, V7b, V7c, V7d, V7e, V7f, V7g, V7h, V7i, V7j, V7k, V7l, V7m, V7n, V7o, V7p, V7q, V7r, V7s, V7t, V7u, V7v, V7w, V7x, V7y, V7z, V80, V81, V82, V83, V84, V85, V86, V87, V88, V89, V8a, V8b, V8c, V8d, V8e, V8f, V8g, V8h, V8i, V8j, V8k, V8l, V8m, V8n, V8o, V8p, V8q, V8r, V8s, V8t, V8u, V8v, V8w, V8x, V8y, V8z, V90, V91, V92, V93, V94, V95, V96, V97, V98, V99, V9a, V9b, V9c, V9d, V9e, V9f, V9g, V9h, V9i, V9j, V9k, V9l, V9m, V9n, V9o, V9p, V9q, V9r, V9s, V9t, V9u, V9v, V9w, V9x, V9y, V9z, Va0, Va1, Va2, Va3, Va4, Va5, Xa6, Xa7, Xa8, Xa9, Xaa, Xab, Xac, Xad, Xae, Xaf, Xag, Xah, Xai, Xaj, Xak, Xal, Xam, Xan, Xao, Xap, Xaq, Xar, Xas, Xat, Xau, Xav, Xaw, Vax, Vay, Vaz, Vb0, Vb1, Vb2, Vb3, Vb4, Vb5, Vb6, Vb7, Vb8, Vb9, Vba, Vbb, Vbc, Vbd, Vbe, Vbf, Vbg, Vbh, Vbi, Vbj, Vbk, Vbl, Vbm, Vbn, Vbo, Vbp, Vbq, Vbr, Vbs, Vbt, Vbu, Vbv, Vbw, Vbx, Vby, Vbz], defers := [] } wx) :
  Code.wp Tryz.prog (codeAt [true, true, true, true, true, true, true, true, true, true, true, true, true, true, true, true, true, true, true, false, true] Tryz.f8) (Exit.then K (bodyPost Tryz.prog Tryz.f8 R)) { tmps := #[V0, .pointer (some ⟨g1, 0, none⟩), V2, V3, .slice a0 n0 c0, V5, V6, V7, V8, V9, Va, Vb, Vc, Vd, Ve, Vf, (0:Int), Vh, Vi, Vj, Vk, Vl, Vm, Vn, Vo, Vp, Vq, Vr, Vs, Vt, Vu, Vv, Vw, Vx, Vy, Vz, V10, V11, V12, V13, V14, V15, V16, V17, V18, V19, V1a, V1b, V1c, V1d, V1e, V1f, V1g, V1h, V1i, V1j, V1k, V1l, V1m, V1n, V1o, V1p, V1q, V1r, V1s, V1t, V1u, V1v, V1w, V1x, V1y, V1z, V20, V21, V22, V23, V24, V25, V26, V27, V28, V29, V2a, V2b, V2c, V2d, V2e, V2f, V2g, V2h, V2i, V2j, V2k, V2l, V2m, V2n, V2o, V2p, V2q, V2r, V2s, V2t, V2u, V2v, V2w, V2x, V2y, V2z, V30, V31, V32, V33, V34, V35, V36, V37, V38, V39, V3a, V3b, V3c, V3d, V3e, V3f, V3g, V3h, V3i, V3j, V3k, V3l, V3m, V3n, V3o, V3p, V3q, V3r, V3s, V3t, V3u, V3v, V3w, V3x, V3y, V3z, V40, V41, V42, V43, V44, V45, V46, V47, V48, V49, V4a, V4b, V4c, V4d, V4e, V4f, V4g, V4h, V4i, V4j, V4k, V4l, V4m, V4n, V4o, V4p, V4q, V4r, V4s, V4t, V4u, V4v, V4w, V4x, V4y, V4z, V50, V51, V52, V53, V54, V55, V56, V57, V58, V59, V5a, V5b, V5c, V5d, V5e, V5f, V5g, V5h, V5i, V5j, V5k, V5l, V5m, V5n, V5o, V5p, V5q, V5r, V5s, V5t, V5u, V5v, V5w, V5x, V5y, V5z, V60, V61, V62, V63, V64, V65, V66, V67, V68, V69, V6a, V6b, V6c, V6d, V6e, V6f, V6g, V6h, V6i, V6j, V6k, V6l, V6m, V6n, V6o, V6p, V6q, V6r, V6s, V6t, V6u, V6v, V6w, V6x, V6y, V6z, V70, V71, V72, V73, V74, V75, V76, V77, V78, V79, V7a, V7b, V7c, V7d, V7e, V7f, V7g, V7h, V7i, V7j, V7k, V7l, V7m, V7n, V7o, V7p, V7q, V7r, V7s, V7t, V7u, V7v, V7w, V7x, V7y, V7z, V80, V81, V82, V83, V84, V85, V86, V87, V88, V89, V8a, V8b, V8c, V8d, V8e, V8f, V8g, V8h, V8i, V8j, V8k, V8l, V8m, V8n, V8o, V8p, V8q, V8r, V8s, V8t, V8u, V8v, V8w, V8x, V8y, V8z, V90, V91, V92, V93, V94, V95, V96, V97, V98, V99, V9a, V9b, V9c, V9d, V9e, V9f, V9g, V9h, V9i, V9j, V9k, V9l, V9m, V9n, V9o, V9p, V9q, V9r, V9s, V9t, V9u, V9v, V9w, V9x, V9y, V9z, Va0, Va1, Va2, Va3, Va4, Va5, Va6, Va7, Va8, Va9, Vaa, Vab, Vac, Vad, Vae, Vaf, Vag, Vah, Vai, Vaj, Vak, Val, Vam, Van, Vao, Vap, Vaq, Var, Vas, Vat, Vau, Vav, Vaw, Vax, Vay, Vaz, Vb0, Vb1, Vb2, Vb3, Vb4, Vb5, Vb6, Vb7, Vb8, Vb9, Vba, Vbb, Vbc, Vbd, Vbe, Vbf, Vbg, Vbh, Vbi, Vbj, Vbk, Vbl, Vbm, Vbn, Vbo, Vbp, Vbq, Vbr, Vbs, Vbt, Vbu, Vbv, Vbw, Vbx, Vby, Vbz], defers := [] } w1 := by
 refine wp_at (c := _) rfl (.r (.r (.r (.r (.r (.r (.r (.r (.r (.r (.r (.r (.r (.r (.r (.r (.r (.r (.r (.l (.r (.nil)))))))))))))))))))))) ?_
 have HBASE : Hid (W.heap.size ≤ W.heap.size) := Nat.le_refl _
 go_wp2_with fail
 go_loopw [4, 16] (fun v4 v5 wr => ∃ (k : Nat) (aw : Option Addr) (mw cw : Nat), k ≤ n9 ∧ v5 = .int .i64 k ∧ v4 = .slice aw mw cw ∧ BK W.heap.size W (.slice none 0 0) (l ++ encG BiT.bytes (L.take k)) (.slice aw mw cw) wr) (fun _ i _ => n9 - (intOf i).toNat)
 case atStart => exact ⟨0, _, _, _, Nat.zero_le _, rfl, rfl, by simpa [encG] using HBK1.out⟩
 case round =>
  obtain ⟨k, aw, mw, cw, hk, rfl, rfl, hbk⟩ := hrel
  have HBK := Lh hbk
  have hbox := hbk.box HBOX.out HNE.out
  have H3 := hbox.cell (j := 13) HFC.out
  have hup : (n9 : Int) ≤ 1024 := by have := HNN.out.2; omega
  by_cases hlt : k < n9
  ·
   have hkL : k < L.length := by rw [← HNN.out.1]; exact hlt
   have hrows : Rs BiT.vs 5 wr (.slice a9 L.length c9) L := by rw [← HNN.out.1]; exact HROWS.out wr hbk.2.1
   obtain ⟨bD, oD, rfl, hbw, hat⟩ := hrows.at (by omega) (by decide)
   obtain ⟨d, hc⟩ : ∃ d, d = L[k] := ⟨_, rfl⟩
   have HC := Lh hc
   have HKW : Hid (Kept (fun k => (Value.slice none 0 0).ownBlock = some k) W wr) := hbk.2.1
   have HLL : Hid ((l ++ encG BiT.bytes (L.take k)).length ≤ 1000000000) := wsl _ (fun x hx => BiT.blen x (HRD.out x hx)) (by have := HNN.out; omega) HLN.out
   have hk0 : (0 : Int) ≤ k := by omega
   have hk1 : (k : Int) < n9 := by omega
   have HRAN : Hid (wr.rangeAt bD (oD + k * 5) [d.who, d.inst, d.frm, d.qty, d.price]) := by intro i u hu; rw [hc] at hu; exact hat k hkL i u hu
   have HRG : Hid (okI [d.who, d.inst, d.frm, d.qty, d.price]) := by rw [hc]; exact HRD.out _ (List.getElem_mem hkL)
   have HNEW : Hid ((wr.alloc (.cells #[(0:Int), (0:Int), (0:Int), (0:Int), (0:Int)] 110)).heap[wr.heap.size]? = some (.cells #[(0:Int), (0:Int), (0:Int), (0:Int), (0:Int)] 110 (0, 0))) := heap_alloc_new _ _
   have HNEW2 : Hid (((wr.alloc (.cells #[(0:Int), (0:Int), (0:Int), (0:Int), (0:Int)] 110)).setRow wr.heap.size #[d.who, d.inst, d.frm, d.qty, d.price]).heap[wr.heap.size]? = some (.cells #[d.who, d.inst, d.frm, d.qty, d.price] 110 (0, 0))) := setRow_heap _ _ _ _ _ _ (heap_alloc_new _ _)
   have HSZ : Hid ((Tryz.prog.info? 110).map (·.size) = some (#[d.who, d.inst, d.frm, d.qty, d.price] : Array Value).size) := by show _ = _; rw [bid_sz]; rfl
   have HONE : Hid ((#[d.who, d.inst, d.frm, d.qty, d.price] : Array Value).all (·.oneCell') = true) := by show _ = true; simp [Value.oneCell']
   have HAL : Hid (Below wr.heap.size wr ((wr.alloc (.cells #[(0:Int), (0:Int), (0:Int), (0:Int), (0:Int)] 110)).setRow wr.heap.size #[d.who, d.inst, d.frm, d.qty, d.price])) := (Bn).trans (setRow_below (Nat.le_refl _) _)
   have HSW : Hid (((wr.alloc (.cells #[(0:Int), (0:Int), (0:Int), (0:Int), (0:Int)] 110)).setRow wr.heap.size #[d.who, d.inst, d.frm, d.qty, d.price]).heap.size = wr.heap.size + 1) := by show _ = _; simp [World.setRow]
   have HLT : Hid (∀ q, (Value.slice aw mw cw).ownBlock = some q → q < wr.heap.size) := OwnB.lt hbk.1
   have HSB : Hid (W.heap.size ≤ wr.heap.size) := hbk.2.1.size
   clear hrows hat hc hbk hbox
   obtain ⟨W2, hW2⟩ : ∃ x, x = ((wr.alloc (.cells #[(0:Int), (0:Int), (0:Int), (0:Int), (0:Int)] 110)).setRow wr.heap.size #[d.who, d.inst, d.frm, d.qty, d.price]) := ⟨_, rfl⟩
   have HBF : Hid (HT W2 wr.heap.size 110 [d.who, d.inst, d.frm, d.qty, d.price]) := by show HT _ _ _ _; rw [hW2]; exact HNEW2.out
   have HAL2 : Hid (Below wr.heap.size wr W2) := by show Below _ _ _; rw [hW2]; exact HAL.out
   have HSW2 : Hid (W2.heap.size = wr.heap.size + 1) := by show _ = _; rw [hW2]; exact HSW.out
   have f0 := HBF.out.cell (j := 0) rfl
   have f1 := HBF.out.cell (j := 1) rfl
   have f2 := HBF.out.cell (j := 2) rfl
   have f3 := HBF.out.cell (j := 3) rfl
   have f4 := HBF.out.cell (j := 4) rfl
   have nm := BK.num HBK.out (HAL2.out.alloc HAL2.out.size (.cells #[d.who, d.inst, d.frm, d.qty, d.price] 3)) (Is.block (l := [d.who, d.inst, d.frm, d.qty, d.price]) (cap := 5) (heap_alloc_new _ _) (by simp) (by simp [maxLen])) HRG.out (by simp) HLL.out HBASE.out
   rw [HSW2.out] at nm
   have HW2 := Lh hW2
   rw [hW2] at f0 f1 f2 f3 f4 nm
   clear hW2
   go_wp2_with (first
    | (refine wpList_load_mid rfl 110 (.tmp 376) rfl bD (oD + k * 5) rfl [d.who, d.inst, d.frm, d.qty, d.price] _ HRAN.out Tryz.underlying110 rfl HSZ.out ?_)
    | (refine wpList_store_row rfl 110 (.tmp 17) (.tmp 377) rfl wr.heap.size #[d.who, d.inst, d.frm, d.qty, d.price] rfl rfl 110 #[(0:Int), (0:Int), (0:Int), (0:Int), (0:Int)] HNEW.out HSZ.out rfl HONE.out ?_)
    | fail)
   rw [← HW2.out] at nm ⊢
   refine nm.mono ?_
   clear nm f0 f1 f2 f3 f4
   rintro e w5 ⟨a3, n3, c3, rfl, hbk⟩
   have HBN := Lh hbk
   clear hbk
   go_wp2_with fail
   first
    | exact ⟨⟨k + 1, a3, n3, c3, by omega, by push_cast; rfl, rfl, by rw [encG_snoc _ hkL, ← HC.out, ← List.append_assoc]; exact HBN.out⟩, by simp [intOf]; omega⟩
    | ((repeat apply Exists.intro); exact ⟨⟨k + 1, a3, n3, c3, by omega, by push_cast; rfl, rfl, by rw [encG_snoc _ hkL, ← HC.out, ← List.append_assoc]; exact HBN.out⟩, rfl⟩)
  ·
   obtain rfl : n9 = k := by omega
   rw [List.take_of_length_le (by rw [← HNN.out.1]; exact Nat.le_refl _)] at hbk
   have HF : Hid (WsP W (l ++ encG BiT.bytes L) aw mw cw wr) := hbk
   clear hbk HBK hbox
   go_wp2_with fail
   exact HF.out
end Cam
