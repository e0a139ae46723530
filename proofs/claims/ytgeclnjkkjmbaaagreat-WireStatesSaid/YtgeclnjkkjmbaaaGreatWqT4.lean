import Derived.Test.YtgeclnjkkjmbaaaGreatWqSz
/- cambistref24: State: instruments, trades. -/
namespace Cam
open Go Go.RowKit Go.Proofs
set_option linter.unusedVariables false
set_option linter.unusedSimpArgs false
set_option maxRecDepth 100000
set_option maxHeartbeats 6400000
variable {V0 V1 V2 V3 V4 V5 V6 V7 V8 V9 Va Vb Vc Vd Ve Vf Vg Vh Vi Vj Vk Vl Vm Vn Vo Vp Vq Vr Vs Vt Vu Vv Vw Vx Vy Vz V10 V11 V12 V13 V14 V15 V16 V17 V18 V19 V1a V1b V1c V1d V1e V1f V1g V1h V1i V1j V1k V1l V1m V1n V1o V1p V1q V1r V1s V1t V1u V1v V1w V1x V1y V1z V20 V21 V22 V23 V24 V25 V26 V27 V28 V29 V2a V2b V2c V2d V2e V2f V2g V2h V2i V2j V2k V2l V2m V2n V2o V2p V2q V2r V2s V2t V2u V2v V2w V2x V2y V2z V30 V31 V32 V33 V34 V35 V36 V37 V38 V39 V3a V3b V3c V3d V3e V3f V3g V3h V3i V3j V3k V3l V3m V3n V3o V3p V3q V3r V3s V3t V3u V3v V3w V3x V3y V3z V40 V41 V42 V43 V44 V45 V46 V47 V48 V49 V4a V4b V4c V4d V4e V4f V4g V4h V4i V4j V4k V4l V4m V4n V4o V4p V4q V4r V4s V4t V4u V4v V4w V4x V4y V4z V50 V51 V52 V53 V54 V55 V56 V57 V58 V59 V5a V5b V5c V5d V5e V5f V5g V5h V5i V5j V5k V5l V5m V5n V5o V5p V5q V5r V5s V5t V5u V5v V5w V5x V5y V5z V60 V61 V62 V63 V64 V65 V66 V67 V68 V69 V6a V6b V6c V6d V6e V6f V6g V6h V6i V6j V6k V6l V6m V6n V6o V6p V6q V6r V6s V6t V6u V6v V6w V6x V6y V6z V70 V71 V72 V73 V74 V75 V76 V77 V78 V79 V7a V7b V7c V7d V7e V7f V7g V7h V7i V7j V7k V7l V7m V7n V7o V7p V7q V7r V7s V7t V7u V7v V7w V7x V7y V7z V80 V81 V82 V83 V84 V85 V86 V87 V88 V89 V8a V8b V8c V8d V8e V8f V8g V8h V8i V8j V8k V8l V8m V8n V8o V8p V8q V8r V8s V8t V8u V8v V8w V8x V8y V8z V90 V91 V92 V93 V94 V95 V96 V97 V98 V99 V9a V9b V9c V9d V9e V9f V9g V9h V9i V9j V9k V9l V9m V9n V9o V9p V9q V9r V9s V9t V9u V9v V9w V9x V9y V9z Va0 Va1 Va2 Va3 Va4 Va5 Va6 Va7 Va8 Va9 Vaa Vab Vac Vad Vae Vaf Vag Vah Vai Vaj Vak Val Vam Van Vao Vap Vaq Var Vas Vat Vau Vav Vaw Vax Vay Vaz Vb0 Vb1 Vb2 Vb3 Vb4 Vb5 Vb6 Vb7 Vb8 Vb9 Vba Vbb Vbc Vbd Vbe Vbf Vbg Vbh Vbi Vbj Vbk Vbl Vbm Vbn Vbo Vbp Vbq Vbr Vbs Vbt Vbu Vbv Vbw Vbx Vby Vbz : Value}
theorem ws_ins {w1 W : World} {g1 : Nat} {C : List Value} {a2 : Option Addr} {n2 c2 : Nat} {l : List UInt8} {a0 : Option Addr} {n0 c0 : Nat} {K : Act → World → Prop} {R : Ending → World → Prop} (HBOX : Hid (HT W g1 41 C)) (HNE : Hid ((Value.slice none 0 0).ownBlock ≠ some g1)) (HFC : Hid (C[4]? = some (.slice a2 n2 c2))) {L : List InT} (HROWS : Hid (∀ x, Kept (fun k => (Value.slice none 0 0).ownBlock = some k) W x → Rs InT.vs 12 x (.slice a2 n2 c2) L)) (HNN : Hid (n2 = L.length ∧ n2 ≤ 1024)) (HRD : Hid (∀ x ∈ L, okI x.ints)) (HLN : Hid (l.length ≤ 5000000)) (HBK1 : Hid (BK W.heap.size W (.slice none 0 0) l (.slice a0 n0 c0) w1))
  (hQ : ∀ (X6 X7 X24 X25 X26 X27 X28 X29 X2a X2b X2c X2d X2e X2f X2g X2h X2i X2j X2k X2l X2m X2n X2o X2p X2q X2r X2s X2t X2u X2v X2w X2x X2y X2z : Value) (a : Option Addr) (n c : Nat) (wx : World), WsP W (l ++ encG InT.bytes L) a n c wx → K { tmps := #[V0, .pointer (some ⟨g1, 0, none⟩), V2, V3, .slice a n c, V5, X6, X7, V8, V9, Va, Vb, Vc, Vd, Ve, Vf, Vg, Vh, Vi, Vj, Vk, Vl, Vm, Vn, Vo, Vp, Vq, Vr, Vs, Vt, Vu, Vv, Vw, Vx, Vy, Vz, V10, V11, V12, V13, V14, V15, V16, V17, V18, V19, V1a, V1b, V1c, V1d, V1e, V1f, V1g, V1h, V1i, V1j, V1k, V1l, V1m, V1n, V1o, V1p, V1q, V1r, V1s, V1t, V1u, V1v, V1w, V1x, V1y, V1z, V20, V21, V22, V23, X24, X25, X26, X27, X28, X29, X2a, X2b, X2c, X2d, X2e, X2f, X2g, X2h, X2i, X2j, X2k, X2l, X2m, X2n, X2o, X2p, X2q, X2r, X2s, X2t, X2u, X2v, X2w, X2x, X2y, X2z, V30, V31, V32, V33, V34, V35, V36, V37, V38, V39, V3a, V3b, V3c, V3d, V3e, V3f, V3g, V3h, V3i, V3j, V3k, V3l, V3m, V3n, V3o, V3p, V3q, V3r, V3s, V3t, V3u, V3v, V3w, V3x, V3y, V3z, V40, V41, V42, V43, V44, V45, V46, V47, V48, V49, V4a, V4b, V4c, V4d, V4e, V4f, V4g, V4h, V4i, V4j, V4k, V4l, V4m, V4n, V4o, V4p, V4q, V4r, V4s, V4t, V4u, V4v, V4w, V4x, V4y, V4z, V50, V51, V52, V53, V54, V55, V56, V57, V58, V59, V5a, V5b, V5c, V5d, V5e, V5f, V5g, V5h, V5i, V5j, V5k, V5l, V5m, V5n, V5o, V5p, V5q, V5r, V5s, V5t, V5u, V5v, V5w, V5x, V5y, V5z, V60, V61, V62, V63, V64, V65, V66, V67, V68, V69, V6a, V6b, V6c, V6d, V6e, V6f, V6g, V6h, V6i, V6j, V6k, V6l, V6m, V6n, V6o, V6p, V6q, V6r, V6s, V6t, V6u, V6v, V6w, V6x, V6y, V6z, V70, V71, V72, V73, V74, V75, V76, V77, V78, V79, V7a, V7b, V7c, V7d, V7e, V7f, V7g, V7h, V7i, V7j, V7k, V7l, V7m, V7n, V7o, V7p, V7q, V7r, V7s, V7t, V7u, V7v, V7w, V7x, V7y, V7z, V80, V81, V82, V83, V84, V85, V86, V87, V88, V89, V8a, V8b, V8c, V8d, V8e, V8f, V8g, V8h, V8i, V8j, V8k, V8l, V8m, V8n, V8o, V8p, V8q, V8r, V8s, V8t, V8u, V8v, V8w, V8x, V8y, V8z, V90, V91, V92, V93, V94, V95, V96, V97, V98, V99, V9a, V9b, V9c, V9d, V9e, V9f, V9g, V9h, V9i, V9j, V9k, V9l, V9m, V9n, V9o, V9p, V9q, V9r, V9s, V9t, V9u, V9v, V9w, V9x, V9y, V9z, Va0, Va1, Va2, Va3, Va4, Va5, Va6, Va7, Va8, Va9, Vaa, Vab, Vac, Vad, Vae, Vaf, Vag, Vah, Vai, Vaj, Vak, Val, Vam, Van, Vao, Vap, Vaq, Var, Vas, Vat, Vau, Vav, Vaw, Vax, Vay, Vaz, Vb0, Vb1, Vb2, Vb3, Vb4, Vb5, Vb6, Vb7, Vb8, Vb9, Vba, Vbb, Vbc, Vbd, Vbe, Vbf, Vbg, Vbh, Vbi, Vbj, Vbk, Vbl, Vbm, Vbn, Vbo, Vbp, Vbq, Vbr, Vbs, Vbt, Vbu, Vbv, Vbw, Vbx, Vby, Vbz], defers := [] } wx) :
  Code.wp Tryz.prog (codeAt [true, true, true, true, true, false, true] Tryz.f8) (Exit.then K (bodyPost Tryz.prog Tryz.f8 R)) { tmps := #[V0, .pointer (some ⟨g1, 0, none⟩), V2, V3, .slice a0 n0 c0, V5, .int .i64 0, V7, V8, V9, Va, Vb, Vc, Vd, Ve, Vf, Vg, Vh, Vi, Vj, Vk, Vl, Vm, Vn, Vo, Vp, Vq, Vr, Vs, Vt, Vu, Vv, Vw, Vx, Vy, Vz, V10, V11, V12, V13, V14, V15, V16, V17, V18, V19, V1a, V1b, V1c, V1d, V1e, V1f, V1g, V1h, V1i, V1j, V1k, V1l, V1m, V1n, V1o, V1p, V1q, V1r, V1s, V1t, V1u, V1v, V1w, V1x, V1y, V1z, V20, V21, V22, V23, V24, V25, V26, V27, V28, V29, V2a, V2b, V2c, V2d, V2e, V2f, V2g, V2h, V2i, V2j, V2k, V2l, V2m, V2n, V2o, V2p, V2q, V2r, V2s, V2t, V2u, V2v, V2w, V2x, V2y, V2z, V30, V31, V32, V33, V34, V35, V36, V37, V38, V39, V3a, V3b, V3c, V3d, V3e, V3f, V3g, V3h, V3i, V3j, V3k, V3l, V3m, V3n, V3o, V3p, V3q, V3r, V3s, V3t, V3u, V3v, V3w, V3x, V3y, V3z, V40, V41, V42, V43, V44, V45, V46, V47, V48, V49, V4a, V4b, V4c, V4d, V4e, V4f, V4g, V4h, V4i, V4j, V4k, V4l, V4m, V4n, V4o, V4p, V4q, V4r, V4s, V4t, V4u, V4v, V4w, V4x, V4y, V4z, V50, V51, V52, V53, V54, V55, V56, V57, V58, V59, V5a, V5b, V5c, V5d, V5e, V5f, V5g, V5h, V5i, V5j, V5k, V5l, V5m, V5n, V5o, V5p, V5q, V5r, V5s, V5t, V5u, V5v, V5w, V5x, V5y, V5z, V60, V61, V62, V63, V64, V65, V66, V67, V68, V69, V6a, V6b, V6c, V6d, V6e, V6f, V6g, V6h, V6i, V6j, V6k, V6l, V6m, V6n, V6o, V6p, V6q, V6r, V6s, V6t, V6u, V6v, V6w, V6x, V6y, V6z, V70, V71, V72, V73, V74, V75, V76, V77, V78, V79, V7a, V7b, V7c, V7d, V7e, V7f, V7g, V7h, V7i, V7j, V7k, V7l, V7m, V7n, V7o, V7p, V7q, V7r, V7s, V7t, V7u, V7v, V7w, V7x, V7y, V7z, V80, V81, V82, V83, V84, V85, V86, V87, V88, V89, V8a, V8b, V8c, V8d, V8e, V8f, V8g, V8h, V8i, V8j, V8k, V8l, V8m, V8n, V8o, V8p, V8q, V8r, V8s, V8t, V8u, V8v, V8w, V8x, V8y, V8z, V90, V91, V92, V93, V94, V95, V96, V97, V98, V99, V9a, V9b, V9c, V9d, V9e, V9f, V9g, V9h, V9i, V9j, V9k, V9l, V9m, V9n, V9o, V9p, V9q, V9r, V9s, V9t, V9u, V9v, V9w, V9x, V9y, V9z, Va0, Va1, Va2, Va3, Va4, Va5, Va6, Va7, Va8, Va9, Vaa, Vab, Vac, Vad, Vae, Vaf, Vag, Vah, Vai, Vaj, Vak, Val, Vam, Van, Vao, Vap, Vaq, Var, Vas, Vat, Vau, Vav, Vaw, Vax, Vay, Vaz, Vb0, Vb1, Vb2, Vb3, Vb4, Vb5, Vb6, Vb7, Vb8, Vb9, Vba, Vbb, Vbc, Vbd, Vbe, Vbf, Vbg, Vbh, Vbi, Vbj, Vbk, Vbl, Vbm, Vbn, Vbo, Vbp, Vbq, Vbr, Vbs, Vbt, Vbu, Vbv, Vbw, Vbx, Vby, Vbz], defers := [] } w1 := by
 refine wp_at (c := _) rfl (.r (.r (.r (.r (.r (.l (.r (.nil)))))))) ?_
 have HBASE : Hid (W.heap.size ≤ W.heap.size) := Nat.le_refl _
 go_wp2_with fail
 go_loopw [4, 6] (fun v4 v5 wr => ∃ (k : Nat) (aw : Option Addr) (mw cw : Nat), k ≤ n2 ∧ v5 = .int .i64 k ∧ v4 = .slice aw mw cw ∧ BK W.heap.size W (.slice none 0 0) (l ++ encG InT.bytes (L.take k)) (.slice aw mw cw) wr) (fun _ i _ => n2 - (intOf i).toNat)
 case atStart => exact ⟨0, _, _, _, Nat.zero_le _, rfl, rfl, by simpa [encG] using HBK1.out⟩
 case round =>
  obtain ⟨k, aw, mw, cw, hk, rfl, rfl, hbk⟩ := hrel
  have HBK := Lh hbk
  have hbox := hbk.box HBOX.out HNE.out
  have H3 := hbox.cell (j := 4) HFC.out
  have hup : (n2 : Int) ≤ 1024 := by have := HNN.out.2; omega
  by_cases hlt : k < n2
  ·
   have hkL : k < L.length := by rw [← HNN.out.1]; exact hlt
   have hrows : Rs InT.vs 12 wr (.slice a2 L.length c2) L := by rw [← HNN.out.1]; exact HROWS.out wr hbk.2.1
   obtain ⟨bD, oD, rfl, hbw, hat⟩ := hrows.at (by omega) (by decide)
   obtain ⟨d, hc⟩ : ∃ d, d = L[k] := ⟨_, rfl⟩
   have HC := Lh hc
   have HKW : Hid (Kept (fun k => (Value.slice none 0 0).ownBlock = some k) W wr) := hbk.2.1
   have HLL : Hid ((l ++ encG InT.bytes (L.take k)).length ≤ 1000000000) := wsl _ (fun x hx => InT.blen x (HRD.out x hx)) (by have := HNN.out; omega) (Nat.le_trans HLN.out (by decide))
   have hk0 : (0 : Int) ≤ k := by omega
   have hk1 : (k : Int) < n2 := by omega
   have HRAN : Hid (wr.rangeAt bD (oD + k * 12) [d.no, d.cur, d.mult, d.add, d.set, d.price, d.h0, d.h1, d.h2, d.h3, d.h4, d.h5]) := by intro i u hu; rw [hc] at hu; exact hat k hkL i u hu
   have HRG : Hid (okI [d.no, d.cur, d.mult, d.add, d.set, d.price, d.h0, d.h1, d.h2, d.h3, d.h4, d.h5]) := by rw [hc]; exact HRD.out _ (List.getElem_mem hkL)
   have HNEW : Hid ((wr.alloc (.cells #[(0:Int), (0:Int), (0:Int), (0:Int), (0:Int), (0:Int), (0:Int), (0:Int), (0:Int), (0:Int), (0:Int), (0:Int)] 88)).heap[wr.heap.size]? = some (.cells #[(0:Int), (0:Int), (0:Int), (0:Int), (0:Int), (0:Int), (0:Int), (0:Int), (0:Int), (0:Int), (0:Int), (0:Int)] 88 (0, 0))) := heap_alloc_new _ _
   have HNEW2 : Hid (((wr.alloc (.cells #[(0:Int), (0:Int), (0:Int), (0:Int), (0:Int), (0:Int), (0:Int), (0:Int), (0:Int), (0:Int), (0:Int), (0:Int)] 88)).setRow wr.heap.size #[d.no, d.cur, d.mult, d.add, d.set, d.price, d.h0, d.h1, d.h2, d.h3, d.h4, d.h5]).heap[wr.heap.size]? = some (.cells #[d.no, d.cur, d.mult, d.add, d.set, d.price, d.h0, d.h1, d.h2, d.h3, d.h4, d.h5] 88 (0, 0))) := setRow_heap _ _ _ _ _ _ (heap_alloc_new _ _)
   have HSZ : Hid ((Tryz.prog.info? 88).map (·.size) = some (#[d.no, d.cur, d.mult, d.add, d.set, d.price, d.h0, d.h1, d.h2, d.h3, d.h4, d.h5] : Array Value).size) := by show _ = _; rw [ins_sz]; rfl
   have HONE : Hid ((#[d.no, d.cur, d.mult, d.add, d.set, d.price, d.h0, d.h1, d.h2, d.h3, d.h4, d.h5] : Array Value).all (·.oneCell') = true) := by show _ = true; simp [Value.oneCell']
   have HAL : Hid (Below wr.heap.size wr ((wr.alloc (.cells #[(0:Int), (0:Int), (0:Int), (0:Int), (0:Int), (0:Int), (0:Int), (0:Int), (0:Int), (0:Int), (0:Int), (0:Int)] 88)).setRow wr.heap.size #[d.no, d.cur, d.mult, d.add, d.set, d.price, d.h0, d.h1, d.h2, d.h3, d.h4, d.h5])) := (Bn).trans (setRow_below (Nat.le_refl _) _)
   have HSW : Hid (((wr.alloc (.cells #[(0:Int), (0:Int), (0:Int), (0:Int), (0:Int), (0:Int), (0:Int), (0:Int), (0:Int), (0:Int), (0:Int), (0:Int)] 88)).setRow wr.heap.size #[d.no, d.cur, d.mult, d.add, d.set, d.price, d.h0, d.h1, d.h2, d.h3, d.h4, d.h5]).heap.size = wr.heap.size + 1) := by show _ = _; simp [World.setRow]
   have HLT : Hid (∀ q, (Value.slice aw mw cw).ownBlock = some q → q < wr.heap.size) := OwnB.lt hbk.1
   have HSB : Hid (W.heap.size ≤ wr.heap.size) := hbk.2.1.size
   clear hrows hat hc hbk hbox
   obtain ⟨W2, hW2⟩ : ∃ x, x = ((wr.alloc (.cells #[(0:Int), (0:Int), (0:Int), (0:Int), (0:Int), (0:Int), (0:Int), (0:Int), (0:Int), (0:Int), (0:Int), (0:Int)] 88)).setRow wr.heap.size #[d.no, d.cur, d.mult, d.add, d.set, d.price, d.h0, d.h1, d.h2, d.h3, d.h4, d.h5]) := ⟨_, rfl⟩
   have HBF : Hid (HT W2 wr.heap.size 88 [d.no, d.cur, d.mult, d.add, d.set, d.price, d.h0, d.h1, d.h2, d.h3, d.h4, d.h5]) := by show HT _ _ _ _; rw [hW2]; exact HNEW2.out
   have HAL2 : Hid (Below wr.heap.size wr W2) := by show Below _ _ _; rw [hW2]; exact HAL.out
   have HSW2 : Hid (W2.heap.size = wr.heap.size + 1) := by show _ = _; rw [hW2]; exact HSW.out
   have HRS : Hid (okI [d.h0, d.h1, d.h2, d.h3, d.h4, d.h5]) := fun m hm => HRG.out m (by simp only [List.mem_cons, List.not_mem_nil, or_false] at hm ⊢; rcases hm with h | h | h | h | h | h <;> simp [h])
   have HRG : Hid (okI [d.no, d.cur, d.mult, d.add, d.set, d.price]) := fun m hm => HRG.out m (by simp only [List.mem_cons, List.not_mem_nil, or_false] at hm ⊢; rcases hm with h | h | h | h | h | h <;> simp [h])
   have HBK0 : Hid (BK W.heap.size W2 (.slice aw mw cw) (l ++ encG InT.bytes (L.take k)) (.slice aw mw cw) W2) := BK.start (OwnB.below HBK.out.1 HAL2.out)
   have HBW : Hid (W.heap.size ≤ W2.heap.size) := by have := HSW2.out; have := HSB.out; show _ ≤ _; omega
   have HNF : Hid ((Value.slice aw mw cw).ownBlock ≠ some wr.heap.size) := fun e => by have := HLT.out _ e; omega
   obtain ⟨gx, hgx⟩ : ∃ b, b = wr.heap.size := ⟨_, rfl⟩
   have HGX := Lh hgx
   have HBF : Hid (HT W2 gx 88 [d.no, d.cur, d.mult, d.add, d.set, d.price, d.h0, d.h1, d.h2, d.h3, d.h4, d.h5]) := by show HT _ _ _ _; rw [hgx]; exact HBF.out
   have HNF : Hid ((Value.slice aw mw cw).ownBlock ≠ some gx) := by show _ ≠ _; rw [hgx]; exact HNF.out
   have HW2 := Lh hW2
   clear hW2 hgx
   go_upto_region 13 with (first
    | (refine wpList_load_mid rfl 88 (.tmp 88) rfl bD (oD + k * 12) rfl [d.no, d.cur, d.mult, d.add, d.set, d.price, d.h0, d.h1, d.h2, d.h3, d.h4, d.h5] _ HRAN.out Tryz.underlying88 rfl HSZ.out ?_)
    | (refine wpList_store_row rfl 88 (.tmp 7) (.tmp 89) rfl wr.heap.size #[d.no, d.cur, d.mult, d.add, d.set, d.price, d.h0, d.h1, d.h2, d.h3, d.h4, d.h5] rfl rfl 88 #[(0:Int), (0:Int), (0:Int), (0:Int), (0:Int), (0:Int), (0:Int), (0:Int), (0:Int), (0:Int), (0:Int), (0:Int)] HNEW.out HSZ.out rfl HONE.out ?_)
    | fail)
   rw [← HW2.out, ← HGX.out]
   refine wp_region_uni (S0 := fun x => Kept (fun k => (Value.slice aw mw cw).ownBlock = some k) W2 x) (S := BL W2) 19 (by kernel_rfl) (Below.refl _ _).drew ?_
   refine uP 2 [(0, some 90, .slice aw mw cw), (1, some 91, .pointer (some ⟨gx, 0, none⟩))] (BLK.cls (Kept.refl _ _)) ?_
   refine uL 2 (some 92) (.int .i64 d.no) (BLK.cls (Kept.refl _ _)) (p := ⟨gx, 0, none⟩) (fun w hSw => (HBF.out.keptH hSw HNF.out).cell (j := 0) rfl) ?_
   refine uP 1 [(3, some 93, .pointer (some ⟨gx, 1, none⟩))] (BLK.cls (Kept.refl _ _)) ?_
   simp only [zq]
   refine uL 4 (some 94) (.int .i64 d.cur) (BLK.cls (Kept.refl _ _)) (p := ⟨gx, 1, none⟩) (fun w hSw => (HBF.out.keptH hSw HNF.out).cell (j := 1) rfl) ?_
   refine uP 1 [(5, some 95, .pointer (some ⟨gx, 2, none⟩))] (BLK.cls (Kept.refl _ _)) ?_
   refine uL 6 (some 96) (.int .i64 d.mult) (BLK.cls (Kept.refl _ _)) (p := ⟨gx, 2, none⟩) (fun w hSw => (HBF.out.keptH hSw HNF.out).cell (j := 2) rfl) ?_
   simp only [zq]
   refine uP 1 [(7, some 97, .pointer (some ⟨gx, 3, none⟩))] (BLK.cls (Kept.refl _ _)) ?_
   refine uL 8 (some 98) (.int .i64 d.add) (BLK.cls (Kept.refl _ _)) (p := ⟨gx, 3, none⟩) (fun w hSw => (HBF.out.keptH hSw HNF.out).cell (j := 3) rfl) ?_
   refine uP 1 [(9, some 99, .pointer (some ⟨gx, 4, none⟩))] (BLK.cls (Kept.refl _ _)) ?_
   simp only [zq]
   refine uL 10 (some 100) (.int .i64 d.set) (BLK.cls (Kept.refl _ _)) (p := ⟨gx, 4, none⟩) (fun w hSw => (HBF.out.keptH hSw HNF.out).cell (j := 4) rfl) ?_
   refine uP 1 [(11, some 101, .pointer (some ⟨gx, 5, none⟩))] (BLK.cls (Kept.refl _ _)) ?_
   refine uL 12 (some 102) (.int .i64 d.price) (BLK.cls (Kept.refl _ _)) (p := ⟨gx, 5, none⟩) (fun w hSw => (HBF.out.keptH hSw HNF.out).cell (j := 5) rfl) ?_
   simp only [zq]
   refine uP 1 [(15, some 105, .pointer (some ⟨gx, 6, none⟩))] (BLK.cls (Kept.refl _ _)) ?_
   simp only [zq]
   refine uO 16 (some 106) (.agg #[d.h0, d.h1, d.h2, d.h3, d.h4, d.h5]) (BLK.cls (Kept.refl _ _)) (fun _ ho => by cases ho; exact .inl ⟨rfl, fun w hSw => eff_load_midW 57 (.tmp 105) rfl gx 6 rfl [d.h0, d.h1, d.h2, d.h3, d.h4, d.h5] _ (HT.mid (A := [d.no, d.cur, d.mult, d.add, d.set, d.price]) (cs := [d.h0, d.h1, d.h2, d.h3, d.h4, d.h5]) (HBF.out.keptH hSw HNF.out)) Tryz.underlying57 rfl (by rw [sixSize]; rfl)⟩) ?_
   simp only [zq]
   refine uS 13 rfl (fun wA13 hA13 K hK => ?_)
   go_simp
   have hkA : Kept (fun k => (Value.slice aw mw cw).ownBlock = some k) W2 (wA13.alloc (.cells #[d.no, d.cur, d.mult, d.add, d.set, d.price] 3)) := ((Kept.of_below hA13).weaken (fun _ h => h.elim)).alloc _
   refine hK.out _ _ (BL (wA13.alloc (.cells #[d.no, d.cur, d.mult, d.add, d.set, d.price] 3))) (BLK.cls hkA) (Below.refl _ _) ?_
   clear hK K
   try simp only [zq]
   refine uS 14 rfl (fun wA14 hA14 K hK => ?_)
   go_simp
   have hbl : Below W2.heap.size W2 wA14 := (Below.alloc hA13 hA13.size (.cells #[d.no, d.cur, d.mult, d.add, d.set, d.price] 3)).trans (hA14.mono (by simp; exact Nat.le_succ_of_le hA13.size))
   have his : Is (wA13.alloc (.cells #[d.no, d.cur, d.mult, d.add, d.set, d.price] 3)) (.slice (some ⟨wA13.heap.size, 0, none⟩) 6 6) [d.no, d.cur, d.mult, d.add, d.set, d.price] := Is.block (l := [d.no, d.cur, d.mult, d.add, d.set, d.price]) (heap_new rfl) (Nat.le_refl _) (by simp [maxLen])
   refine (BK.num HBK0.out hbl (his.mono hA14) HRG.out (by simp) HLL.out HBW.out).mono ?_
   rintro e wn ⟨a3, n3, c3, rfl, hbk⟩
   refine hK.out _ _ (BK W.heap.size W2 (.slice aw mw cw) ((l ++ encG InT.bytes (L.take k)) ++ encIs [d.no, d.cur, d.mult, d.add, d.set, d.price]) (.slice a3 n3 c3)) BK.cls hbk ?_
   clear hbl his hbk
   clear hK K
   try simp only [zq]
   refine uS 17 rfl (fun wA17 hA17 K hK => ?_)
   go_simp
   have hl6 := wsl6 (d := d) (k := k) (fun x hx => HRD.out x hx) (by have := HNN.out; omega) hkL HC.out HLN.out
   refine (BK.shifts hA17 (Below.refl _ _) HRS.out hl6 HBW.out).mono ?_
   rintro e wm ⟨a4, n4, c4, rfl, hbk⟩
   refine hK.out _ _ (BK W.heap.size W2 (.slice aw mw cw) ((l ++ encG InT.bytes (L.take k)) ++ encIs [d.no, d.cur, d.mult, d.add, d.set, d.price] ++ encIs [d.h0, d.h1, d.h2, d.h3, d.h4, d.h5]) (.slice a4 n4 c4)) BK.cls hbk ?_
   clear hbk hl6
   clear hK K
   try simp only [zq]
   refine uP 1 [(18, some 4, .slice a4 n4 c4)] BK.cls ?_
   simp only [zq]
   refine wpAnyU_done (by kernel_rfl) (fun w1 hb1 => ?_) _
   have HBN : Hid (BK W.heap.size W (.slice none 0 0) (l ++ encG InT.bytes (L.take (k + 1))) (.slice a4 n4 c4) w1) := by
    have h := BK.trans HBK.out HAL2.out hb1
    have e : InT.bytes d = encIs [d.no, d.cur, d.mult, d.add, d.set, d.price] ++ encIs [d.h0, d.h1, d.h2, d.h3, d.h4, d.h5] := by rw [← encIs_app]; rfl
    rw [encG_snoc _ hkL, ← HC.out, e]
    simp only [List.append_assoc] at h ⊢
    exact h
   clear hb1
   go_wp2_with fail
   first
    | exact ⟨⟨k + 1, a4, n4, c4, by omega, by push_cast; rfl, rfl, HBN.out⟩, by simp [intOf]; omega⟩
    | ((repeat apply Exists.intro); exact ⟨⟨k + 1, a4, n4, c4, by omega, by push_cast; rfl, rfl, HBN.out⟩, rfl⟩)
  ·
   obtain rfl : n2 = k := by omega
   rw [List.take_of_length_le (by rw [← HNN.out.1]; exact Nat.le_refl _)] at hbk
   have HF : Hid (WsP W (l ++ encG InT.bytes L) aw mw cw wr) := hbk
   clear hbk HBK hbox
   go_wp2_with fail
   exact HF.out
theorem ws_trd {w1 W : World} {g1 : Nat} {C : List Value} {a4 : Option Addr} {n4 c4 : Nat} {l : List UInt8} {a0 : Option Addr} {n0 c0 : Nat} {K : Act → World → Prop} {R : Ending → World → Prop} (HBOX : Hid (HT W g1 41 C)) (HNE : Hid ((Value.slice none 0 0).ownBlock ≠ some g1)) (HFC : Hid (C[7]? = some (.slice a4 n4 c4))) {L : List TrT} (HROWS : Hid (∀ x, Kept (fun k => (Value.slice none 0 0).ownBlock = some k) W x → Rs TrT.vs 7 x (.slice a4 n4 c4) L)) (HNN : Hid (n4 = L.length ∧ n4 ≤ 1024)) (HRD : Hid (∀ x ∈ L, okI x.ints)) (HLN : Hid (l.length ≤ 5000000)) (HBK1 : Hid (BK W.heap.size W (.slice none 0 0) l (.slice a0 n0 c0) w1))
  (hQ : ∀ (X9 Xa X4k X4l X4m X4n X4o X4p X4q X4r X4s X4t X4u X4v X4w X4x X4y X4z X50 X51 X52 X53 X54 X55 X56 X57 X58 X59 X5a X5b X5c X5d X5e X5f X5g : Value) (a : Option Addr) (n c : Nat) (wx : World), WsP W (l ++ encG TrT.bytes L) a n c wx → K { tmps := #[V0, .pointer (some ⟨g1, 0, none⟩), V2, V3, .slice a n c, V5, V6, V7, V8, X9, Xa, Vb, Vc, Vd, Ve, Vf, Vg, Vh, Vi, Vj, Vk, Vl, Vm, Vn, Vo, Vp, Vq, Vr, Vs, Vt, Vu, Vv, Vw, Vx, Vy, Vz, V10, V11, V12, V13, V14, V15, V16, V17, V18, V19, V1a, V1b, V1c, V1d, V1e, V1f, V1g, V1h, V1i, V1j, V1k, V1l, V1m, V1n, V1o, V1p, V1q, V1r, V1s, V1t, V1u, V1v, V1w, V1x, V1y, V1z, V20, V21, V22, V23, V24, V25, V26, V27, V28, V29, V2a, V2b, V2c, V2d, V2e, V2f, V2g, V2h, V2i, V2j, V2k, V2l, V2m, V2n, V2o, V2p, V2q, V2r, V2s, V2t, V2u, V2v, V2w, V2x, V2y, V2z, V30, V31, V32, V33, V34, V35, V36, V37, V38, V39, V3a, V3b, V3c, V3d, V3e, V3f, V3g, V3h, V3i, V3j, V3k, V3l, V3m, V3n, V3o, V3p, V3q, V3r, V3s, V3t, V3u, V3v, V3w, V3x, V3y, V3z, V40, V41, V42, V43, V44, V45, V46, V47, V48, V49, V4a, V4b, V4c, V4d, V4e, V4f, V4g, V4h, V4i, V4j, X4k, X4l, X4m, X4n, X4o, X4p, X4q, X4r, X4s, X4t, X4u, X4v, X4w, X4x, X4y, X4z, X50, X51, X52, X53, X54, X55, X56, X57, X58, X59, X5a, X5b, X5c, X5d, X5e, X5f, X5g, V5h, V5i, V5j, V5k, V5l, V5m, V5n, V5o, V5p, V5q, V5r, V5s, V5t, V5u, V5v, V5w, V5x, V5y, V5z, V60, V61, V62, V63, V64, V65, V66, V67, V68, V69, V6a, V6b, V6c, V6d, V6e, V6f, V6g, V6h, V6i, V6j, V6k, V6l, V6m, V6n, V6o, V6p, V6q, V6r, V6s, V6t, V6u, V6v, V6w, V6x, V6y, V6z, V70, V71, V72, V73, V74, V75, V76, V77, V78, V79, V7a, V7b, V7c, V7d, V7e, V7f, V7g, V7h, V7i, V7j, V7k, V7l, V7m, V7n, V7o, V7p, V7q, V7r, V7s, V7t, V7u, V7v, V7w, V7x, V7y, V7z, V80, V81, V82, V83, V84, V85, V86, V87, V88, V89, V8a, V8b, V8c, V8d, V8e, V8f, V8g, V8h, V8i, V8j, V8k, V8l, V8m, V8n, V8o, V8p, V8q, V8r, V8s, V8t, V8u, V8v, V8w, V8x, V8y, V8z, V90, V91, V92, V93, V94, V95, V96, V97, V98, V99, V9a, V9b, V9c, V9d, V9e, V9f, V9g, V9h, V9i, V9j, V9k, V9l, V9m, V9n, V9o, V9p, V9q, V9r, V9s, V9t, V9u, V9v, V9w, V9x, V9y, V9z, Va0, Va1, Va2, Va3, Va4, Va5, Va6, Va7, Va8, Va9, Vaa, Vab, Vac, Vad, Vae, Vaf, Vag, Vah, Vai, Vaj, Vak, Val, Vam, Van, Vao, Vap, Vaq, Var, Vas, Vat, Vau, Vav, Vaw, Vax, Vay, Vaz, Vb0, Vb1, Vb2, Vb3, Vb4, Vb5, Vb6, Vb7, Vb8, Vb9, Vba, Vbb, Vbc, Vbd, Vbe, Vbf, Vbg, Vbh, Vbi, Vbj, Vbk, Vbl, Vbm, Vbn, Vbo, Vbp, Vbq, Vbr, Vbs, Vbt, Vbu, Vbv, Vbw, Vbx, Vby, Vbz], defers := [] } wx) :
  Code.wp Tryz.prog (codeAt [true, true, true, true, true, true, true, true, true, false, true] Tryz.f8) (Exit.then K (bodyPost Tryz.prog Tryz.f8 R)) { tmps := #[V0, .pointer (some ⟨g1, 0, none⟩), V2, V3, .slice a0 n0 c0, V5, V6, V7, V8, .int .i64 0, Va, Vb, Vc, Vd, Ve, Vf, Vg, Vh, Vi, Vj, Vk, Vl, Vm, Vn, Vo, Vp, Vq, Vr, Vs, Vt, Vu, Vv, Vw, Vx, Vy, Vz, V10, V11, V12, V13, V14, V15, V16, V17, V18, V19, V1a, V1b, V1c, V1d, V1e, V1f, V1g, V1h, V1i, V1j, V1k, V1l, V1m, V1n, V1o, V1p, V1q, V1r, V1s, V1t, V1u, V1v, V1w, V1x, V1y, V1z, V20, V21, V22, V23, V24, V25, V26, V27, V28, V29, V2a, V2b, V2c, V2d, V2e, V2f, V2g, V2h, V2i, V2j, V2k, V2l, V2m, V2n, V2o, V2p, V2q, V2r, V2s, V2t, V2u, V2v, V2w, V2x, V2y, V2z, V30, V31, V32, V33, V34, V35, V36, V37, V38, V39, V3a, V3b, V3c, V3d, V3e, V3f, V3g, V3h, V3i, V3j, V3k, V3l, V3m, V3n, V3o, V3p, V3q, V3r, V3s, V3t, V3u, V3v, V3w, V3x, V3y, V3z, V40, V41, V42, V43, V44, V45, V46, V47, V48, V49, V4a, V4b, V4c, V4d, V4e, V4f, V4g, V4h, V4i, V4j, V4k, V4l, V4m, V4n, V4o, V4p, V4q, V4r, V4s, V4t, V4u, V4v, V4w, V4x, V4y, V4z, V50, V51, V52, V53, V54, V55, V56, V57, V58, V59, V5a, V5b, V5c, V5d, V5e, V5f, V5g, V5h, V5i, V5j, V5k, V5l, V5m, V5n, V5o, V5p, V5q, V5r, V5s, V5t, V5u, V5v, V5w, V5x, V5y, V5z, V60, V61, V62, V63, V64, V65, V66, V67, V68, V69, V6a, V6b, V6c, V6d, V6e, V6f, V6g, V6h, V6i, V6j, V6k, V6l, V6m, V6n, V6o, V6p, V6q, V6r, V6s, V6t, V6u, V6v, V6w, V6x, V6y, V6z, V70, V71, V72, V73, V74, V75, V76, V77, V78, V79, V7a, V7b, V7c, V7d, V7e, V7f, V7g, V7h, V7i, V7j, V7k, V7l, V7m, V7n, V7o, V7p, V7q, V7r, V7s, V7t, V7u, V7v, V7w, V7x, V7y, V7z, V80, V81, V82, V83, V84, V85, V86, V87, V88, V89, V8a, V8b, V8c, V8d, V8e, V8f, V8g, V8h, V8i, V8j, V8k, V8l, V8m, V8n, V8o, V8p, V8q, V8r, V8s, V8t, V8u, V8v, V8w, V8x, V8y, V8z, V90, V91, V92, V93, V94, V95, V96, V97, V98, V99, V9a, V9b, V9c, V9d, V9e, V9f, V9g, V9h, V9i, V9j, V9k, V9l, V9m, V9n, V9o, V9p, V9q, V9r, V9s, V9t, V9u, V9v, V9w, V9x, V9y, V9z, Va0, Va1, Va2, Va3, Va4, Va5, Va6, Va7, Va8, Va9, Vaa, Vab, Vac, Vad, Vae, Vaf, Vag, Vah, Vai, Vaj, Vak, Val, Vam, Van, Vao, Vap, Vaq, Var, Vas, Vat, Vau, Vav, Vaw, Vax, Vay, Vaz, Vb0, Vb1, Vb2, Vb3, Vb4, Vb5, Vb6, Vb7, Vb8, Vb9, Vba, Vbb, Vbc, Vbd, Vbe, Vbf, Vbg, Vbh, Vbi, Vbj, Vbk, Vbl, Vbm, Vbn, Vbo, Vbp, Vbq, Vbr, Vbs, Vbt, Vbu, Vbv, Vbw, Vbx, Vby, Vbz], defers := [] } w1 := by
 refine wp_at (c := _) rfl (.r (.r (.r (.r (.r (.r (.r (.r (.r (.l (.r (.nil)))))))))))) ?_
 have HBASE : Hid (W.heap.size ≤ W.heap.size) := Nat.le_refl _
 go_wp2_with fail
 go_loopw [4, 9] (fun v4 v5 wr => ∃ (k : Nat) (aw : Option Addr) (mw cw : Nat), k ≤ n4 ∧ v5 = .int .i64 k ∧ v4 = .slice aw mw cw ∧ BK W.heap.size W (.slice none 0 0) (l ++ encG TrT.bytes (L.take k)) (.slice aw mw cw) wr) (fun _ i _ => n4 - (intOf i).toNat)
 case atStart => exact ⟨0, _, _, _, Nat.zero_le _, rfl, rfl, by simpa [encG] using HBK1.out⟩
 case round =>
  obtain ⟨k, aw, mw, cw, hk, rfl, rfl, hbk⟩ := hrel
  have HBK := Lh hbk
  have hbox := hbk.box HBOX.out HNE.out
  have H3 := hbox.cell (j := 7) HFC.out
  have hup : (n4 : Int) ≤ 1024 := by have := HNN.out.2; omega
  by_cases hlt : k < n4
  ·
   have hkL : k < L.length := by rw [← HNN.out.1]; exact hlt
   have hrows : Rs TrT.vs 7 wr (.slice a4 L.length c4) L := by rw [← HNN.out.1]; exact HROWS.out wr hbk.2.1
   obtain ⟨bD, oD, rfl, hbw, hat⟩ := hrows.at (by omega) (by decide)
   obtain ⟨d, hc⟩ : ∃ d, d = L[k] := ⟨_, rfl⟩
   have HC := Lh hc
   have HKW : Hid (Kept (fun k => (Value.slice none 0 0).ownBlock = some k) W wr) := hbk.2.1
   have HLL : Hid ((l ++ encG TrT.bytes (L.take k)).length ≤ 1000000000) := wsl _ (fun x hx => TrT.blen x (HRD.out x hx)) (by have := HNN.out; omega) (Nat.le_trans HLN.out (by decide))
   have hk0 : (0 : Int) ≤ k := by omega
   have hk1 : (k : Int) < n4 := by omega
   have HRAN : Hid (wr.rangeAt bD (oD + k * 7) [d.no, d.buyer, d.seller, d.inst, d.qty, d.price, .bool d.off]) := by intro i u hu; rw [hc] at hu; exact hat k hkL i u hu
   have HRG : Hid (okI [d.no, d.buyer, d.seller, d.inst, d.qty, d.price]) := by rw [hc]; exact HRD.out _ (List.getElem_mem hkL)
   have HNEW : Hid ((wr.alloc (.cells #[(0:Int), (0:Int), (0:Int), (0:Int), (0:Int), (0:Int), .bool false] 93)).heap[wr.heap.size]? = some (.cells #[(0:Int), (0:Int), (0:Int), (0:Int), (0:Int), (0:Int), .bool false] 93 (0, 0))) := heap_alloc_new _ _
   have HNEW2 : Hid (((wr.alloc (.cells #[(0:Int), (0:Int), (0:Int), (0:Int), (0:Int), (0:Int), .bool false] 93)).setRow wr.heap.size #[d.no, d.buyer, d.seller, d.inst, d.qty, d.price, .bool d.off]).heap[wr.heap.size]? = some (.cells #[d.no, d.buyer, d.seller, d.inst, d.qty, d.price, .bool d.off] 93 (0, 0))) := setRow_heap _ _ _ _ _ _ (heap_alloc_new _ _)
   have HSZ : Hid ((Tryz.prog.info? 93).map (·.size) = some (#[d.no, d.buyer, d.seller, d.inst, d.qty, d.price, .bool d.off] : Array Value).size) := by show _ = _; rw [trd_sz]; rfl
   have HONE : Hid ((#[d.no, d.buyer, d.seller, d.inst, d.qty, d.price, .bool d.off] : Array Value).all (·.oneCell') = true) := by show _ = true; simp [Value.oneCell']
   have HAL : Hid (Below wr.heap.size wr ((wr.alloc (.cells #[(0:Int), (0:Int), (0:Int), (0:Int), (0:Int), (0:Int), .bool false] 93)).setRow wr.heap.size #[d.no, d.buyer, d.seller, d.inst, d.qty, d.price, .bool d.off])) := (Bn).trans (setRow_below (Nat.le_refl _) _)
   have HSW : Hid (((wr.alloc (.cells #[(0:Int), (0:Int), (0:Int), (0:Int), (0:Int), (0:Int), .bool false] 93)).setRow wr.heap.size #[d.no, d.buyer, d.seller, d.inst, d.qty, d.price, .bool d.off]).heap.size = wr.heap.size + 1) := by show _ = _; simp [World.setRow]
   have HLT : Hid (∀ q, (Value.slice aw mw cw).ownBlock = some q → q < wr.heap.size) := OwnB.lt hbk.1
   have HSB : Hid (W.heap.size ≤ wr.heap.size) := hbk.2.1.size
   clear hrows hat hc hbk hbox
   obtain ⟨W2, hW2⟩ : ∃ x, x = ((wr.alloc (.cells #[(0:Int), (0:Int), (0:Int), (0:Int), (0:Int), (0:Int), .bool false] 93)).setRow wr.heap.size #[d.no, d.buyer, d.seller, d.inst, d.qty, d.price, .bool d.off]) := ⟨_, rfl⟩
   have HBF : Hid (HT W2 wr.heap.size 93 [d.no, d.buyer, d.seller, d.inst, d.qty, d.price, .bool d.off]) := by show HT _ _ _ _; rw [hW2]; exact HNEW2.out
   have HAL2 : Hid (Below wr.heap.size wr W2) := by show Below _ _ _; rw [hW2]; exact HAL.out
   have HSW2 : Hid (W2.heap.size = wr.heap.size + 1) := by show _ = _; rw [hW2]; exact HSW.out
   have HRS := HRG
   have HBK0 : Hid (BK W.heap.size W2 (.slice aw mw cw) (l ++ encG TrT.bytes (L.take k)) (.slice aw mw cw) W2) := BK.start (OwnB.below HBK.out.1 HAL2.out)
   have HBW : Hid (W.heap.size ≤ W2.heap.size) := by have := HSW2.out; have := HSB.out; show _ ≤ _; omega
   have HNF : Hid ((Value.slice aw mw cw).ownBlock ≠ some wr.heap.size) := fun e => by have := HLT.out _ e; omega
   obtain ⟨gx, hgx⟩ : ∃ b, b = wr.heap.size := ⟨_, rfl⟩
   have HGX := Lh hgx
   have HBF : Hid (HT W2 gx 93 [d.no, d.buyer, d.seller, d.inst, d.qty, d.price, .bool d.off]) := by show HT _ _ _ _; rw [hgx]; exact HBF.out
   have HNF : Hid ((Value.slice aw mw cw).ownBlock ≠ some gx) := by show _ ≠ _; rw [hgx]; exact HNF.out
   have HW2 := Lh hW2
   clear hW2 hgx
   go_upto_region 24 with (first
    | (refine wpList_load_mid rfl 93 (.tmp 176) rfl bD (oD + k * 7) rfl [d.no, d.buyer, d.seller, d.inst, d.qty, d.price, .bool d.off] _ HRAN.out Tryz.underlying93 rfl HSZ.out ?_)
    | (refine wpList_store_row rfl 93 (.tmp 10) (.tmp 177) rfl wr.heap.size #[d.no, d.buyer, d.seller, d.inst, d.qty, d.price, .bool d.off] rfl rfl 93 #[(0:Int), (0:Int), (0:Int), (0:Int), (0:Int), (0:Int), .bool false] HNEW.out HSZ.out rfl HONE.out ?_)
    | fail)
   rw [← HW2.out, ← HGX.out]
   refine wp_region_uni (S0 := fun x => Kept (fun k => (Value.slice aw mw cw).ownBlock = some k) W2 x) (S := BL W2) 20 (by kernel_rfl) (Below.refl _ _).drew ?_
   refine uP 2 [(0, some 178, .slice aw mw cw), (1, some 179, .pointer (some ⟨gx, 0, none⟩))] (BLK.cls (Kept.refl _ _)) ?_
   refine uL 2 (some 180) (.int .i64 d.no) (BLK.cls (Kept.refl _ _)) (p := ⟨gx, 0, none⟩) (fun w hSw => (HBF.out.keptH hSw HNF.out).cell (j := 0) rfl) ?_
   refine uP 1 [(3, some 181, .pointer (some ⟨gx, 1, none⟩))] (BLK.cls (Kept.refl _ _)) ?_
   simp only [zq]
   refine uL 4 (some 182) (.int .i64 d.buyer) (BLK.cls (Kept.refl _ _)) (p := ⟨gx, 1, none⟩) (fun w hSw => (HBF.out.keptH hSw HNF.out).cell (j := 1) rfl) ?_
   refine uP 1 [(5, some 183, .pointer (some ⟨gx, 2, none⟩))] (BLK.cls (Kept.refl _ _)) ?_
   refine uL 6 (some 184) (.int .i64 d.seller) (BLK.cls (Kept.refl _ _)) (p := ⟨gx, 2, none⟩) (fun w hSw => (HBF.out.keptH hSw HNF.out).cell (j := 2) rfl) ?_
   simp only [zq]
   refine uP 1 [(7, some 185, .pointer (some ⟨gx, 3, none⟩))] (BLK.cls (Kept.refl _ _)) ?_
   refine uL 8 (some 186) (.int .i64 d.inst) (BLK.cls (Kept.refl _ _)) (p := ⟨gx, 3, none⟩) (fun w hSw => (HBF.out.keptH hSw HNF.out).cell (j := 3) rfl) ?_
   refine uP 1 [(9, some 187, .pointer (some ⟨gx, 4, none⟩))] (BLK.cls (Kept.refl _ _)) ?_
   simp only [zq]
   refine uL 10 (some 188) (.int .i64 d.qty) (BLK.cls (Kept.refl _ _)) (p := ⟨gx, 4, none⟩) (fun w hSw => (HBF.out.keptH hSw HNF.out).cell (j := 4) rfl) ?_
   refine uP 1 [(11, some 189, .pointer (some ⟨gx, 5, none⟩))] (BLK.cls (Kept.refl _ _)) ?_
   refine uL 12 (some 190) (.int .i64 d.price) (BLK.cls (Kept.refl _ _)) (p := ⟨gx, 5, none⟩) (fun w hSw => (HBF.out.keptH hSw HNF.out).cell (j := 5) rfl) ?_
   simp only [zq]
   refine uP 1 [(15, some 193, .pointer (some ⟨gx, 6, none⟩))] (BLK.cls (Kept.refl _ _)) ?_
   refine uL 16 (some 194) (.bool d.off) (BLK.cls (Kept.refl _ _)) (p := ⟨gx, 6, none⟩) (fun w hSw => (HBF.out.keptH hSw HNF.out).cell (j := 6) rfl) ?_
   simp only [zq]
   refine uS 13 rfl (fun wA13 hA13 K hK => ?_)
   go_simp
   have hkA : Kept (fun k => (Value.slice aw mw cw).ownBlock = some k) W2 (wA13.alloc (.cells #[d.no, d.buyer, d.seller, d.inst, d.qty, d.price] 3)) := ((Kept.of_below hA13).weaken (fun _ h => h.elim)).alloc _
   refine hK.out _ _ (BL (wA13.alloc (.cells #[d.no, d.buyer, d.seller, d.inst, d.qty, d.price] 3))) (BLK.cls hkA) (Below.refl _ _) ?_
   clear hK K
   try simp only [zq]
   refine uS 14 rfl (fun wA14 hA14 K hK => ?_)
   go_simp
   have hbl : Below W2.heap.size W2 wA14 := (Below.alloc hA13 hA13.size (.cells #[d.no, d.buyer, d.seller, d.inst, d.qty, d.price] 3)).trans (hA14.mono (by simp; exact Nat.le_succ_of_le hA13.size))
   have his : Is (wA13.alloc (.cells #[d.no, d.buyer, d.seller, d.inst, d.qty, d.price] 3)) (.slice (some ⟨wA13.heap.size, 0, none⟩) 6 6) [d.no, d.buyer, d.seller, d.inst, d.qty, d.price] := Is.block (l := [d.no, d.buyer, d.seller, d.inst, d.qty, d.price]) (heap_new rfl) (Nat.le_refl _) (by simp [maxLen])
   refine (BK.num HBK0.out hbl (his.mono hA14) HRG.out (by simp) HLL.out HBW.out).mono ?_
   rintro e wn ⟨a3, n3, c3, rfl, hbk⟩
   refine hK.out _ _ (BK W.heap.size W2 (.slice aw mw cw) ((l ++ encG TrT.bytes (L.take k)) ++ encIs [d.no, d.buyer, d.seller, d.inst, d.qty, d.price]) (.slice a3 n3 c3)) BK.cls hbk ?_
   clear hbl his hbk
   clear hK K
   try simp only [zq]
   refine uS 17 rfl (fun wA17 hA17 K hK => ?_)
   go_simp
   refine (rMark_any wA17 d.off).mono ?_
   rintro e wm ⟨vm, rfl, hom, hbm⟩
   refine hK.out _ _ (fun x => BK W.heap.size W2 (.slice aw mw cw) ((l ++ encG TrT.bytes (L.take k)) ++ encIs [d.no, d.buyer, d.seller, d.inst, d.qty, d.price]) (.slice a3 n3 c3) x ∧ Bs x vm (markB d.off)) (Cls.and BK.cls (fun _ _ h hb => Bs.mono h hb)) ⟨hA17.below hbm, hom.bs⟩ ?_
   clear hom hbm
   clear hK K
   try simp only [zq]
   refine uS 18 rfl (fun wA18 hA18 K hK => ?_)
   have hlx := wslT (l := l) (L := L) (d := d) (k := k) (fun x hx => HRD.out x hx) (by have := HNN.out; omega) hkL HC.out (Nat.le_trans HLN.out (by decide))
   refine step_append_bytes_at (v := .slice a3 n3 c3) (vx := vm) rfl (.tmp 192) (.tmp 195) 42 rfl elem_byte rfl rfl hA18.1.1 hA18.2 hlx (Nat.le_trans HBW.out hA18.1.2.1.size) ?_
   intro a4 n4 c4 w7 Hn4 ho4 hg4 hat4
   have hb4 := BK.grow hA18.1 ho4 hg4 hat4.out
   clear ho4 hg4 hat4 Hn4 hlx
   refine hK.out _ _ (BK W.heap.size W2 (.slice aw mw cw) ((l ++ encG TrT.bytes (L.take k)) ++ encIs [d.no, d.buyer, d.seller, d.inst, d.qty, d.price] ++ markB d.off) (.slice a4 n4 c4)) BK.cls hb4 ?_
   clear hb4
   clear hK K
   try simp only [zq]
   refine uP 1 [(19, some 4, .slice a4 n4 c4)] BK.cls ?_
   simp only [zq]
   refine wpAnyU_done (by kernel_rfl) (fun w1 hb1 => ?_) _
   have HBN : Hid (BK W.heap.size W (.slice none 0 0) (l ++ encG TrT.bytes (L.take (k + 1))) (.slice a4 n4 c4) w1) := by
    have h := BK.trans HBK.out HAL2.out hb1
    have e : TrT.bytes d = encIs [d.no, d.buyer, d.seller, d.inst, d.qty, d.price] ++ markB d.off := rfl
    rw [encG_snoc _ hkL, ← HC.out, e]
    simp only [List.append_assoc] at h ⊢
    exact h
   clear hb1
   go_wp2_with fail
   first
    | exact ⟨⟨k + 1, a4, n4, c4, by omega, by push_cast; rfl, rfl, HBN.out⟩, by simp [intOf]; omega⟩
    | ((repeat apply Exists.intro); exact ⟨⟨k + 1, a4, n4, c4, by omega, by push_cast; rfl, rfl, HBN.out⟩, rfl⟩)
  ·
   obtain rfl : n4 = k := by omega
   rw [List.take_of_length_le (by rw [← HNN.out.1]; exact Nat.le_refl _)] at hbk
   have HF : Hid (WsP W (l ++ encG TrT.bytes L) aw mw cw wr) := hbk
   clear hbk HBK hbox
   go_wp2_with fail
   exact HF.out
end Cam
