import Derived.Test.YtgeclnjkkjmbaaaGreatWqSz
/- cambistref24: State: seats. -/
namespace Cam
open Go Go.RowKit Go.Proofs
set_option linter.unusedVariables false
set_option linter.unusedSimpArgs false
set_option maxRecDepth 100000
set_option maxHeartbeats 6400000
variable {V0 V1 V2 V3 V4 V5 V6 V7 V8 V9 Va Vb Vc Vd Ve Vf Vg Vh Vi Vj Vk Vl Vm Vn Vo Vp Vq Vr Vs Vt Vu Vv Vw Vx Vy Vz V10 V11 V12 V13 V14 V15 V16 V17 V18 V19 V1a V1b V1c V1d V1e V1f V1g V1h V1i V1j V1k V1l V1m V1n V1o V1p V1q V1r V1s V1t V1u V1v V1w V1x V1y V1z V20 V21 V22 V23 V24 V25 V26 V27 V28 V29 V2a V2b V2c V2d V2e V2f V2g V2h V2i V2j V2k V2l V2m V2n V2o V2p V2q V2r V2s V2t V2u V2v V2w V2x V2y V2z V30 V31 V32 V33 V34 V35 V36 V37 V38 V39 V3a V3b V3c V3d V3e V3f V3g V3h V3i V3j V3k V3l V3m V3n V3o V3p V3q V3r V3s V3t V3u V3v V3w V3x V3y V3z V40 V41 V42 V43 V44 V45 V46 V47 V48 V49 V4a V4b V4c V4d V4e V4f V4g V4h V4i V4j V4k V4l V4m V4n V4o V4p V4q V4r V4s V4t V4u V4v V4w V4x V4y V4z V50 V51 V52 V53 V54 V55 V56 V57 V58 V59 V5a V5b V5c V5d V5e V5f V5g V5h V5i V5j V5k V5l V5m V5n V5o V5p V5q V5r V5s V5t V5u V5v V5w V5x V5y V5z V60 V61 V62 V63 V64 V65 V66 V67 V68 V69 V6a V6b V6c V6d V6e V6f V6g V6h V6i V6j V6k V6l V6m V6n V6o V6p V6q V6r V6s V6t V6u V6v V6w V6x V6y V6z V70 V71 V72 V73 V74 V75 V76 V77 V78 V79 V7a V7b V7c V7d V7e V7f V7g V7h V7i V7j V7k V7l V7m V7n V7o V7p V7q V7r V7s V7t V7u V7v V7w V7x V7y V7z V80 V81 V82 V83 V84 V85 V86 V87 V88 V89 V8a V8b V8c V8d V8e V8f V8g V8h V8i V8j V8k V8l V8m V8n V8o V8p V8q V8r V8s V8t V8u V8v V8w V8x V8y V8z V90 V91 V92 V93 V94 V95 V96 V97 V98 V99 V9a V9b V9c V9d V9e V9f V9g V9h V9i V9j V9k V9l V9m V9n V9o V9p V9q V9r V9s V9t V9u V9v V9w V9x V9y V9z Va0 Va1 Va2 Va3 Va4 Va5 Va6 Va7 Va8 Va9 Vaa Vab Vac Vad Vae Vaf Vag Vah Vai Vaj Vak Val Vam Van Vao Vap Vaq Var Vas Vat Vau Vav Vaw Vax Vay Vaz Vb0 Vb1 Vb2 Vb3 Vb4 Vb5 Vb6 Vb7 Vb8 Vb9 Vba Vbb Vbc Vbd Vbe Vbf Vbg Vbh Vbi Vbj Vbk Vbl Vbm Vbn Vbo Vbp Vbq Vbr Vbs Vbt Vbu Vbv Vbw Vbx Vby Vbz : Value}
theorem ws_sea {w1 W : World} {g1 : Nat} {C : List Value} {a10 : Option Addr} {n10 c10 : Nat} {l : List UInt8} {a0 : Option Addr} {n0 c0 : Nat} {K : Act → World → Prop} {R : Ending → World → Prop} (HBOX : Hid (HT W g1 41 C)) (HNE : Hid ((Value.slice none 0 0).ownBlock ≠ some g1)) (HFC : Hid (C[14]? = some (.slice a10 n10 c10))) {L : List SeT} {LV : List SV} (HROWS : Hid (∀ x, Kept (fun k => (Value.slice none 0 0).ownBlock = some k) W x → Rs SV.vs 7 x (.slice a10 n10 c10) LV ∧ ∀ i (h : i < LV.length) (h' : i < L.length), SVok x LV[i] L[i])) (HNN : Hid (n10 = L.length ∧ n10 ≤ 100 ∧ LV.length = L.length)) (HRD : Hid (∀ x ∈ L, x.ok)) (HRW : Hid (∀ x ∈ L, repW x.r.D x.r.F = false)) (HLN : Hid (l.length ≤ 5000000)) (HBK1 : Hid (BK W.heap.size W (.slice none 0 0) l (.slice a0 n0 c0) w1))
  (hQ : ∀ (Xi Xb3 Xb4 Xb5 Xb6 Xb7 Xb8 Xb9 Xba Xbb Xbc Xbd Xbe Xbf Xbg Xbh Xbi Xbj Xbk Xbl Xbm Xbn Xbo Xbp Xbq Xbr Xbs Xbt Xbu Xbv : Value) (a : Option Addr) (n c : Nat) (wx : World), WsP W (l ++ encG SeT.bytes L) a n c wx → K { tmps := #[V0, .pointer (some ⟨g1, 0, none⟩), V2, V3, .slice a n c, V5, V6, V7, V8, V9, Va, Vb, Vc, Vd, Ve, Vf, Vg, Vh, Xi, Vj, Vk, Vl, Vm, Vn, Vo, Vp, Vq, Vr, Vs, Vt, Vu, Vv, Vw, Vx, Vy, Vz, V10, V11, V12, V13, V14, V15, V16, V17, V18, V19, V1a, V1b, V1c, V1d, V1e, V1f, V1g, V1h, V1i, V1j, V1k, V1l, V1m, V1n, V1o, V1p, V1q, V1r, V1s, V1t, V1u, V1v, V1w, V1x, V1y, V1z, V20, V21, V22, V23, V24, V25, V26, V27, V28, V29, V2a, V2b, V2c, V2d, V2e, V2f, V2g, V2h, V2i, V2j, V2k, V2l, V2m, V2n, V2o, V2p, V2q, V2r, V2s, V2t, V2u, V2v, V2w, V2x, V2y, V2z, V30, V31, V32, V33, V34, V35, V36, V37, V38, V39, V3a, V3b, V3c, V3d, V3e, V3f, V3g, V3h, V3i, V3j, V3k, V3l, V3m, V3n, V3o, V3p, V3q, V3r, V3s, V3t, V3u, V3v, V3w, V3x, V3y, V3z, V40, V41, V42, V43, V44, V45, V46, V47, V48, V49, V4a, V4b, V4c, V4d, V4e, V4f, V4g, V4h, V4i, V4j, V4k, V4l, V4m, V4n, V4o, V4p, V4q, V4r, V4s, V4t, V4u, V4v, V4w, V4x, V4y, V4z, V50, V51, V52, V53, V54, V55, V56, V57, V58, V59, V5a, V5b, V5c, V5d, V5e, V5f, V5g, V5h, V5i, V5j, V5k, V5l, V5m, V5n, V5o, V5p, V5q, V5r, V5s, V5t, V5u, V5v, V5w, V5x, V5y, V5z, V60, V61, V62, V63, V64, V65, V66, V67, V68, V69, V6a, V6b, V6c, V6d, V6e, V6f, V6g, V6h, V6i, V6j, V6k, V6l, V6m, V6n, V6o, V6p, V6q, V6r, V6s, V6t, V6u, V6v, V6w, V6x, V6y, V6z, V70, V71, V72, V73, V74, V75, V76, V77, V78, V79, V7a, V7b, V7c, V7d, V7e, V7f, V7g, V7h, V7i, V7j, V7k, V7l, V7m, V7n, V7o, V7p, V7q, V7r, V7s, V7t, V7u, V7v, V7w, V7x, V7y, V7z, V80, V81, V82, V83, V84, V85, V86, V87, V88, V89, V8a, V8b, V8c, V8d, V8e, V8f, V8g, V8h, V8i, V8j, V8k, V8l, V8m, V8n, V8o, V8p, V8q, V8r, V8s, V8t, V8u, V8v, V8w, V8x, V8y, V8z, V90, V91, V92, V93, V94, V95, V96, V97, V98, V99, V9a, V9b, V9c, V9d, V9e, V9f, V9g, V9h, V9i, V9j, V9k, V9l, V9m, V9n, V9o, V9p, V9q, V9r, V9s, V9t, V9u, V9v, V9w, V9x, V9y, V9z, Va0, Va1, Va2, Va3, Va4, Va5, Va6, Va7, Va8, Va9, Vaa, Vab, Vac, Vad, Vae, Vaf, Vag, Vah, Vai, Vaj, Vak, Val, Vam, Van, Vao, Vap, Vaq, Var, Vas, Vat, Vau, Vav, Vaw, Vax, Vay, Vaz, Vb0, Vb1, Vb2, Xb3, Xb4, Xb5, Xb6, Xb7, Xb8, Xb9, Xba, Xbb, Xbc, Xbd, Xbe, Xbf, Xbg, Xbh, Xbi, Xbj, Xbk, Xbl, Xbm, Xbn, Xbo, Xbp, Xbq, Xbr, Xbs, Xbt, Xbu, Xbv, Vbw, Vbx, Vby, Vbz], defers := [] } wx) :
  Code.wp Tryz.prog (codeAt [true, true, true, true, true, true, true, true, true, true, true, true, true, true, true, true, true, true, true, true, true, false, true] Tryz.f8) (Exit.then K (bodyPost Tryz.prog Tryz.f8 R)) { tmps := #[V0, .pointer (some ⟨g1, 0, none⟩), V2, V3, .slice a0 n0 c0, V5, V6, V7, V8, V9, Va, Vb, Vc, Vd, Ve, Vf, Vg, Vh, (0:Int), Vj, Vk, Vl, Vm, Vn, Vo, Vp, Vq, Vr, Vs, Vt, Vu, Vv, Vw, Vx, Vy, Vz, V10, V11, V12, V13, V14, V15, V16, V17, V18, V19, V1a, V1b, V1c, V1d, V1e, V1f, V1g, V1h, V1i, V1j, V1k, V1l, V1m, V1n, V1o, V1p, V1q, V1r, V1s, V1t, V1u, V1v, V1w, V1x, V1y, V1z, V20, V21, V22, V23, V24, V25, V26, V27, V28, V29, V2a, V2b, V2c, V2d, V2e, V2f, V2g, V2h, V2i, V2j, V2k, V2l, V2m, V2n, V2o, V2p, V2q, V2r, V2s, V2t, V2u, V2v, V2w, V2x, V2y, V2z, V30, V31, V32, V33, V34, V35, V36, V37, V38, V39, V3a, V3b, V3c, V3d, V3e, V3f, V3g, V3h, V3i, V3j, V3k, V3l, V3m, V3n, V3o, V3p, V3q, V3r, V3s, V3t, V3u, V3v, V3w, V3x, V3y, V3z, V40, V41, V42, V43, V44, V45, V46, V47, V48, V49, V4a, V4b, V4c, V4d, V4e, V4f, V4g, V4h, V4i, V4j, V4k, V4l, V4m, V4n, V4o, V4p, V4q, V4r, V4s, V4t, V4u, V4v, V4w, V4x, V4y, V4z, V50, V51, V52, V53, V54, V55, V56, V57, V58, V59, V5a, V5b, V5c, V5d, V5e, V5f, V5g, V5h, V5i, V5j, V5k, V5l, V5m, V5n, V5o, V5p, V5q, V5r, V5s, V5t, V5u, V5v, V5w, V5x, V5y, V5z, V60, V61, V62, V63, V64, V65, V66, V67, V68, V69, V6a, V6b, V6c, V6d, V6e, V6f, V6g, V6h, V6i, V6j, V6k, V6l, V6m, V6n, V6o, V6p, V6q, V6r, V6s, V6t, V6u, V6v, V6w, V6x, V6y, V6z, V70, V71, V72, V73, V74, V75, V76, V77, V78, V79, V7a, V7b, V7c, V7d, V7e, V7f, V7g, V7h, V7i, V7j, V7k, V7l, V7m, V7n, V7o, V7p, V7q, V7r, V7s, V7t, V7u, V7v, V7w, V7x, V7y, V7z, V80, V81, V82, V83, V84, V85, V86, V87, V88, V89, V8a, V8b, V8c, V8d, V8e, V8f, V8g, V8h, V8i, V8j, V8k, V8l, V8m, V8n, V8o, V8p, V8q, V8r, V8s, V8t, V8u, V8v, V8w, V8x, V8y, V8z, V90, V91, V92, V93, V94, V95, V96, V97, V98, V99, V9a, V9b, V9c, V9d, V9e, V9f, V9g, V9h, V9i, V9j, V9k, V9l, V9m, V9n, V9o, V9p, V9q, V9r, V9s, V9t, V9u, V9v, V9w, V9x, V9y, V9z, Va0, Va1, Va2, Va3, Va4, Va5, Va6, Va7, Va8, Va9, Vaa, Vab, Vac, Vad, Vae, Vaf, Vag, Vah, Vai, Vaj, Vak, Val, Vam, Van, Vao, Vap, Vaq, Var, Vas, Vat, Vau, Vav, Vaw, Vax, Vay, Vaz, Vb0, Vb1, Vb2, Vb3, Vb4, Vb5, Vb6, Vb7, Vb8, Vb9, Vba, Vbb, Vbc, Vbd, Vbe, Vbf, Vbg, Vbh, Vbi, Vbj, Vbk, Vbl, Vbm, Vbn, Vbo, Vbp, Vbq, Vbr, Vbs, Vbt, Vbu, Vbv, Vbw, Vbx, Vby, Vbz], defers := [] } w1 := by
 refine wp_at (c := _) rfl (.r (.r (.r (.r (.r (.r (.r (.r (.r (.r (.r (.r (.r (.r (.r (.r (.r (.r (.r (.r (.r (.l (.r (.nil)))))))))))))))))))))))) ?_
 have HBASE : Hid (W.heap.size ≤ W.heap.size) := Nat.le_refl _
 go_wp2_with fail
 go_loopw [4, 18] (fun v4 v5 wr => ∃ (k : Nat) (aw : Option Addr) (mw cw : Nat), k ≤ n10 ∧ v5 = .int .i64 k ∧ v4 = .slice aw mw cw ∧ BK W.heap.size W (.slice none 0 0) (l ++ encG SeT.bytes (L.take k)) (.slice aw mw cw) wr) (fun _ i _ => n10 - (intOf i).toNat)
 case atStart => exact ⟨0, _, _, _, Nat.zero_le _, rfl, rfl, by simpa [encG] using HBK1.out⟩
 case round =>
  obtain ⟨k, aw, mw, cw, hk, rfl, rfl, hbk⟩ := hrel
  have HBK := Lh hbk
  have hbox := hbk.box HBOX.out HNE.out
  have H3 := hbox.cell (j := 14) HFC.out
  have hup : (n10 : Int) ≤ 1024 := by have := HNN.out; omega
  by_cases hlt : k < n10
  ·
   have hkL : k < L.length := by rw [← HNN.out.1]; exact hlt
   have hrows : Rs SV.vs 7 wr (.slice a10 LV.length c10) LV := by rw [HNN.out.2.2, ← HNN.out.1]; exact (HROWS.out wr hbk.2.1).1
   obtain ⟨bD, oD, rfl, hbw, hat⟩ := hrows.at (by have := HNN.out.2.2; omega) (by decide)
   obtain ⟨d, hc⟩ : ∃ d, d = L[k] := ⟨_, rfl⟩
   have HC := Lh hc
   have HKW : Hid (Kept (fun k => (Value.slice none 0 0).ownBlock = some k) W wr) := hbk.2.1
   have HLL : Hid ((l ++ encG SeT.bytes (L.take k)).length ≤ 1000000000) := wsl _ (fun x hx => SeT.blen x (HRD.out x hx)) (by have := HNN.out; omega) (Nat.le_trans HLN.out (by decide))
   have hk0 : (0 : Int) ≤ k := by omega
   have hk1 : (k : Int) < n10 := by omega
   obtain ⟨x, hx⟩ : ∃ x, x = LV[k]'(by rw [HNN.out.2.2]; exact hkL) := ⟨_, rfl⟩
   have hkV : k < LV.length := by rw [HNN.out.2.2]; exact hkL
   have HSV : Hid (∀ y, Kept (fun k => (Value.slice none 0 0).ownBlock = some k) W y → SVok y x d) := by intro y hy; rw [hx, hc]; exact (HROWS.out y hy).2 k hkV hkL
   have HAT : Hid (∀ y, Kept (fun k => (Value.slice none 0 0).ownBlock = some k) W y → y.cell? ⟨bD, oD + k * 7, none⟩ = some (.int .i64 d.client) ∧ y.cell? ⟨bD, oD + k * 7 + 1, none⟩ = some (.int .i64 d.seq)) := by
    intro y hy
    have hr := (HROWS.out y hy).1
    rw [HNN.out.1, ← HNN.out.2.2] at hr
    have hs := HSV.out y hy
    rw [← hs.1, ← hs.2.1, hx]
    exact ⟨hr.cells (by decide) hkV (j := 0) rfl, hr.cells (by decide) hkV (j := 1) rfl⟩
   have HRAN : Hid (∀ y, Kept (fun k => (Value.slice none 0 0).ownBlock = some k) W y → y.rangeAt bD (oD + k * 7 + 2) [x.c, x.n, x.a, .slice x.a1 x.n1 x.c1, .slice x.a2 x.n2 x.c2]) := by
    intro y hy j u hu
    have hr := (HROWS.out y hy).1
    rw [HNN.out.1, ← HNN.out.2.2] at hr
    have h7 := hr.cells (by decide) hkV (j := 2 + j) (u := u) (by
     rw [← hx]
     show ([.int .i64 x.client, .int .i64 x.seq] ++ [.int .i64 x.c, .int .i64 x.n, .int .i64 x.a, .slice x.a1 x.n1 x.c1, .slice x.a2 x.n2 x.c2])[2 + j]? = some u
     rw [List.getElem?_append_right (by simp)]
     simpa using hu)
    rw [← Nat.add_assoc] at h7
    exact h7
   have HDD : Hid (∀ y, Kept (fun k => (Value.slice none 0 0).ownBlock = some k) W y → Rs DT.vs 3 y (.slice x.a1 x.n1 x.c1) d.r.D ∧ Rs FT.vs 8 y (.slice x.a2 x.n2 x.c2) d.r.F) := fun y hy => ⟨(HSV.out y hy).2.2.2.2.2.1, (HSV.out y hy).2.2.2.2.2.2⟩
   have hok : d.ok := by rw [hc]; exact HRD.out _ (List.getElem_mem hkL)
   have hrw : repW d.r.D d.r.F = false := by rw [hc]; exact HRW.out _ (List.getElem_mem hkL)
   have hsv := HSV.out W (Kept.refl _ _)
   have HXE : Hid (x.c = d.r.c ∧ x.n = d.r.n ∧ x.a = d.r.a) := ⟨hsv.2.2.1, hsv.2.2.2.1, hsv.2.2.2.2.1⟩
   have HRG : Hid (okI [d.client, d.seq]) := hok.1
   have HRR : Hid (okI [x.c, x.n, x.a]) := by show okI _; rw [HXE.out.1, HXE.out.2.1, HXE.out.2.2]; exact hok.2.1
   have HRX : Hid ((∀ z ∈ d.r.D, okI z.ints) ∧ ∀ z ∈ d.r.F, okI z.ints) := hok.2.2
   have HRL : Hid (d.r.D.length ≤ 1200 ∧ d.r.F.length ≤ 1200) := by unfold repW at hrw; simp at hrw; show _ ∧ _; omega
   have HEQ : Hid (SeT.bytes d = encIs [d.client, d.seq] ++ encRepP x.c x.n x.a d.r.D d.r.F) := by show _ = _; rw [encRepP_eq _ _ _ _ _ hrw, HXE.out.1, HXE.out.2.1, HXE.out.2.2]; rfl
   have HLL2 : Hid (((l ++ encG SeT.bytes (L.take k)) ++ encIs [d.client, d.seq]).length ≤ 500000000) := by
    have h1 := encIs_length [d.client, d.seq] HRG.out
    have h2 := encG_length SeT.bytes 200100 L (fun x hx => SeT.blen x (HRD.out x hx))
    have h3 := encG_take_le SeT.bytes L k
    have := HNN.out
    have := HLN.out
    show _ ≤ _
    simp only [List.length_append]
    simp at h1
    omega
   have HBW := HBASE
   clear hrows hat hc hbk hbox hx hok hrw hsv
   go_upto_region 56 with fail
   refine wp_region_uni (S0 := fun x => Kept (fun k => (Value.slice none 0 0).ownBlock = some k) W x) (S := BL wr) 23 (by kernel_rfl) (Below.refl _ _).drew ?_
   refine uP 2 [(0, some 406, .slice aw mw cw), (1, some 407, .pointer (some ⟨g1, 14, none⟩))] (BLK.cls HKW.out) ?_
   refine uL 2 (some 408) (.slice (some ⟨bD, oD, none⟩) n10 c10) (BLK.cls HKW.out) (p := ⟨g1, 14, none⟩) (fun w hSw => (HBOX.out.keptH hSw HNE.out).cell (j := 14) HFC.out) ?_
   refine uP 1 [(3, some 409, .int .i64 (k : Int))] (BLK.cls HKW.out) ?_
   simp only [zq]
   refine uG 4 (some 410) (.pointer (some ⟨bD, oD + k * 7, none⟩)) (BLK.cls HKW.out) ?_
   refine uP 1 [(5, some 411, .pointer (some ⟨bD, oD + k * 7, none⟩))] (BLK.cls HKW.out) ?_
   refine uL 6 (some 412) (.int .i64 d.client) (BLK.cls HKW.out) (p := ⟨bD, oD + k * 7, none⟩) (fun w hSw => (HAT.out w hSw).1) ?_
   simp only [zq]
   refine uP 1 [(7, some 413, .pointer (some ⟨g1, 14, none⟩))] (BLK.cls HKW.out) ?_
   refine uL 8 (some 414) (.slice (some ⟨bD, oD, none⟩) n10 c10) (BLK.cls HKW.out) (p := ⟨g1, 14, none⟩) (fun w hSw => (HBOX.out.keptH hSw HNE.out).cell (j := 14) HFC.out) ?_
   refine uP 1 [(9, some 415, .int .i64 (k : Int))] (BLK.cls HKW.out) ?_
   simp only [zq]
   refine uG 10 (some 416) (.pointer (some ⟨bD, oD + k * 7, none⟩)) (BLK.cls HKW.out) ?_
   refine uP 1 [(11, some 417, .pointer (some ⟨bD, oD + k * 7 + 1, none⟩))] (BLK.cls HKW.out) ?_
   refine uL 12 (some 418) (.int .i64 d.seq) (BLK.cls HKW.out) (p := ⟨bD, oD + k * 7 + 1, none⟩) (fun w hSw => (HAT.out w hSw).2) ?_
   simp only [zq]
   refine uP 1 [(15, some 421, .pointer (some ⟨g1, 14, none⟩))] (BLK.cls HKW.out) ?_
   refine uL 16 (some 422) (.slice (some ⟨bD, oD, none⟩) n10 c10) (BLK.cls HKW.out) (p := ⟨g1, 14, none⟩) (fun w hSw => (HBOX.out.keptH hSw HNE.out).cell (j := 14) HFC.out) ?_
   refine uP 1 [(17, some 423, .int .i64 (k : Int))] (BLK.cls HKW.out) ?_
   simp only [zq]
   refine uG 18 (some 424) (.pointer (some ⟨bD, oD + k * 7, none⟩)) (BLK.cls HKW.out) ?_
   refine uP 1 [(19, some 425, .pointer (some ⟨bD, oD + k * 7 + 2, none⟩))] (BLK.cls HKW.out) ?_
   simp only [zq]
   refine uO 20 (some 426) (.agg #[x.c, x.n, x.a, .slice x.a1 x.n1 x.c1, .slice x.a2 x.n2 x.c2]) (BLK.cls HKW.out) (fun _ ho => by cases ho; exact .inl ⟨rfl, fun w hSw => eff_load_midW 63 (.tmp 425) rfl bD (oD + k * 7 + 2) rfl [x.c, x.n, x.a, .slice x.a1 x.n1 x.c1, .slice x.a2 x.n2 x.c2] _ (HRAN.out w hSw) Tryz.underlying63 rfl (by rw [repSz]; rfl)⟩) ?_
   simp only [zq]
   refine uS 13 rfl (fun wA13 hA13 K hK => ?_)
   go_simp
   have hkA : Kept (fun k => (Value.slice none 0 0).ownBlock = some k) W (wA13.alloc (.cells #[d.client, d.seq] 3)) := (HKW.out.trans (Kept.of_below hA13) (fun _ _ h => h.elim)).alloc _
   refine hK.out _ _ (BL (wA13.alloc (.cells #[d.client, d.seq] 3))) (BLK.cls hkA) (Below.refl _ _) ?_
   clear hK K
   try simp only [zq]
   refine uS 14 rfl (fun wA14 hA14 K hK => ?_)
   go_simp
   have hbl : Below wr.heap.size wr wA14 := (Below.alloc hA13 hA13.size (.cells #[d.client, d.seq] 3)).trans (hA14.mono (by simp; exact Nat.le_succ_of_le hA13.size))
   have his : Is (wA13.alloc (.cells #[d.client, d.seq] 3)) (.slice (some ⟨wA13.heap.size, 0, none⟩) 2 2) [d.client, d.seq] := Is.block (l := [d.client, d.seq]) (heap_new rfl) (Nat.le_refl _) (by simp [maxLen])
   refine (BK.num HBK.out hbl (his.mono hA14) HRG.out (by simp) HLL.out HBW.out).mono ?_
   rintro e wn ⟨a3, n3, c3, rfl, hbk⟩
   refine hK.out _ _ (BK W.heap.size W (.slice none 0 0) ((l ++ encG SeT.bytes (L.take k)) ++ encIs [d.client, d.seq]) (.slice a3 n3 c3)) BK.cls hbk ?_
   clear hbl his hbk
   clear hK K
   try simp only [zq]
   refine uS 21 rfl (fun wA21 hA21 K hK => ?_)
   go_simp
   refine (BK.rep hA21 (Below.refl _ _) (fun y hy => (HDD.out y hy).1) (fun y hy => (HDD.out y hy).2) HRR.out HRX.out.1 HRX.out.2 HLL2.out HBASE.out HRL.out.1 HRL.out.2).mono ?_
   rintro e wm ⟨a4, n4, c4, rfl, hbk⟩
   refine hK.out _ _ (BK W.heap.size W (.slice none 0 0) ((l ++ encG SeT.bytes (L.take k)) ++ encIs [d.client, d.seq] ++ encRepP x.c x.n x.a d.r.D d.r.F) (.slice a4 n4 c4)) BK.cls hbk ?_
   clear hbk
   clear hK K
   try simp only [zq]
   refine uP 1 [(22, some 4, .slice a4 n4 c4)] BK.cls ?_
   simp only [zq]
   refine wpAnyU_done (by kernel_rfl) (fun w1 hb1 => ?_) _
   have HBN : Hid (BK W.heap.size W (.slice none 0 0) (l ++ encG SeT.bytes (L.take (k + 1))) (.slice a4 n4 c4) w1) := by
    have h := hb1
    rw [encG_snoc _ hkL, ← HC.out, HEQ.out]
    simp only [List.append_assoc] at h ⊢
    exact h
   clear hb1
   go_wp2_with fail
   first
    | exact ⟨⟨k + 1, a4, n4, c4, by omega, by push_cast; rfl, rfl, HBN.out⟩, by simp [intOf]; omega⟩
    | ((repeat apply Exists.intro); exact ⟨⟨k + 1, a4, n4, c4, by omega, by push_cast; rfl, rfl, HBN.out⟩, rfl⟩)
  ·
   obtain rfl : n10 = k := by omega
   rw [List.take_of_length_le (by rw [← HNN.out.1]; exact Nat.le_refl _)] at hbk
   have HF : Hid (WsP W (l ++ encG SeT.bytes L) aw mw cw wr) := hbk
   clear hbk HBK hbox
   go_wp2_with fail
   exact HF.out
end Cam
