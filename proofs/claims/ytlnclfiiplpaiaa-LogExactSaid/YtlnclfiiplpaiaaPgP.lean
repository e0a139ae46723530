import Derived.Test.YtlnclfiiplpaiaaPgR
import Derived.Test.YtlnclfiiplpaiaaJnJz
/- the page's journal: a log in memory; Part. -/
namespace Cam
open Go Go.RowKit Go.Proofs
def plcells (g hf : Nat) (vsn vrc : Value) (T : LT) : List Value := [.pointer (some ⟨g, 0, none⟩), .int .i64 (hf : Int), .int .i64 (T.half.gen : Int), vsn, vrc, .int .i64 (T.half.fin : Int), .bool T.begun]
def PLX (w : World) (gl hf : Nat) (F : Nat → Prop) (g : Nat) (T : LT) : Prop := ∃ vsn vrc, HT w gl 107 (plcells g hf vsn vrc T) ∧ halfM w F vsn vrc T.half ∧ F gl ∧ ∀ k, F k → k < w.heap.size
theorem PLX.kept {S : Nat → Prop} {w w' : World} {gl hf g : Nat} {F : Nat → Prop} {T : LT} (h : PLX w gl hf F g T) (hk : Kept S w w') (hS : ∀ k, F k → ¬ S k) : PLX w' gl hf F g T := by
 obtain ⟨vsn, vrc, h1, h2, h3, h4⟩ := h
 exact ⟨vsn, vrc, h1.keptJ hk (hS gl h3), h2.kept hk hS, h3, fun k e => Nat.lt_of_lt_of_le (h4 k e) hk.size⟩
theorem PLX.below {w w' : World} {gl hf g : Nat} {F : Nat → Prop} {T : LT} (h : PLX w gl hf F g T) (hb : Below w.heap.size w w') : PLX w' gl hf F g T := h.kept (Kept.of_below hb) (fun _ _ e => e)
theorem PLX.mine {w : World} {gl hf g : Nat} {F : Nat → Prop} {T : LT} (h : PLX w gl hf F g T) : F gl := by
 obtain ⟨vsn, vrc, h1, h2, h3, h4⟩ := h
 exact h3
theorem PLX.lt {w : World} {gl hf g : Nat} {F : Nat → Prop} {T : LT} (h : PLX w gl hf F g T) (k : Nat) (hk : F k) : k < w.heap.size := by
 obtain ⟨vsn, vrc, h1, h2, h3, h4⟩ := h
 exact h4 k hk
def PPart (w : World) (g hf : Nat) (T : LT) (e : Ending) (w' : World) : Prop := ∃ gl F, e = .returned (.pointer (some ⟨gl, 0, none⟩)) ∧ PLX w' gl hf F g T ∧ (∀ k, F k → w.heap.size ≤ k) ∧ Below w.heap.size w w'
theorem PPart.mk' {w w2 : World} {g hf G e B fr : Nat} {vsn vrc : Value} {vs : List SV} {l : List UInt8} {R : List (List UInt8)} {H : HalfT} (hB : B = w.heap.size) (hH : H = ⟨G, l, R, e⟩)
  (hx : HT w2 B 107 [.pointer (some ⟨g, 0, none⟩), .int .i64 (hf : Int), .int .i64 (G : Int), vsn, vrc, .int .i64 (e : Int), .bool false])
  (h1 : OwnB 5 w2 (B + 1) vsn l) (h2 : OwnR encS 1 22 w2 (B + 1) vrc vs) (hvs : vs.length = R.length)
  (h3 : ∀ i (a : i < vs.length) (b : i < R.length), OwnB 5 w2 (B + 1) vs[i].v R[i]) (hb : Below w.heap.size w w2) :
  PPart w g hf ⟨fr, H, false⟩ (.returned (.pointer (some ⟨B, 0, none⟩))) w2 := by
 subst hH hB
 have hm : halfM w2 (fun k => w.heap.size ≤ k) vsn vrc ⟨G, l, R, e⟩ := ⟨h1.base (Nat.zero_le _), fun q hq => (by have := OwnB.ge h1 q hq; show w.heap.size ≤ q; omega), vs, hvs, h2.base (Nat.zero_le _), fun q hq => (by have := OwnR.ge h2 q hq; show w.heap.size ≤ q; omega), fun i a b => ⟨(h3 i a b).base (Nat.zero_le _), fun q hq => (by have := OwnB.ge (h3 i a b) q hq; show w.heap.size ≤ q; omega)⟩⟩
 exact ⟨w.heap.size, fun k => w.heap.size ≤ k ∧ k < w2.heap.size, rfl, ⟨vsn, vrc, hx, hm.lt, ⟨Nat.le_refl _, hx.lt⟩, fun k e => e.2⟩, fun k e => e.1, hb⟩
set_option maxRecDepth 100000 in
set_option maxHeartbeats 6400000 in
theorem ppart_any (w : World) (g gs : Nat) (vo : Value) (n : Nat) (D : DK) (h : PMem w g gs vo n D) (hfull : D.now = sets D.syn D.op) (half fr : Nat) (hh : half ≤ 1) :
  Calls Try.prog 63 #[.pointer (some ⟨g, 0, none⟩), .int .i64 (half : Int)] w (PPart w g half ⟨fr, readL (halfOf D.now (half * (n / 2)) (n / 2)), false⟩) := by
 obtain ⟨L, hL⟩ : ∃ z, z = halfOf D.now (half * (n / 2)) (n / 2) := ⟨_, rfl⟩
 have HROW : Hid (∀ (wx : World) (e : Nat), PMem wx g gs vo n D → Calls Try.prog 74 #[.pointer (some ⟨g, 0, none⟩), .int .i64 (half : Int), .int .i64 (e : Int)] wx (RowPost wx (L.drop e))) := fun wx e hx => by
  rw [hL]
  exact prow_any wx g gs vo n D hx hfull half e hh
 rw [← hL]
 obtain ⟨m, hm⟩ : ∃ z, z = n / 2 := ⟨_, rfl⟩
 have hn1 := h.ok.n1
 have hLl : L.length = m := by
  have hnl := h.ok.now
  have hm2 : half * m + m ≤ n := by
   rcases (by omega : half = 0 ∨ half = 1) with e | e
   ·
    rw [e]; omega
   ·
    rw [e]; omega
  rw [hL]
  unfold halfOf
  rw [List.length_take, List.length_drop, hnl.1, ← hm]
  omega
 have hm3 : m ≤ 32768 := by omega
 have HLL := Lib.hid hLl
 have HP := Lib.hid h
 clear hL hLl h hfull hm
 have hb1 : Below w.heap.size w (w.alloc (.cells #[.pointer (some ⟨g, 0, none⟩), .int .i64 (half : Int), .int .i64 0, .slice none 0 0, .slice none 0 0, .int .i64 0, .bool false] 107)) := (Below.refl _ _).alloc (Nat.le_refl _) _
 have hx1 : HT (w.alloc (.cells #[.pointer (some ⟨g, 0, none⟩), .int .i64 (half : Int), .int .i64 0, .slice none 0 0, .slice none 0 0, .int .i64 0, .bool false] 107)) w.heap.size 107 [.pointer (some ⟨g, 0, none⟩), .int .i64 (half : Int), .int .i64 0, .slice none 0 0, .slice none 0 0, .int .i64 0, .bool false] := HT.new
 have hs1 : (w.alloc (.cells #[.pointer (some ⟨g, 0, none⟩), .int .i64 (half : Int), .int .i64 0, .slice none 0 0, .slice none 0 0, .int .i64 0, .bool false] 107)).heap.size = w.heap.size + 1 := by simp
 have hrow := HROW.out _ 0 (HP.out.below hb1)
 rw [List.drop_zero, show ((0 : Nat) : Int) = 0 from rfl] at hrow
 have HB1 := Lib.hid hb1
 have HX1 := Lib.hid hx1
 have HS1 := Lib.hid hs1
 clear hb1 hx1 hs1
 go_enter Try.func63, Try.ntmps63
 go_wp2_with fail
 obtain ⟨B, hB⟩ : ∃ z, z = w.heap.size := ⟨_, rfl⟩
 generalize (w.alloc (.cells #[.pointer (some ⟨g, 0, none⟩), .int .i64 (half : Int), .int .i64 0, .slice none 0 0, .slice none 0 0, .int .i64 0, .bool false] 107)) = w1 at HB1 HX1 HS1 hrow ⊢
 rw [← hB] at HX1 HS1 ⊢
 have HBB := Lib.hid hB
 clear hB
 refine hrow.mono ?_
 clear hrow
 rintro e w2 (⟨hs, v, rfl, ho, hb⟩ | ⟨hns, ⟨x1, x2, x3, x4, rfl⟩, hb⟩)
 ·
  obtain ⟨av, nv, cv, rfl, _, ho2⟩ := ho.named
  have HO2 : Hid (OwnB 5 w2 (B + 1) (.slice av nv cv) (rowP L)) := by rw [← HS1.out]; exact ho2
  have HX2 := Lib.hid (HX1.out.below hb)
  have HB2 := Lib.hid (HB1.out.next hb)
  obtain ⟨G, hG⟩ : ∃ z, z = rowG L := ⟨_, rfl⟩
  obtain ⟨K, hK⟩ : ∃ z, z = rowK L := ⟨_, rfl⟩
  obtain ⟨N, hN⟩ : ∃ z, z = rowN L := ⟨_, rfl⟩
  rw [← hG, ← hK, ← hN]
  have HG := Lib.hid hG
  have HK := Lib.hid hK
  have HN0 := Lib.hid hN
  have HS := Lib.hid hs
  have hNb : 1 ≤ N ∧ N ≤ m := by
   have h4 := hs.2.2.2.1
   have := rowN_pos L
   rw [HLL.out] at h4
   omega
  have hGb : G ≤ 1099511627776 := by rw [hG]; exact hs.2.2.2.2.2.2.2.1
  clear hG hK hN hs ho ho2 hb
  by_cases hg1 : (G : Int) < 1
  ·
   by_cases hk1 : (K : Int) = 0
   ·
    have hk1' : ((K : Int) != 0) = false := by simpa using hk1
    go_wp2_with fail
    go_ret
    have hn0 : readL L = ⟨0, [], [], 0⟩ := by
     unfold readL
     rw [if_neg (fun e => by have := e.2.1; rw [← HG.out] at this; omega)]
    exact PPart.mk' HBB.out hn0 HX2.out (OwnB.empty _ _ _) (OwnR.empty encS_len _ _ _) rfl (fun i a => absurd a (Nat.not_lt_zero _)) HB2.out
   ·
    have hk1' : ((K : Int) != 0) = true := by simpa using hk1
    go_wp2_with fail
    go_ret
    have hn0 : readL L = ⟨0, [], [], 0⟩ := by
     unfold readL
     rw [if_neg (fun e => by have := e.2.1; rw [← HG.out] at this; omega)]
    exact PPart.mk' HBB.out hn0 HX2.out (OwnB.empty _ _ _) (OwnR.empty encS_len _ _ _) rfl (fun i a => absurd a (Nat.not_lt_zero _)) HB2.out
  ·
   have hg1' : decide ((G : Int) < 1) = false := by simpa using hg1
   by_cases hk1 : K = 0
   ·
    subst hk1
    have f2 := HX2.out.frozen 2
    have f3 := HX2.out.frozen 3
    have f5 := HX2.out.frozen 5
    have b2 := HX2.out.cell (j := 2) rfl
    have b3 := HX2.out.cell (j := 3) rfl
    have b5 := HX2.out.cell (j := 5) rfl
    go_upto_region 5 with fail
    have HXV : Hid (HT (((w2.setCell ⟨B, 2, none⟩ (.int .i64 (G : Int))).setCell ⟨B, 3, none⟩ (.slice av nv cv)).setCell ⟨B, 5, none⟩ (.int .i64 (N : Int))) B 107 [.pointer (some ⟨g, 0, none⟩), .int .i64 (half : Int), .int .i64 (G : Int), .slice av nv cv, .slice none 0 0, .int .i64 (N : Int), .bool false]) := ((HX2.out.put 2 (.int .i64 (G : Int))).put 3 (.slice av nv cv)).put 5 (.int .i64 (N : Int))
    have hkv : Kept (fun q => q = B) w2 (((w2.setCell ⟨B, 2, none⟩ (.int .i64 (G : Int))).setCell ⟨B, 3, none⟩ (.slice av nv cv)).setCell ⟨B, 5, none⟩ (.int .i64 (N : Int))) := by
     have h1 : Kept (fun q => q = B) w2 (w2.setCell ⟨B, 2, none⟩ (.int .i64 (G : Int))) := (Kept.refl _ w2).setCell ⟨B, 2, none⟩ _ rfl
     have h2 := h1.setCell ⟨B, 3, none⟩ (.slice av nv cv) rfl
     exact h2.setCell ⟨B, 5, none⟩ (.int .i64 (N : Int)) rfl
    have HOV : Hid (OwnB 5 (((w2.setCell ⟨B, 2, none⟩ (.int .i64 (G : Int))).setCell ⟨B, 3, none⟩ (.slice av nv cv)).setCell ⟨B, 5, none⟩ (.int .i64 (N : Int))) (B + 1) (.slice av nv cv) (rowP L)) := HO2.out.keptJ hkv (fun q hq e => by have := OwnB.ge HO2.out q hq; omega)
    have HBV : Hid (Below w.heap.size w (((w2.setCell ⟨B, 2, none⟩ (.int .i64 (G : Int))).setCell ⟨B, 3, none⟩ (.slice av nv cv)).setCell ⟨B, 5, none⟩ (.int .i64 (N : Int)))) := HB2.out.trans (hkv.below (fun q hq e => by have := HBB.out; omega) HB2.out.size)
    clear hkv
    go_wp2_with fail
    generalize (((w2.setCell ⟨B, 2, none⟩ (.int .i64 (G : Int))).setCell ⟨B, 3, none⟩ (.slice av nv cv)).setCell ⟨B, 5, none⟩ (.int .i64 (N : Int))) = V at HXV HOV HBV ⊢
    clear f2 f3 f5 b2 b3 b5 HX1 HX2 HB1 HB2 HO2
    go_loopw [] (fun wr => ∃ (R : List (List UInt8)) (e f : Nat) (vs : List SV) (a : Option Addr) (q c : Nat), HT wr B 107 [.pointer (some ⟨g, 0, none⟩), .int .i64 (half : Int), .int .i64 (G : Int), .slice av nv cv, .slice a q c, .int .i64 (e : Int), .bool false] ∧ OwnB 5 wr (B + 1) (.slice av nv cv) (rowP L) ∧ Below w.heap.size w wr ∧
     OwnR encS 1 22 wr (B + 1) (.slice a q c) vs ∧ q = R.length ∧ vs.length = R.length ∧ Hid (∀ i (h1 : i < vs.length) (h2 : i < R.length), OwnB 5 wr (B + 1) vs[i].v R[i]) ∧ e ≤ m ∧ 1 ≤ e ∧ m + 1 ≤ e + f ∧ R.length ≤ e ∧ Hid (recsF L G m 1 N = (R ++ (recsF L G f (R.length + 1) e).1, (recsF L G f (R.length + 1) e).2))) (fun wr => m - cellNat wr B 5)
    case atStart => exact ⟨[], N, m, [], none, 0, 0, HXV.out, HOV.out, HBV.out, OwnR.empty encS_len _ _ _, rfl, rfl, fun i h1 => absurd h1 (Nat.not_lt_zero _), hNb.2, hNb.1, by omega, Nat.zero_le _, rfl⟩
    case round =>
     obtain ⟨R, e, f, vs, a, q, c, hha, hop, hbel, hors, rfl, hvs, HAL, he1, he2, hef, hre, HREC⟩ := hrel
     have HHX := Lib.hid hha
     have HOP := Lib.hid hop
     have HBE := Lib.hid hbel
     have HORS := Lib.hid hors
     have HVS := Lib.hid hvs
     obtain ⟨f', hf'⟩ : ∃ f', f = f' + 1 := ⟨f - 1, by omega⟩
     have HF := Lib.hid hf'
     clear hha hop hbel hors hvs hf'
     have hx2 := HHX.out.cell (j := 2) rfl
     have hx4 := HHX.out.cell (j := 4) rfl
     have hx5 := HHX.out.cell (j := 5) rfl
     obtain ⟨n9, hn⟩ : ∃ n9, n9 = R.length := ⟨_, rfl⟩
     have HN := Lib.hid hn
     rw [← hn] at hre HHX HORS hx4
     clear hn
     have hre1 : (n9 : Int) ≤ 32768 ∧ (0 : Int) ≤ n9 := by omega
     have hrow := HROW.out wr e (HP.out.below HBE.out)
     have hdl : (L.drop e).length = m - e := by rw [List.length_drop, HLL.out]
     obtain ⟨T, hT⟩ : ∃ T, T = L.drop e := ⟨_, rfl⟩
     rw [← hT] at hrow hdl
     have HT0 := Lib.hid hT
     have HDL := Lib.hid hdl
     clear hT hdl
     go_wp2_with fail
     refine hrow.mono ?_
     clear hrow
     rintro e0 w3 (⟨hs, v2, rfl, hov2, hb3⟩ | ⟨hns, ⟨x1, x2, x3, x4, rfl⟩, hb3⟩)
     ·
      obtain ⟨av2, nv2, cv2, rfl, _, hov3⟩ := hov2.named
      obtain ⟨G2, hG2⟩ : ∃ z, z = rowG T := ⟨_, rfl⟩
      obtain ⟨K2, hK2⟩ : ∃ z, z = rowK T := ⟨_, rfl⟩
      obtain ⟨N2, hN2⟩ : ∃ z, z = rowN T := ⟨_, rfl⟩
      rw [← hG2, ← hK2, ← hN2]
      have HG2 := Lib.hid hG2
      have HK2 := Lib.hid hK2
      have HN2 := Lib.hid hN2
      have HS2 := Lib.hid hs
      have hN2b : 1 ≤ N2 ∧ e + N2 ≤ m := by
       have h4 := hs.2.2.2.1
       have := rowN_pos T
       rw [HDL.out] at h4
       omega
      have HOV2 : Hid (OwnB 5 w3 (B + 1) (.slice av2 nv2 cv2) (rowP T)) := OwnB.base hov3 (by have := HHX.out.lt; omega)
      clear hG2 hK2 hN2 hs hov2 hov3 hx4
      by_cases hgg : G2 = G
      ·
       have hgg1 : ((G2 : Int) != (G : Int)) = false := by rw [hgg]; simp
       have HGG := Lib.hid hgg
       clear hgg
       by_cases hkk : K2 = n9 + 1
       ·
        have hkk1 : ((K2 : Int) != (n9 : Int) + 1) = false := by rw [hkk]; simp
        have HKK := Lib.hid hkk
        clear hkk
        have HX5 := Lib.hid ((HHX.out.below hb3).below ((Below.refl _ _).alloc (Nat.le_refl _) (.cells #[.slice av2 nv2 cv2] 22)))
        have hb5 : Below wr.heap.size wr (w3.alloc (.cells #[.slice av2 nv2 cv2] 22)) := hb3.alloc hb3.size _
        have hx4 := (HHX.out.below hb3).cell (j := 4) rfl
        have HOP5 := Lib.hid (HOP.out.below hb5)
        have HORS5 := Lib.hid (HORS.out.below hb5)
        have HAL5 : Hid (∀ i (h1 : i < vs.length) (h2 : i < R.length), OwnB 5 (w3.alloc (.cells #[.slice av2 nv2 cv2] 22)) (B + 1) vs[i].v R[i]) := fun i h1 h2 => (HAL.out i h1 h2).below hb5
        have HOV5 := Lib.hid (OwnB.alloc HOV2.out (.cells #[.slice av2 nv2 cv2] 22))
        have HB5 := Lib.hid (HBE.out.next hb5)
        have HONE : Hid (Rs encS 1 (w3.alloc (.cells #[.slice av2 nv2 cv2] 22)) (.slice (some ⟨w3.heap.size, 0, none⟩) 1 1) [((av2, nv2, cv2) : SV)]) := Rs.one encS_len w3 ((av2, nv2, cv2) : SV) 22
        have hle : (vs.length + [((av2, nv2, cv2) : SV)].length) * 24 ≤ 140737488355328 := by have := HVS.out; have := HN.out; simp; omega
        have hzb : B + 1 ≤ ((w3.alloc (.cells #[.slice av2 nv2 cv2] 22))).heap.size := by have := HHX.out.lt; have := hb5.size; omega
        clear hb3 hb5 hx2 hx5
        go_wp2_with (first
         | (at_builtin; refine wpList_append_rows (v := .slice a n9 c) rfl (.tmp 87) (.tmp 89) 23 rfl (L := vs) (M := [((av2, nv2, cv2) : SV)]) (base := B + 1) elem_s rfl rfl HORS5.out HONE.out encS_one hle (by decide) hzb ?_; intro a9 n8 c9 w9 Hn9 ho9 hg9 hat9 hb9; have hty : ∀ k, (Value.slice a n9 c).ownBlock = some k → ∃ cur fr, ((w3.alloc (.cells #[.slice av2 nv2 cv2] 22))).heap[k]? = some (.cells cur 22 fr) := (fun k hk => ownsRow_type HORS5.out.2 hk); have hx9 := HT.grownApart HX5.out hg9 hty (by decide); have HX9 := Lib.hid hx9; have c4 := hx9.cell (j := 4) rfl; have c5 := hx9.cell (j := 5) rfl; have f4 := hx9.frozen 4; have f5 := hx9.frozen 5; have HG9 := Lib.hid hg9; have HTY := Lib.hid hty; have HO9 := Lib.hid ho9; have HN9 := Lib.hid Hn9.out; have Hb9 := Lib.hid hb9; clear hx9 hg9 hty ho9 Hn9 hb9 hat9)
         | fail)
        have e5 : ((e + N2 : Nat) : Int) = (e : Int) + N2 := by push_cast; rfl
        rw [← e5]
        have hxZ : HT ((w9.setCell ⟨B, 4, none⟩ (.slice a9 n8 c9)).setCell ⟨B, 5, none⟩ (.int .i64 ((e + N2 : Nat) : Int))) B 107 [.pointer (some ⟨g, 0, none⟩), .int .i64 (half : Int), .int .i64 (G : Int), .slice av nv cv, .slice a9 n8 c9, .int .i64 ((e + N2 : Nat) : Int), .bool false] := (HX9.out.put 4 (.slice a9 n8 c9)).put 5 (.int .i64 ((e + N2 : Nat) : Int))
        have hkz : Kept (fun q => q = B) w9 ((w9.setCell ⟨B, 4, none⟩ (.slice a9 n8 c9)).setCell ⟨B, 5, none⟩ (.int .i64 ((e + N2 : Nat) : Int))) := by
         have h1 : Kept (fun q => q = B) w9 (w9.setCell ⟨B, 4, none⟩ (.slice a9 n8 c9)) := (Kept.refl _ w9).setCell ⟨B, 4, none⟩ _ rfl
         exact h1.setCell ⟨B, 5, none⟩ (.int .i64 ((e + N2 : Nat) : Int)) rfl
        generalize ((w9.setCell ⟨B, 4, none⟩ (.slice a9 n8 c9)).setCell ⟨B, 5, none⟩ (.int .i64 ((e + N2 : Nat) : Int))) = wZ at hxZ hkz ⊢
        have hB9 : Below w.heap.size w w9 := HB5.out.trans (Hb9.out.mono (by have := HBB.out; omega))
        have hBZ : Below w.heap.size w wZ := hB9.trans (hkz.below (fun q hq e => by have := HBB.out; omega) hB9.size)
        have hff := HF.out
        have hlv : vs.length = n9 := by rw [HVS.out, HN.out]
        refine ⟨⟨R ++ [rowP T], e + N2, f', vs ++ [((av2, nv2, cv2) : SV)], a9, n8, c9, hxZ, ?_, hBZ, HO9.out.keptJ hkz (fun q hq e => by have := OwnR.ge HO9.out q hq; omega), ?_, ?_, ?_, by omega, by omega, by omega, ?_, ?_⟩, ?_⟩
        ·
         have h9 := OwnB.grownApart HOP5.out HG9.out HTY.out (by decide)
         exact h9.keptJ hkz (fun q hq e => by have := OwnB.ge h9 q hq; omega)
        ·
         rw [HN9.out, List.length_append, HVS.out]
         rfl
        ·
         rw [List.length_append, List.length_append, HVS.out]
         rfl
        ·
         show ∀ i (h1 : i < (vs ++ [((av2, nv2, cv2) : SV)]).length) (h2 : i < (R ++ [rowP T]).length), OwnB 5 wZ (B + 1) (vs ++ [((av2, nv2, cv2) : SV)])[i].v (R ++ [rowP T])[i]
         have hv9 := OwnB.grownApart HOV5.out HG9.out HTY.out (by decide)
         exact recs_snoc HVS.out (fun i h1 h2 => by
          have h9 := OwnB.grownApart (HAL5.out i h1 h2) HG9.out HTY.out (by decide)
          exact h9.keptJ hkz (fun q hq e => by have := OwnB.ge h9 q hq; omega)) (hv9.keptJ hkz (fun q hq e => by have := OwnB.ge hv9 q hq; omega))
        ·
         rw [List.length_append, List.length_cons, List.length_nil, ← HN.out]
         omega
        ·
         have h5 := HREC.out
         have hst : stands (L.drop e) ∧ rowG (L.drop e) = G ∧ rowK (L.drop e) = R.length + 1 := by
          rw [← HT0.out, ← HG2.out, ← HK2.out, ← HN.out]
          exact ⟨HS2.out, HGG.out, HKK.out⟩
         rw [HF.out, recsF_more hst, ← HT0.out, ← HN2.out] at h5
         show _ = _
         rw [h5, List.length_append, List.length_cons, List.length_nil]
         simp
        ·
         rw [cellNat_is (hxZ.cell (j := 5) rfl), cellNat_is (HHX.out.cell (j := 5) rfl)]
         omega
       ·
        have hkk1 : ((K2 : Int) != (n9 : Int) + 1) = true := by rw [bne_iff_ne]; omega
        have HKK := Lib.hid hkk
        clear hkk
        have HX4 := Lib.hid (HHX.out.below hb3)
        have HOP4 := Lib.hid (HOP.out.below hb3)
        have HORS4 := Lib.hid (HORS.out.below hb3)
        have HAL4 : Hid (∀ i (h1 : i < vs.length) (h2 : i < R.length), OwnB 5 w3 (B + 1) vs[i].v R[i]) := fun i h1 h2 => (HAL.out i h1 h2).below hb3
        have HB4 := Lib.hid (HBE.out.next hb3)
        have hx4 := HX4.out.cell (j := 4) rfl
        clear hb3 hx2 hx5
        go_wp2_with fail
        go_ret
        have hn9 : readL L = ⟨G, rowP L, R, e⟩ := by
         have h5 := HREC.out
         rw [HF.out, recsF_stop (fun h => HKK.out (by rw [HK2.out, HT0.out, HN.out, h.2.2])), List.append_nil] at h5
         unfold readL
         rw [if_pos ⟨HS.out, by rw [← HG.out]; omega, HK.out.symm⟩, HLL.out, ← HG.out, ← HN0.out, h5]
        exact PPart.mk' HBB.out hn9 HX4.out HOP4.out HORS4.out HVS.out HAL4.out HB4.out
      ·
       have hgg1 : ((G2 : Int) != (G : Int)) = true := by rw [bne_iff_ne]; omega
       have HGG := Lib.hid hgg
       clear hgg
       have HX4 := Lib.hid (HHX.out.below hb3)
       have HOP4 := Lib.hid (HOP.out.below hb3)
       have HORS4 := Lib.hid (HORS.out.below hb3)
       have HAL4 : Hid (∀ i (h1 : i < vs.length) (h2 : i < R.length), OwnB 5 w3 (B + 1) vs[i].v R[i]) := fun i h1 h2 => (HAL.out i h1 h2).below hb3
       have HB4 := Lib.hid (HBE.out.next hb3)
       have hx4 := HX4.out.cell (j := 4) rfl
       clear hb3 hx2 hx5
       go_wp2_with fail
       go_ret
       have hn9 : readL L = ⟨G, rowP L, R, e⟩ := by
        have h5 := HREC.out
        rw [HF.out, recsF_stop (fun h => HGG.out (by rw [HG2.out, HT0.out, h.2.1])), List.append_nil] at h5
        unfold readL
        rw [if_pos ⟨HS.out, by rw [← HG.out]; omega, HK.out.symm⟩, HLL.out, ← HG.out, ← HN0.out, h5]
       exact PPart.mk' HBB.out hn9 HX4.out HOP4.out HORS4.out HVS.out HAL4.out HB4.out
     ·
      have HX4 := Lib.hid (HHX.out.below hb3)
      have HOP4 := Lib.hid (HOP.out.below hb3)
      have HORS4 := Lib.hid (HORS.out.below hb3)
      have HAL4 : Hid (∀ i (h1 : i < vs.length) (h2 : i < R.length), OwnB 5 w3 (B + 1) vs[i].v R[i]) := fun i h1 h2 => (HAL.out i h1 h2).below hb3
      have HB4 := Lib.hid (HBE.out.next hb3)
      have HNS := Lib.hid hns
      clear hns hb3 hx2 hx4 hx5
      go_wp2_with fail
      go_ret
      have hn9 : readL L = ⟨G, rowP L, R, e⟩ := by
       have h5 := HREC.out
       rw [HF.out, recsF_stop (fun h => HNS.out (by rw [HT0.out]; exact h.1)), List.append_nil] at h5
       unfold readL
       rw [if_pos ⟨HS.out, by rw [← HG.out]; omega, HK.out.symm⟩, HLL.out, ← HG.out, ← HN0.out, h5]
      exact PPart.mk' HBB.out hn9 HX4.out HOP4.out HORS4.out HVS.out HAL4.out HB4.out
   ·
    have hk1' : ((K : Int) != 0) = true := by simpa using hk1
    have HK1 := Lib.hid hk1
    clear hk1
    go_wp2_with fail
    go_ret
    have hn0 : readL L = ⟨0, [], [], 0⟩ := by
     unfold readL
     rw [if_neg (fun e => HK1.out (by rw [HK.out]; exact e.2.2))]
    exact PPart.mk' HBB.out hn0 HX2.out (OwnB.empty _ _ _) (OwnR.empty encS_len _ _ _) rfl (fun i a => absurd a (Nat.not_lt_zero _)) HB2.out
 ·
  have HX2 := Lib.hid (HX1.out.below hb)
  have HB2 := Lib.hid (HB1.out.next hb)
  have HNS := Lib.hid hns
  clear hns hb
  go_wp2_with fail
  go_ret
  have hn0 : readL L = ⟨0, [], [], 0⟩ := by
   unfold readL
   rw [if_neg (fun e => HNS.out e.1)]
  exact PPart.mk' HBB.out hn0 HX2.out (OwnB.empty _ _ _) (OwnR.empty encS_len _ _ _) rfl (fun i a => absurd a (Nat.not_lt_zero _)) HB2.out
end Cam
