import Derived.Test.YtlnclfiiplpaiaaPdA
import Derived.Test.YtlnclfiiplpaiaaHtz
/- Several small texts in one: PdS, PdT. No condition. -/
namespace Cam
open Go Go.RowKit Go.Proofs
theorem box_world1 (w : World) (b : List UInt8) (hb : b.length = 64) :
  Below w.heap.size w ((w.alloc (.cells (bvs zero64).toArray 36)).setCells w.heap.size 0 (bvs b)) ∧ HC ((w.alloc (.cells (bvs zero64).toArray 36)).setCells w.heap.size 0 (bvs b)) w.heap.size (bvs b) ∧
   (w.alloc (.cells (bvs zero64).toArray 36)).there w.heap.size 0 (bvs b).length := by
 have hbox := (HC.new (w := w) (C := bvs zero64) (t := 36))
 have hbx := hbox.puts (vs := bvs b) (o := 0) (by rw [bvs_length, bvs_length, hb, zero64_length]; omega)
 rw [splice_all _ _ (by rw [hb, zero64_length])] at hbx
 exact ⟨((Below.refl _ _).alloc (Nat.le_refl _) _).trans ((setCells_kept _ _ _ _).below (fun j hj e => by omega) (by simp)), hbx, hbox.room zero64_length hb⟩
theorem HT.hc {w : World} {g : Nat} {t : TypeId} {C : List Value} (h : HT w g t C) : HC w g C := ⟨t, h⟩
theorem PMem.opAt {w : World} {g gs : Nat} {a : Option Addr} {q c n : Nat} {D : DK} (h : PMem w g gs (.slice a q c) n D) :
  q = D.op.length ∧ (0 < D.op.length → ∃ bo, a = some ⟨bo, 0, none⟩ ∧ bo ≠ g ∧ bo ≠ gs ∧ bo < w.heap.size ∧ ∀ i (hi : i < D.op.length), D.op[i].1 < n ∧ D.op[i].2.length = 64 ∧ w.cell? ⟨bo, i * 65, none⟩ = some (.int .i64 (D.op[i].1 : Int)) ∧ w.rangeAt bo (i * 65 + 1) (bvs D.op[i].2)) := by
 obtain ⟨a9, c9, e9, _⟩ := h.ho.rs.shape
 simp only [Value.slice.injEq] at e9
 obtain ⟨rfl, rfl, rfl⟩ := e9
 refine ⟨rfl, fun hp => ?_⟩
 obtain ⟨bo, c8, hv⟩ := Joins.ownsRow_form h.ho.2 hp
 simp only [Value.slice.injEq] at hv
 obtain ⟨rfl, _, rfl⟩ := hv
 obtain ⟨k1, k2, k3⟩ := h.own (k := bo) rfl
 obtain ⟨b, off, hb, _, hc⟩ := Rs.at h.ho.rs hp (by decide)
 simp only [Option.some.injEq, Addr.mk.injEq] at hb
 obtain ⟨rfl, rfl, _⟩ := hb
 refine ⟨bo, rfl, k1, k2, k3, fun i hi => ?_⟩
 have ho := h.ok.op _ (List.getElem_mem hi)
 have he := encW_fW ho.2
 refine ⟨ho.1, ho.2, ?_, fun j v hv => ?_⟩
 ·
  have := hc i hi 0 (.int .i64 (D.op[i].1 : Int)) (by rw [he]; rfl)
  simpa using this
 ·
  have := hc i hi (j + 1) v (by rw [he]; exact hv)
  rw [← this]
  congr 2
  omega
theorem sets_take {S : List (List UInt8)} {o : List (Nat × List UInt8)} {i : Nat} (hi : i < o.length) : sets S (o.take (i + 1)) = (sets S (o.take i)).set o[i].1 o[i].2 := by
 rw [List.take_succ_eq_append_getElem hi, sets_snoc]
theorem sets_len (S : List (List UInt8)) (o : List (Nat × List UInt8)) : (sets S o).length = S.length := by
 induction o generalizing S with
 | nil => rfl
 | cons x o ih =>
  show (sets (S.set x.1 x.2) o).length = _
  rw [ih, List.length_set]
set_option maxHeartbeats 3200000 in
set_option maxRecDepth 100000 in
theorem psee_any (w : World) (g gs : Nat) (vo : Value) (n : Nat) (D : DK) (h : PMem w g gs vo n D) (k : Nat) (hk : k < n) :
  Calls Try.prog 69 #[.pointer (some ⟨g, 0, none⟩), .int .i64 (k : Int)] w fun e w' => (∃ b : List UInt8, e = .returned (.agg (bvs b).toArray) ∧ b.length = 64 ∧ (sets D.syn D.op)[k]? = some b) ∧ Below w.heap.size w w' := by
 obtain ⟨a, q, c, rfl, _⟩ := h.ho.named
 obtain ⟨hq, hop⟩ := h.opAt
 have hsl := h.ok.syn
 have hkl : k < D.syn.length := by omega
 obtain ⟨b0, hb0⟩ : ∃ z, z = D.syn[k] := ⟨_, rfl⟩
 have hbl0 : b0.length = 64 := by rw [hb0]; exact hsl.2 _ (List.getElem_mem hkl)
 have hbA : Below w.heap.size w (w.alloc (.cells (bvs zero64).toArray 36)) := (Below.refl _ _).alloc (Nat.le_refl _) _
 have hA := h.below hbA
 have hran := blockAt hA.hs.hc hsl.2 hkl
 rw [← hb0] at hran
 have hc1 : (w.alloc (.cells #[.int .u8 0, .int .u8 0, .int .u8 0, .int .u8 0, .int .u8 0, .int .u8 0, .int .u8 0, .int .u8 0, .int .u8 0, .int .u8 0, .int .u8 0, .int .u8 0, .int .u8 0, .int .u8 0, .int .u8 0, .int .u8 0, .int .u8 0, .int .u8 0, .int .u8 0, .int .u8 0, .int .u8 0, .int .u8 0, .int .u8 0, .int .u8 0, .int .u8 0, .int .u8 0, .int .u8 0, .int .u8 0, .int .u8 0, .int .u8 0, .int .u8 0, .int .u8 0, .int .u8 0, .int .u8 0, .int .u8 0, .int .u8 0, .int .u8 0, .int .u8 0, .int .u8 0, .int .u8 0, .int .u8 0, .int .u8 0, .int .u8 0, .int .u8 0, .int .u8 0, .int .u8 0, .int .u8 0, .int .u8 0, .int .u8 0, .int .u8 0, .int .u8 0, .int .u8 0, .int .u8 0, .int .u8 0, .int .u8 0, .int .u8 0, .int .u8 0, .int .u8 0, .int .u8 0, .int .u8 0, .int .u8 0, .int .u8 0, .int .u8 0, .int .u8 0] 36)).cell? ⟨g, 1, none⟩ = some (.slice (some ⟨gs, 0, none⟩) n n) := hA.cells.2.1
 obtain ⟨x1, x2, x3⟩ := box_world1 (w.alloc (.cells (bvs zero64).toArray 36)) b0 hbl0
 have hz : HC (w.alloc (.cells (bvs zero64).toArray 36)) w.heap.size (bvs zero64) := HC.new
 have HRAN := Lib.hid hran
 have Hsz := Lib.hid (size64_of hbl0)
 have x3b : ((w.alloc (.cells (bvs zero64).toArray 36)).alloc (.cells (bvs zero64).toArray 36)).there (w.heap.size + 1) 0 (bvs b0).length := by simpa using x3
 have HX3b := Lib.hid x3b
 have HX3 := Lib.hid x3
 have HZ := Lib.hid (hz.below x1)
 have HX2 := Lib.hid x2
 have HBX := Lib.hid (hbA.trans (x1.mono hbA.size))
 have HP := Lib.hid h
 have HOP := Lib.hid hop
 have HQ := Lib.hid hq
 have HBL := Lib.hid hbl0
 have hkn : (0 : Int) ≤ k ∧ (k : Int) < n := by omega
 have hn1 := h.ok.n1
 have HS0 : Hid ((sets D.syn (D.op.take 0))[k]? = some b0) := by show (D.syn)[k]? = _; rw [List.getElem?_eq_getElem hkl, hb0]
 clear h hop hsl hkl hb0 hbl0 hbA hA hran x1 x2 x3 x3b hz hq
 go_enter Try.func69, Try.ntmps69
 go_wp2_with (first
  | (refine wpList_load_mid rfl 36 (.tmp 12) rfl gs (k * 64) rfl (bvs b0) _ HRAN.out Try.underlying36 rfl Hsz.out ?_)
  | (refine wpList_store_mid rfl 36 (.tmp 5) (.tmp 13) rfl (w.heap.size + 1) 0 (bvs b0).toArray rfl rfl HX3b.out (by simpa using Hsz.out) (all_oneCell_toArray (bs_oneCell _)) ?_)
  | fail)
 change Code.wp _ _ _ _ (((w.alloc (.cells (bvs zero64).toArray 36)).alloc (.cells (bvs zero64).toArray 36)).setCells (w.heap.size + 1) 0 (bvs b0))
 obtain ⟨x0, hx0⟩ : ∃ z, z = ((w.alloc (.cells (bvs zero64).toArray 36)).alloc (.cells (bvs zero64).toArray 36)).setCells (w.heap.size + 1) 0 (bvs b0) := ⟨_, rfl⟩
 have he1 : (w.alloc (.cells (bvs zero64).toArray 36)).heap.size = w.heap.size + 1 := by simp
 have hz0 : HC x0 w.heap.size (bvs zero64) := by rw [hx0, ← he1]; exact HZ.out
 have hb0 : HC x0 (w.heap.size + 1) (bvs b0) := by rw [hx0, ← he1]; exact HX2.out
 have hw0 : Below w.heap.size w x0 := by rw [hx0, ← he1]; exact HBX.out
 obtain ⟨gr, hgr⟩ : ∃ z, z = w.heap.size := ⟨_, rfl⟩
 obtain ⟨gb, hgb⟩ : ∃ z, z = w.heap.size + 1 := ⟨_, rfl⟩
 have HW0 := Lib.hid hw0
 have HG : Hid (gr = w.heap.size ∧ gb = w.heap.size + 1) := ⟨hgr, hgb⟩
 rw [← hgr] at hz0
 rw [← hgb] at hb0
 rw [← hx0, ← hgb, ← hgr]
 have HZ0 := Lib.hid hz0
 have HB0 := Lib.hid hb0
 clear hx0 he1 hz0 hb0 hw0 hgr hgb HZ HX2 HBX HX3 HX3b hc1 HRAN Hsz
 go_loopw [6] (fun i wr => ∃ (j : Nat) (cur : List UInt8), j ≤ q ∧ i = .int .i64 j ∧ HC wr gb (bvs cur) ∧ Hid (cur.length = 64 ∧ (sets D.syn (D.op.take j))[k]? = some cur) ∧ Kept (fun z => z = gb) x0 wr) (fun i _ => q - (intOf i).toNat)
 case atStart => exact ⟨0, b0, Nat.zero_le _, rfl, HB0.out, ⟨HBL.out, HS0.out⟩, Kept.refl _ _⟩
 case round =>
  obtain ⟨j, cur, hj, rfl, hcb, HC1, hkx⟩ := hrel
  have HKX := Lib.hid hkx
  have HCB := Lib.hid hcb
  have hwr : Below w.heap.size w wr := HW0.out.trans (hkx.below (fun z hz e => by have := HG.out.2; omega) HW0.out.size)
  have HWR := Lib.hid hwr
  have hpr := HP.out.below hwr
  have hc2 := hpr.cells.2.2.1
  have HPR := Lib.hid hpr
  have hcz : HC wr gr (bvs zero64) := HZ0.out.kept hkx (fun e => by have := HG.out; omega)
  have HCZ := Lib.hid hcz
  clear hcb hkx hwr hpr hcz
  by_cases hlt : j < q
  ·
   have hjl : j < D.op.length := by have := HQ.out; omega
   obtain ⟨bo, rfl, k1, k2, k3, hel⟩ := HOP.out (by omega)
   obtain ⟨k4, k5, k6, k7⟩ := hel j hjl
   obtain ⟨xk, hxk⟩ : ∃ z, z = D.op[j].1 := ⟨_, rfl⟩
   obtain ⟨xb, hxb⟩ : ∃ z, z = D.op[j].2 := ⟨_, rfl⟩
   have htk : sets D.syn (D.op.take (j + 1)) = (sets D.syn (D.op.take j)).set xk xb := by rw [sets_take hjl, hxk, hxb]
   rw [← hxk] at k4 k6
   rw [← hxb] at k5 k7
   have hcA : wr.cell? ⟨bo, j * 65, none⟩ = some (.int .i64 (xk : Int)) := (Below.cell (p := ⟨bo, j * 65, none⟩) HWR.out k3).trans k6
   have hran : wr.rangeAt bo (j * 65 + 1) (bvs xb) := fun i v hv => (Below.cell (p := ⟨bo, j * 65 + 1 + i, none⟩) HWR.out k3).trans (k7 i v hv)
   have HRAN := Lib.hid hran
   have Hsz := Lib.hid (size64_of k5)
   have HTK := Lib.hid htk
   have HX5 := Lib.hid k5
   have HX4 := Lib.hid k4
   have hj0 : (0 : Int) ≤ j ∧ (j : Int) < q ∧ (q : Int) ≤ 1000000 := by have := HP.out.ok.few; have := HQ.out; omega
   clear k1 k2 k3 k4 k5 k6 k7 hel hxk hxb htk hran
   by_cases he : xk = k
   ·
    subst he
    have hroom := HCB.out.room HC1.out.1 HX5.out
    have HRM := Lib.hid hroom
    clear hroom
    go_wp2_with (first
     | (refine wpList_load_mid rfl 36 (.tmp 39) rfl bo (j * 65 + 1) rfl (bvs xb) _ HRAN.out Try.underlying36 rfl Hsz.out ?_)
     | (refine wpList_store_mid rfl 36 (.tmp 5) (.tmp 40) rfl gb 0 (bvs xb).toArray rfl rfl (by simpa using HRM.out) (by simpa using Hsz.out) (all_oneCell_toArray (bs_oneCell _)) ?_)
     | fail)
    refine ⟨⟨j + 1, xb, by omega, by push_cast; rfl, ?_, ⟨HX5.out, ?_⟩, HKX.out.trans (setCells_kept _ _ _ _) (fun _ _ e => e)⟩, by simp [intOf]; omega⟩
    ·
     have h9 := HCB.out.puts (vs := bvs xb) (o := 0) (by rw [bvs_length, bvs_length, HX5.out, HC1.out.1]; omega)
     rw [splice_all _ _ (by rw [HX5.out, HC1.out.1])] at h9
     exact h9
    ·
     rw [HTK.out, List.getElem?_set_self (by rw [sets_len, HP.out.ok.syn.1]; exact HX4.out)]
   ·
    have he2 : ((xk : Int) == (k : Int)) = false := by rw [beq_eq_false_iff_ne]; omega
    go_wp2_with fail
    refine ⟨⟨j + 1, cur, by omega, by push_cast; rfl, HCB.out, ⟨HC1.out.1, ?_⟩, HKX.out⟩, by simp [intOf]; omega⟩
    rw [HTK.out, List.getElem?_set_ne he]
    exact HC1.out.2
  ·
   obtain rfl : j = q := by omega
   have hran := HCB.out.bytes
   have HRAN := Lib.hid hran
   have Hsz := Lib.hid (size64_of HC1.out.1)
   have hroom := HCZ.out.room zero64_length HC1.out.1
   have HRM := Lib.hid hroom
   clear hran hroom
   go_wp2_with (first
    | (refine wpList_load_mid rfl 36 (.tmp 5) rfl gb 0 rfl (bvs cur) _ HRAN.out Try.underlying36 rfl Hsz.out ?_)
    | (refine wpList_store_mid rfl 36 (.tmp 4) (.tmp 41) rfl gr 0 (bvs cur).toArray rfl rfl (by simpa using HRM.out) (by simpa using Hsz.out) (all_oneCell_toArray (bs_oneCell _)) ?_)
    | fail)
   have h9 := HCZ.out.puts (vs := bvs cur) (o := 0) (by rw [bvs_length, bvs_length, HC1.out.1, zero64_length]; omega)
   rw [splice_all _ _ (by rw [HC1.out.1, zero64_length])] at h9
   refine bodyPost_ret (ret_row rfl h9 HC1.out.1 rfl) rfl ⟨⟨cur, rfl, HC1.out.1, ?_⟩, ?_⟩
   ·
    have := HC1.out.2
    rwa [HQ.out, List.take_length] at this
   ·
    exact HWR.out.trans ((setCells_kept _ _ _ _).below (fun z hz e => by have := HG.out.1; omega) HWR.out.size)
end Cam
namespace Cam
open Go Go.RowKit Go.Proofs
set_option maxHeartbeats 3200000 in
set_option maxRecDepth 100000 in
theorem pread_any (w : World) (g gs : Nat) (vo : Value) (n : Nat) (D : DK) (h : PMem w g gs vo n D) (hfull : D.now = sets D.syn D.op) (at_ : Int) :
  Calls Try.prog 57 #[.pointer (some ⟨g, 0, none⟩), .int .i64 at_] w fun e w' => (∃ b : List UInt8, e = .returned (.tuple #[.agg (bvs b).toArray, .int .i64 (dRight n D at_)]) ∧ (dRight n D at_ = 0 → D.now[at_.toNat]? = some b) ∧ (dRight n D at_ ≠ 0 → b = zero64)) ∧ Below w.heap.size w w' := by
 have hz : HC (w.alloc (.cells (bvs zero64).toArray 36)) w.heap.size (bvs zero64) := HC.new
 have hbA : Below w.heap.size w (w.alloc (.cells (bvs zero64).toArray 36)) := (Below.refl _ _).alloc (Nat.le_refl _) _
 have hA := h.below hbA
 have hc3 : (w.alloc (.cells #[.int .u8 0, .int .u8 0, .int .u8 0, .int .u8 0, .int .u8 0, .int .u8 0, .int .u8 0, .int .u8 0, .int .u8 0, .int .u8 0, .int .u8 0, .int .u8 0, .int .u8 0, .int .u8 0, .int .u8 0, .int .u8 0, .int .u8 0, .int .u8 0, .int .u8 0, .int .u8 0, .int .u8 0, .int .u8 0, .int .u8 0, .int .u8 0, .int .u8 0, .int .u8 0, .int .u8 0, .int .u8 0, .int .u8 0, .int .u8 0, .int .u8 0, .int .u8 0, .int .u8 0, .int .u8 0, .int .u8 0, .int .u8 0, .int .u8 0, .int .u8 0, .int .u8 0, .int .u8 0, .int .u8 0, .int .u8 0, .int .u8 0, .int .u8 0, .int .u8 0, .int .u8 0, .int .u8 0, .int .u8 0, .int .u8 0, .int .u8 0, .int .u8 0, .int .u8 0, .int .u8 0, .int .u8 0, .int .u8 0, .int .u8 0, .int .u8 0, .int .u8 0, .int .u8 0, .int .u8 0, .int .u8 0, .int .u8 0, .int .u8 0, .int .u8 0] 36)).cell? ⟨g, 3, none⟩ = some (.bool D.off) := hA.cells.2.2.2.1
 obtain ⟨o, ho⟩ : ∃ z, z = D.off := ⟨_, rfl⟩
 rw [← ho] at hc3
 cases o with
 | true =>
  have hr : dRight n D at_ = 7 := by unfold dRight; rw [if_pos ho.symm]
  clear ho hbA
  have Hroom := Lib.hid (hz.room (m := zero64) zero64_length zero64_length)
  have hfin := hz.puts (vs := bvs zero64) (o := 0) (by rw [bvs_length, zero64_length]; omega)
  rw [splice_all _ _ rfl] at hfin
  have Hfin := Lib.hid hfin
  have Hsz := Lib.hid (size64_of zero64_length)
  have HR := Lib.hid hr
  clear hz hfin h hA hr
  go_enter Try.func57, Try.ntmps57
  go_wp2_with (first
   | (refine wpList_store_mid rfl 36 (.tmp 4) (.tmp 10) rfl w.heap.size 0 (bvs zero64).toArray rfl rfl Hroom.out (by simpa using Hsz.out) (all_oneCell_toArray (bs_oneCell _)) ?_)
   | fail)
  refine bodyPost_ret (results_row2 rfl Hfin.out rfl rfl Try.underlying36 rfl Hsz.out) rfl ⟨⟨zero64, (by rw [HR.out]; rfl), (fun e => absurd e (by rw [HR.out]; decide)), (fun _ => rfl)⟩, ?_⟩
  exact ((Below.refl _ _).alloc (Nat.le_refl _) _).trans ((setCells_kept _ _ _ _).below (fun j hj e => by omega) (by simp))
 | false =>
  have hbl := pblock_any (w.alloc (.cells (bvs zero64).toArray 36)) g gs vo n D hA at_
  by_cases hin : 0 ≤ at_ ∧ at_ < (n : Int)
  ·
   rw [decide_eq_true hin] at hbl
   have hr : dRight n D at_ = 0 := by unfold dRight; rw [if_neg (by rw [← ho]; decide), if_neg (by omega)]
   obtain ⟨k, rfl⟩ : ∃ k : Nat, at_ = (k : Int) := ⟨at_.toNat, by omega⟩
   have hse := psee_any (w.alloc (.cells (bvs zero64).toArray 36)) g gs vo n D hA k (by omega)
   have HR := Lib.hid hr
   have HZ := Lib.hid hz
   have HFU := Lib.hid hfull
   have HBA := Lib.hid hbA
   clear hz h hA hr hfull ho hin hbA
   go_enter Try.func57, Try.ntmps57
   go_wp2_with fail
   refine hbl.mono ?_
   clear hbl
   rintro e w1 ⟨rfl, rfl⟩
   clear hc3
   go_wp2_with fail
   refine hse.mono ?_
   clear hse
   rintro e w2 ⟨⟨b, rfl, hb64, hbk⟩, hb2⟩
   have hz2 := HZ.out.below hb2
   have Hroom := Lib.hid (hz2.room (m := b) zero64_length hb64)
   have hfin := hz2.puts (vs := bvs b) (o := 0) (by rw [bvs_length, bvs_length, hb64, zero64_length]; omega)
   rw [splice_all _ _ (by rw [hb64, zero64_length])] at hfin
   have Hfin := Lib.hid hfin
   have Hsz := Lib.hid (size64_of hb64)
   have HBK := Lib.hid hbk
   have HB2 := Lib.hid (HBA.out.trans (hb2.mono HBA.out.size))
   clear hz2 hfin hb64 hbk hb2
   go_wp2_with (first
    | (refine wpList_store_mid rfl 36 (.tmp 4) (.tmp 18) rfl w.heap.size 0 (bvs b).toArray rfl rfl Hroom.out (by simpa using Hsz.out) (all_oneCell_toArray (bs_oneCell _)) ?_)
    | fail)
   refine bodyPost_ret (results_row2 rfl Hfin.out rfl rfl Try.underlying36 rfl Hsz.out) rfl ⟨⟨b, (by rw [HR.out]; rfl), (fun _ => by rw [Int.toNat_natCast, HFU.out]; exact HBK.out), (fun e => absurd HR.out e)⟩, ?_⟩
   exact HB2.out.trans ((setCells_kept _ _ _ _).below (fun j hj e => by omega) HB2.out.size)
  ·
   rw [decide_eq_false hin] at hbl
   have hr : dRight n D at_ = 3 := by unfold dRight; rw [if_neg (by rw [← ho]; decide), if_pos (by omega)]
   clear hin ho hbA
   have Hroom := Lib.hid (hz.room (m := zero64) zero64_length zero64_length)
   have hfin := hz.puts (vs := bvs zero64) (o := 0) (by rw [bvs_length, zero64_length]; omega)
   rw [splice_all _ _ rfl] at hfin
   have Hfin := Lib.hid hfin
   have Hsz := Lib.hid (size64_of zero64_length)
   have HR := Lib.hid hr
   clear hz hfin h hA hr
   go_enter Try.func57, Try.ntmps57
   go_wp2_with fail
   refine hbl.mono ?_
   clear hbl
   rintro e w1 ⟨rfl, rfl⟩
   go_wp2_with (first
    | (refine wpList_store_mid rfl 36 (.tmp 4) (.tmp 15) rfl w.heap.size 0 (bvs zero64).toArray rfl rfl Hroom.out (by simpa using Hsz.out) (all_oneCell_toArray (bs_oneCell _)) ?_)
    | fail)
   refine bodyPost_ret (results_row2 rfl Hfin.out rfl rfl Try.underlying36 rfl Hsz.out) rfl ⟨⟨zero64, (by rw [HR.out]; rfl), (fun e => absurd e (by rw [HR.out]; decide)), (fun _ => rfl)⟩, ?_⟩
   exact ((Below.refl _ _).alloc (Nat.le_refl _) _).trans ((setCells_kept _ _ _ _).below (fun j hj e => by omega) (by simp))
end Cam
