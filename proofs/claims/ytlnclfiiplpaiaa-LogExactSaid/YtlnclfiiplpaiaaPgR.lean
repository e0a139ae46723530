import Derived.Test.YtlnclfiiplpaiaaJnAz
import Derived.Test.YtlnclfiiplpaiaaJnQ
/- the page's journal: Row. -/
namespace Cam
open Go Go.RowKit Go.Proofs
def rowBad : Value := .tuple #[.int .i64 0, .int .i64 0, .slice none 0 0, .int .i64 0, .bool false]
def RowPost (w : World) (L : List (List UInt8)) (e : Ending) (w' : World) : Prop :=
 (stands L ∧ ∃ v, e = .returned (.tuple #[.int .i64 (rowG L : Int), .int .i64 (rowK L : Int), v, .int .i64 (rowN L : Int), .bool true]) ∧ OwnB 5 w' w.heap.size v (rowP L) ∧ Below w.heap.size w w') ∨
 (¬ stands L ∧ (∃ (a b : Int) (v : Value) (d : Int), e = .returned (.tuple #[.int .i64 a, .int .i64 b, v, .int .i64 d, .bool false])) ∧ Below w.heap.size w w')
set_option maxHeartbeats 6400000 in
set_option maxRecDepth 100000 in
theorem prow_any (w : World) (g gs : Nat) (vo : Value) (n : Nat) (D : DK) (h : PMem w g gs vo n D) (hfull : D.now = sets D.syn D.op) (half at_ : Nat) (hh : half ≤ 1) :
  Calls Try.prog 74 #[.pointer (some ⟨g, 0, none⟩), .int .i64 (half : Int), .int .i64 (at_ : Int)] w (RowPost w ((halfOf D.now (half * (n / 2)) (n / 2)).drop at_)) := by
 obtain ⟨m, hm⟩ : ∃ z, z = n / 2 := ⟨_, rfl⟩
 obtain ⟨L, hL⟩ : ∃ z, z = (halfOf D.now (half * (n / 2)) (n / 2)).drop at_ := ⟨_, rfl⟩
 rw [← hL]
 have hnl := h.ok.now
 have hn1 := h.ok.n1
 have hm2 : half * m + m ≤ n := by
  rcases (by omega : half = 0 ∨ half = 1) with e | e
  ·
   rw [e]; omega
  ·
   rw [e]; omega
 have hLl : L.length = m - at_ := by
  rw [hL]
  unfold halfOf
  rw [List.length_drop, List.length_take, List.length_drop, hnl.1, ← hm]
  omega
 have hLg : ∀ i, i < m - at_ → ∃ b, L[i]? = some b ∧ D.now[half * m + at_ + i]? = some b ∧ b.length = 64 := fun i hi => by
  have hlt : half * m + at_ + i < D.now.length := by rw [hnl.1]; omega
  refine ⟨D.now[half * m + at_ + i], ?_, List.getElem?_eq_getElem hlt, hnl.2 _ (List.getElem_mem hlt)⟩
  rw [hL, List.getElem?_drop, halfOf_get, ← hm, if_pos (by omega), ← List.getElem?_eq_getElem hlt]
  congr 1
  omega
 have hL64 : ∀ b ∈ L, b.length = 64 := fun b hb => by
  obtain ⟨i, hi, rfl⟩ := List.getElem_of_mem hb
  obtain ⟨b2, k1, _, k3⟩ := hLg i (by omega)
  rw [List.getElem?_eq_getElem hi] at k1
  rw [Option.some.inj k1]
  exact k3
 have hc0 := h.cells.1
 have hdv : (n : Int).tdiv 2 = (m : Int) := by rw [Int.tdiv_eq_ediv_of_nonneg (by omega)]; omega
 have hdv2 : (n : Int) / 2 = (m : Int) := by omega
 have HP := Lib.hid h
 have HFU := Lib.hid hfull
 have HLL0 := Lib.hid hLl
 have HLG := Lib.hid hLg
 have HL64 := Lib.hid hL64
 have hm3 : (0 : Int) ≤ m ∧ (m : Int) ≤ 65536 ∧ (0 : Int) ≤ n ∧ (n : Int) ≤ 65536 := by omega
 clear h hfull hm hL hnl hLl hLg hL64
 by_cases hat : m ≤ at_
 ·
  have hat' : (m : Int) ≤ at_ := by omega
  have HNO : Hid (¬ stands L) := fun hs => hs.1 (List.length_eq_zero_iff.1 (by rw [HLL0.out]; omega))
  clear hm2
  go_enter Try.func74, Try.ntmps74
  go_wp2_with fail
  refine bodyPost_ret (v := rowBad) (by simp [results, rowBad, Try.results74, go_sem]) rfl (Or.inr ⟨HNO.out, ⟨0, 0, .slice none 0 0, 0, rfl⟩, Below.refl _ _⟩)
 ·
  have hat' : decide ((m : Int) ≤ (at_ : Int)) = false := by simp; omega
  obtain ⟨x, hLx, hxn, hx64⟩ := HLG.out 0 (by omega)
  rw [Nat.add_zero] at hxn
  obtain ⟨L1, hL1⟩ : ∃ L1, L = x :: L1 := by
   cases L with
   | nil => simp at hLx
   | cons a r => simp at hLx; exact ⟨r, by rw [hLx]⟩
  obtain ⟨fr, hfr0⟩ : ∃ z, z = half * m := ⟨_, rfl⟩
  have hfr : (half : Int) * (m : Int) = (fr : Int) := by rw [hfr0]; push_cast; rfl
  rw [← hfr0] at hm2 hxn HLG
  have hse := psee_any w g gs vo n D HP.out (fr + at_) (by omega)
  rw [show ((fr + at_ : Nat) : Int) = (fr : Int) + at_ from by push_cast; rfl] at hse
  have hfa : (0 : Int) ≤ fr ∧ (fr : Int) + m ≤ n ∧ (0 : Int) ≤ at_ ∧ (at_ : Int) < m := by omega
  have HXN := Lib.hid hxn
  have HX64 := Lib.hid hx64
  have HLX := Lib.hid hL1
  clear hLx hxn hx64 hL1 hfr0
  go_enter Try.func74, Try.ntmps74
  go_wp2_with fail
  (with_reducible refine hse.mono ?_)
  clear hse
  rintro e w2 ⟨⟨b, rfl, hb64, hbk⟩, hb2⟩
  obtain rfl : b = x := by
   rw [← HFU.out, HXN.out] at hbk
   exact (Option.some.inj hbk).symm
  obtain ⟨q1, q2, q3⟩ := box_world1 w2 b HX64.out
  obtain ⟨W1, hW1⟩ : ∃ z, z = ((w2.alloc (.cells (bvs zero64).toArray 36)).setCells w2.heap.size 0 (bvs b)) := ⟨_, rfl⟩
  rw [← hW1] at q1 q2
  have HW1 := Lib.hid hW1
  have HQ2 := Lib.hid q2
  have HQ3 := Lib.hid q3
  have HBW1 : Hid (Below w.heap.size w W1) := hb2.trans (q1.mono hb2.size)
  have Hsz := Lib.hid (size64_of HX64.out)
  have hhe := refHead_any W1 (.slice (some ⟨w2.heap.size, 1, none⟩) 62 63) (mid b) (q2.mid HX64.out)
  have HG2 : Hid (w2.heap.size < W1.heap.size ∧ w.heap.size ≤ w2.heap.size) := ⟨q2.lt, hb2.size⟩
  clear hb64 hbk hb2 q1 q2 q3 hW1 hc0
  go_wp2_with (first
   | (refine wpList_store_mid rfl 36 (.tmp 12) (.tmp 31) rfl w2.heap.size 0 (bvs b).toArray rfl rfl HQ3.out (by simpa using Hsz.out) (all_oneCell_toArray (bs_oneCell _)) ?_; change wpList _ _ _ _ _ ((w2.alloc (.cells (bvs zero64).toArray 36)).setCells w2.heap.size 0 (bvs b)); rw [← HW1.out])
   | fail)
  (with_reducible refine hhe.mono ?_)
  clear hhe
  rintro e w3 hpost
  rcases hpost with ⟨hhd, rfl, hb3⟩ | ⟨hhd, rfl, hb3⟩
  ·
   have HHD := Lib.hid hhd
   have HB3 := Lib.hid (HBW1.out.next hb3)
   have HC3 := Lib.hid (HQ2.out.below hb3)
   obtain ⟨gx, hgx⟩ : ∃ z, z = w2.heap.size := ⟨_, rfl⟩
   rw [← hgx] at HC3 HG2
   rw [← hgx]
   have HG3 : Hid (gx < w3.heap.size ∧ w.heap.size ≤ gx) := ⟨by have := hb3.size; have := HG2.out.1; omega, HG2.out.2⟩
   obtain ⟨G, hG⟩ : ∃ z, z = fGen (mid b) := ⟨_, rfl⟩
   obtain ⟨K, hK⟩ : ∃ z, z = fNo (mid b) := ⟨_, rfl⟩
   obtain ⟨sz, hsz⟩ : ∃ z, z = fSize (mid b) := ⟨_, rfl⟩
   rw [← hG, ← hK, ← hsz]
   have HG40 : Hid (G ≤ 1099511627776) := by show _ ≤ _; rw [hG]; exact hhd.2.2.1
   have hsz6 : sz ≤ 65536 := by rw [hsz]; exact hhd.2.2.2.2
   obtain ⟨Rn, hRn⟩ : ∃ z, z = needN (sz + 21) := ⟨_, rfl⟩
   have hrn : rowN L = Rn := by
    rw [HLX.out, hRn, hsz]
    show needN (21 + hSize b) = _
    have := hSize_mid b [] HX64.out
    rw [List.append_nil] at this
    rw [this, Nat.add_comm]
   have hbl := pBlocks_any w3 (sz + 21) (by omega)
   rw [show ((sz + 21 : Nat) : Int) = (sz : Int) + 21 from by push_cast; rfl, ← hRn] at hbl
   have HGG := Lib.hid hG
   have HRN := Lib.hid hrn
   have hsz0 : (0 : Int) ≤ sz ∧ (sz : Int) ≤ 65536 := by omega
   have hRn0 : (0 : Int) ≤ Rn ∧ (Rn : Int) ≤ 2000 := by rw [hRn]; unfold needN; omega
   clear hhd hb3 hgx hG hK hsz hRn hrn
   go_wp2_with fail
   (with_reducible refine hbl.mono ?_)
   clear hbl
   rintro e w4 ⟨rfl, rfl⟩
   by_cases hro : (m : Int) - at_ < Rn
   ·
    go_wp2_with fail
    refine bodyPost_ret (v := rowBad) (by simp [results, rowBad, Try.results74, go_sem]) rfl (Or.inr ⟨(fun hs => by have h1 := hs.2.2.2.1; rw [HRN.out, HLL0.out] at h1; omega), ⟨0, 0, .slice none 0 0, 0, rfl⟩, HB3.out⟩)
   ·
    have hro' : decide ((m : Int) - at_ < Rn) = false := by simp; omega
    have hRm : Rn ≤ m - at_ := by omega
    obtain ⟨x1, hx1⟩ : ∃ z, z = w3 := ⟨_, rfl⟩
    rw [← hx1] at HB3 HC3 HG3
    have HGX : Hid (gx < x1.heap.size) := HG3.out.1
    have HX1W : Hid (w.heap.size ≤ x1.heap.size) := HB3.out.size
    go_wp2_with fail
    rw [← hx1]
    clear hx1
    go_loopw [6, 9, 15, 16] (fun s6 s9 v i wr => ∃ (j : Nat) (a : Option Addr) (q c : Nat) (l cur : List UInt8), j ≤ Rn ∧ s6 = .int .i64 (G : Int) ∧ s9 = .int .i64 (Rn : Int) ∧ i = .int .i64 j ∧ v = .slice a q c ∧ OwnB 5 wr x1.heap.size (.slice a q c) l ∧ HC wr gx (bvs cur) ∧ Hid (l = mids (L.take j) ∧ cur.length = 64 ∧ ∀ y ∈ L.take j, isMk G y) ∧ Below w.heap.size w wr ∧ Hid (x1.heap.size ≤ wr.heap.size)) (fun _ _ _ i _ => Rn - (intOf i).toNat)
    case atStart => exact ⟨0, none, 0, 0, [], b, by omega, rfl, rfl, rfl, rfl, OwnB.empty _ _ _, HC3.out, ⟨by simp [mids], HX64.out, by simp⟩, HB3.out, Nat.le_refl _⟩
    case round =>
     obtain ⟨j, a, q, c, l, cur, hj, rfl, rfl, rfl, rfl, ho, hcu, HREL, hbw, HSZ0⟩ := hrel
     have HO := Lib.hid ho
     have HCU := Lib.hid hcu
     have HBr := Lib.hid hbw
     clear ho hcu hbw
     by_cases hjl : j < Rn
     ·
      obtain ⟨y, hLy, hyn, hy64⟩ := HLG.out j (by omega)
      have hse := psee_any wr g gs vo n D (HP.out.below HBr.out) (fr + at_ + j) (by omega)
      rw [show ((fr + at_ + j : Nat) : Int) = (fr : Int) + at_ + j from by push_cast; rfl] at hse
      have hj0 : (0 : Int) ≤ j ∧ (j : Int) < Rn ∧ (fr : Int) + at_ + j < n := by omega
      have hLlt : j < L.length := by rw [HLL0.out]; omega
      have htk : L.take (j + 1) = L.take j ++ [y] := by
       rw [List.take_succ_eq_append_getElem hLlt]
       rw [List.getElem?_eq_getElem hLlt] at hLy
       rw [Option.some.inj hLy]
      have HTK := Lib.hid htk
      have HY64 := Lib.hid hy64
      have HYN := Lib.hid hyn
      have HYM : Hid (y ∈ L.take Rn) := by
       show _ ∈ _
       refine List.mem_of_getElem? (i := j) ?_
       rw [List.getElem?_take_of_lt hjl, hLy]
      have HLL : Hid (l.length ≤ 200000) := by
       show _ ≤ _
       rw [HREL.out.1]
       have h1 : ∀ (M : List (List UInt8)), (mids M).length ≤ M.length * 62 := fun M => by
        induction M with
        | nil => simp [mids]
        | cons a r ih =>
         have : (mids (a :: r)).length = (mid a).length + (mids r).length := by simp [mids]
         rw [this, List.length_cons, Nat.succ_mul]
         have h2 : (mid a).length ≤ 62 := by unfold mid; rw [List.length_take]; omega
         omega
       have h2 := h1 (L.take j)
       rw [List.length_take] at h2
       have : min j L.length * 62 ≤ 2000 * 62 := Nat.mul_le_mul_right _ (by omega)
       omega
      clear hLy hyn hy64 htk
      go_wp2_with fail
      (with_reducible refine hse.mono ?_)
      clear hse
      rintro e wS ⟨⟨b2, rfl, hb64, hbk⟩, hbS⟩
      obtain rfl : b2 = y := by
       rw [← HFU.out, HYN.out] at hbk
       exact (Option.some.inj hbk).symm
      have hrm := (HCU.out.below hbS).room HREL.out.2.1 HY64.out
      have HRM := Lib.hid hrm
      have Hsz2 := Lib.hid (size64_of HY64.out)
      have hcy : HC (wS.setCells gx 0 (bvs b2)) gx (bvs b2) := by
       have h9 := (HCU.out.below hbS).puts (vs := bvs b2) (o := 0) (by rw [bvs_length, bvs_length, HY64.out, HREL.out.2.1]; omega)
       rw [splice_all _ _ (by rw [HY64.out, HREL.out.2.1])] at h9
       exact h9
      have hkS : Kept (fun z => z = gx) wS (wS.setCells gx 0 (bvs b2)) := setCells_kept _ _ _ _
      have how : OwnB 5 (wS.setCells gx 0 (bvs b2)) x1.heap.size (.slice a q c) l := (OwnB.below HO.out hbS).keptJ hkS (fun z hz e => by have := (World.ownsRow.lt HO.out z hz).1; have := HGX.out; omega)
      have hbw : Below w.heap.size w (wS.setCells gx 0 (bvs b2)) := (HBr.out.next hbS).trans (hkS.below (fun z hz e => by have := HG3.out.2; omega) (HBr.out.next hbS).size)
      obtain ⟨W, hW⟩ : ∃ z, z = wS.setCells gx 0 (bvs b2) := ⟨_, rfl⟩
      rw [← hW] at hcy how hbw
      have HSZ : Hid (x1.heap.size ≤ W.heap.size) := by show _ ≤ _; rw [hW]; exact Nat.le_trans HSZ0.out (Nat.le_trans hbS.size hkS.size)
      have HWN := Lib.hid hW
      have HCW := Lib.hid hcy
      have HOW := Lib.hid how
      have HBW := Lib.hid hbw
      obtain ⟨c0, hc0⟩ : ∃ z, b2[0]? = some z := ⟨_, List.getElem?_eq_getElem (by rw [HY64.out]; omega)⟩
      obtain ⟨c63, hc63⟩ : ∃ z, b2[63]? = some z := ⟨_, List.getElem?_eq_getElem (by rw [HY64.out]; omega)⟩
      have HY0 := Lib.hid hc0
      have HY63 := Lib.hid hc63
      have HC0 : Hid (W.cell? ⟨gx, 0, none⟩ = some (.int .u8 (c0.toNat : Int))) := hcy.cell (by unfold bvs; rw [List.getElem?_map, hc0]; rfl)
      have HC63 : Hid (W.cell? ⟨gx, 63, none⟩ = some (.int .u8 (c63.toNat : Int))) := hcy.cell (by unfold bvs; rw [List.getElem?_map, hc63]; rfl)
      obtain ⟨b0, hb0⟩ : ∃ z : Bool, ((c0.toNat : Int) != ((markB G).toNat : Int)) = z := ⟨_, rfl⟩
      obtain ⟨b1, hb1⟩ : ∃ z : Bool, ((c63.toNat : Int) != ((markB G).toNat : Int)) = z := ⟨_, rfl⟩
      have HB0 := Lib.hid hb0
      have HB1 := Lib.hid hb1
      clear hb64 hbk hbS hrm hcy hkS how hbw hW hc0 hc63 hb0 hb1
      go_wp2_with (first
       | (refine wpList_store_mid rfl 36 (.tmp 12) (.tmp 62) rfl gx 0 (bvs b2).toArray rfl rfl HRM.out (by simpa using Hsz2.out) (all_oneCell_toArray (bs_oneCell _)) ?_)
       | fail)
      rw [← HWN.out]
      refine wp_region_bl 12 (by kernel_rfl) ?_
      refine wpAnyU_take (i := 0) (oi := { dst := some 63, op := Op.indexAddr 36 (Operand.tmp 12) (Operand.const (Value.int IntKind.i64 0)), type := 0, pos := "ref.go:162", after := #[], guard := none }) (v := (.pointer (some ⟨gx, 0, none⟩))) rfl (by kernel_rfl) (by kernel_rfl) (by kernel_rfl) (by kernel_rfl) (by kernel_rfl) (fun _ _ _ h => h) (BL.cls W) ?_ ?_
      ·
       refine Or.inl ⟨rfl, fun w hSw => ?_⟩
       exact EffR.same (by go_simp)
      try simp only [Act.put, zA, zB, zC]
      refine wpAnyU_take (i := 1) (oi := { dst := some 64, op := Op.load 5 (Operand.tmp 63), type := 5, pos := "ref.go:162", after := #[{ on := 0, ground := Ground.data }], guard := none }) (v := (.int .u8 (c0.toNat : Int))) rfl (by kernel_rfl) (by kernel_rfl) (by kernel_rfl) (by kernel_rfl) (by kernel_rfl) (fun _ _ _ h => h) (BL.cls W) ?_ ?_
      ·
       refine Or.inl ⟨rfl, fun w hSw => ?_⟩
       have e0 := BL.cell hSw HC0.out
       exact EffR.same (by go_simp)
      try simp only [Act.put, zA, zB, zC]
      refine wpAnyU_take (i := 2) (oi := { dst := some 65, op := Op.move (Operand.tmp 6), type := 3, pos := "ref.go:162", after := #[], guard := none }) (v := (.int .i64 (G : Int))) rfl (by kernel_rfl) (by kernel_rfl) (by kernel_rfl) (by kernel_rfl) (by kernel_rfl) (fun _ _ _ h => h) (BL.cls W) ?_ ?_
      ·
       refine Or.inl ⟨rfl, fun w hSw => ?_⟩
       exact EffR.same (by go_simp)
      try simp only [Act.put, zA, zB, zC]
      refine wpAnyU_take (i := 3) (oi := { dst := some 66, op := Op.call { callee := Callee.value (Operand.func 75), args := #[Operand.tmp 65], argTypes := #[3] }, type := 5, pos := "ref.go:162", after := #[{ on := 2, ground := Ground.data }], guard := none }) (v := (.int .u8 ((markB G).toNat : Int))) rfl (by kernel_rfl) (by kernel_rfl) (by kernel_rfl) (by kernel_rfl) (by kernel_rfl) (fun _ _ _ h => h) (BL.cls W) ?_ ?_
      ·
       refine Or.inl ⟨rfl, fun w hSw => ?_⟩
       go_simp
       show Calls _ _ _ _ _
       refine (pMark_any _ G HG40.out).mono ?_
       rintro e w1 ⟨rfl, rfl⟩
       exact ⟨rfl, Below.refl _ _⟩
      try simp only [Act.put, zA, zB, zC]
      refine wpAnyU_take (i := 4) (oi := { dst := some 67, op := Op.binOp BinOp.neq 5 (Operand.tmp 64) (Operand.tmp 66) 5, type := 4, pos := "ref.go:162", after := #[{ on := 1, ground := Ground.data }, { on := 3, ground := Ground.data }], guard := none }) (v := (.bool b0)) rfl (by kernel_rfl) (by kernel_rfl) (by kernel_rfl) (by kernel_rfl) (by kernel_rfl) (fun _ _ _ h => h) (BL.cls W) ?_ ?_
      ·
       refine Or.inl ⟨rfl, fun w hSw => ?_⟩
       have e0 := HB0.out
       exact EffR.same (by go_simp)
      try simp only [Act.put, zA, zB, zC]
      refine wpAnyU_take (i := 5) (oi := { dst := some 68, op := Op.move (Operand.tmp 67), type := 4, pos := "ref.go:162", after := #[{ on := 4, ground := Ground.data }, { on := 3, ground := Ground.chain }], guard := none }) (v := (.bool b0)) rfl (by kernel_rfl) (by kernel_rfl) (by kernel_rfl) (by kernel_rfl) (by kernel_rfl) (fun _ _ _ h => h) (BL.cls W) ?_ ?_
      ·
       refine Or.inl ⟨rfl, fun w hSw => ?_⟩
       exact EffR.same (by go_simp)
      try simp only [Act.put, zA, zB, zC]
      refine wpAnyU_take (i := 6) (oi := { dst := some 69, op := Op.indexAddr 36 (Operand.tmp 12) (Operand.const (Value.int IntKind.i64 63)), type := 0, pos := "ref.go:162", after := #[{ on := 5, ground := Ground.guard }], guard := some (5, false) }) (v := (cond ((!(b0))) (.pointer (some ⟨gx, 63, none⟩)) undef)) rfl (by kernel_rfl) (by kernel_rfl) (by kernel_rfl) (by kernel_rfl) (by kernel_rfl) (fun _ _ _ h => h) (BL.cls W) ?_ ?_
      ·
       cases b0 <;> first | exact Or.inr ⟨rfl, rfl⟩ | (refine Or.inl ⟨rfl, fun w hSw => ?_⟩; exact EffR.same (by go_simp))
      try simp only [Act.put, zA, zB, zC]
      refine wpAnyU_take (i := 7) (oi := { dst := some 70, op := Op.load 5 (Operand.tmp 69), type := 5, pos := "ref.go:162", after := #[{ on := 6, ground := Ground.data }, { on := 5, ground := Ground.guard }], guard := some (5, false) }) (v := (cond ((!(b0))) (.int .u8 (c63.toNat : Int)) undef)) rfl (by kernel_rfl) (by kernel_rfl) (by kernel_rfl) (by kernel_rfl) (by kernel_rfl) (fun _ _ _ h => h) (BL.cls W) ?_ ?_
      ·
       cases b0 <;> first | exact Or.inr ⟨rfl, rfl⟩ | (refine Or.inl ⟨rfl, fun w hSw => ?_⟩; have e0 := BL.cell hSw HC63.out; exact EffR.same (by go_simp))
      try simp only [Act.put, zA, zB, zC]
      refine wpAnyU_take (i := 8) (oi := { dst := some 71, op := Op.move (Operand.tmp 6), type := 3, pos := "ref.go:162", after := #[{ on := 5, ground := Ground.guard }], guard := some (5, false) }) (v := (cond ((!(b0))) (.int .i64 (G : Int)) undef)) rfl (by kernel_rfl) (by kernel_rfl) (by kernel_rfl) (by kernel_rfl) (by kernel_rfl) (fun _ _ _ h => h) (BL.cls W) ?_ ?_
      ·
       cases b0 <;> first | exact Or.inr ⟨rfl, rfl⟩ | (refine Or.inl ⟨rfl, fun w hSw => ?_⟩; exact EffR.same (by go_simp))
      try simp only [Act.put, zA, zB, zC]
      refine wpAnyU_take (i := 9) (oi := { dst := some 72, op := Op.call { callee := Callee.value (Operand.func 75), args := #[Operand.tmp 71], argTypes := #[3] }, type := 5, pos := "ref.go:162", after := #[{ on := 8, ground := Ground.data }, { on := 5, ground := Ground.chain }, { on := 5, ground := Ground.guard }], guard := some (5, false) }) (v := (cond ((!(b0))) (.int .u8 ((markB G).toNat : Int)) undef)) rfl (by kernel_rfl) (by kernel_rfl) (by kernel_rfl) (by kernel_rfl) (by kernel_rfl) (fun _ _ _ h => h) (BL.cls W) ?_ ?_
      ·
       cases b0 <;> first | exact Or.inr ⟨rfl, rfl⟩ | (refine Or.inl ⟨rfl, fun w hSw => ?_⟩; go_simp; show Calls _ _ _ _ _; refine (pMark_any _ G HG40.out).mono ?_; rintro e w1 ⟨rfl, rfl⟩; exact ⟨rfl, Below.refl _ _⟩)
      try simp only [Act.put, zA, zB, zC]
      refine wpAnyU_take (i := 10) (oi := { dst := some 73, op := Op.binOp BinOp.neq 5 (Operand.tmp 70) (Operand.tmp 72) 5, type := 4, pos := "ref.go:162", after := #[{ on := 7, ground := Ground.data }, { on := 9, ground := Ground.data }, { on := 5, ground := Ground.guard }], guard := some (5, false) }) (v := (cond ((!(b0))) (.bool b1) undef)) rfl (by kernel_rfl) (by kernel_rfl) (by kernel_rfl) (by kernel_rfl) (by kernel_rfl) (fun _ _ _ h => h) (BL.cls W) ?_ ?_
      ·
       cases b0 <;> first | exact Or.inr ⟨rfl, rfl⟩ | (refine Or.inl ⟨rfl, fun w hSw => ?_⟩; have e0 := HB1.out; exact EffR.same (by go_simp))
      try simp only [Act.put, zA, zB, zC]
      obtain ⟨x11, hx11⟩ : ∃ b : Bool, b = (b0 || b1) := ⟨_, rfl⟩
      have HX11 := Lib.hid hx11
      clear hx11
      refine wpAnyU_take (i := 11) (oi := { dst := some 74, op := Op.pick (Operand.tmp 68) (Operand.const (Value.bool true)) (Operand.tmp 73), type := 4, pos := "ref.go:162", after := #[{ on := 5, ground := Ground.data }, { on := 10, ground := Ground.data }], guard := none }) (v := (.bool x11)) rfl (by kernel_rfl) (by kernel_rfl) (by kernel_rfl) (by kernel_rfl) (by kernel_rfl) (fun _ _ _ h => h) (BL.cls W) ?_ ?_
      ·
       cases b0 <;> cases b1 <;> first | exact Or.inr ⟨rfl, rfl⟩ | (refine Or.inl ⟨rfl, fun w hSw => ?_⟩; have hx := HX11.out; simp at hx; subst hx; exact EffR.same (by go_simp))
      try simp only [Act.put, zA, zB, zC]
      refine wpAnyU_done (by kernel_rfl) (fun w1 hb1 => ?_) _
      have HWE := Lib.hid hb1
      clear hb1
      cases x11 with
      | true =>
       have HNM : Hid (¬ isMk G b2) := fun hm => by
        have h1 := HX11.out
        have h2 : b0 = false := by rw [← HB0.out]; have := hm.1; rw [HY0.out] at this; rw [Option.some.inj this]; simp
        have h3 : b1 = false := by rw [← HB1.out]; have := hm.2; rw [HY63.out] at this; rw [Option.some.inj this]; simp
        rw [h2, h3] at h1
        cases h1
       go_wp2_with fail
       refine bodyPost_ret (v := rowBad) (by simp [results, rowBad, Try.results74, go_sem]) rfl (Or.inr ⟨fun hs => HNM.out ?_, ⟨0, 0, .slice none 0 0, 0, rfl⟩, HBW.out.next HWE.out⟩)
       rw [HLX.out, stands_page HX64.out, ← HGG.out] at hs
       exact hs.2.2.1 b2 (by rw [← HLX.out, HRN.out]; exact HYM.out)
      | false =>
       have HIM : Hid (isMk G b2) := by
        have h1 := HX11.out
        have h2 : b0 = false ∧ b1 = false := by revert h1; clear HB0 HB1; cases b0 <;> cases b1 <;> simp
        have h4 : c0.toNat = (markB G).toNat := by have h3 := HB0.out; rw [h2.1] at h3; simp at h3; omega
        have h5 : c63.toNat = (markB G).toNat := by have h3 := HB1.out; rw [h2.2] at h3; simp at h3; omega
        exact ⟨by rw [HY0.out, UInt8.toNat_inj.1 h4], by rw [HY63.out, UInt8.toNat_inj.1 h5]⟩
       have hoz := HOW.out.below HWE.out
       have hmz := (HCW.out.below HWE.out).mid HY64.out
       have hle : l.length + (mid b2).length ≤ 140737488355328 := by rw [mid_length HY64.out]; have := HLL.out; omega
       have hzs : x1.heap.size ≤ w1.heap.size := Nat.le_trans HSZ.out (Below.size HWE.out)
       have HMZ := Lib.hid hmz
       have HOZ := Lib.hid hoz
       clear hmz hoz
       go_wp2_with (first
        | (at_builtin; refine wpList_append_bytes (l := l) (m := mid b2) rfl (.tmp 75) (.tmp 76) 22 rfl elem_u8 rfl rfl HOZ.out HMZ.out hle hzs ?_; intro a9 n9 c9 w9 Hn9 ho9 hb9 hg9)
        | fail)
       have HB9 : Hid (Below w.heap.size w w9) := (HBW.out.next HWE.out).trans (hb9.mono HX1W.out)
       have HO9 := Lib.hid ho9
       have HC9 := Lib.hid ((HCW.out.below HWE.out).kept (Kept.of_grown hg9) (fun e => by have := (World.ownsRow.lt HOZ.out gx e).1; have := HGX.out; omega))
       have HZ9 : Hid (x1.heap.size ≤ w9.heap.size) := Nat.le_trans hzs (Kept.of_grown hg9).size
       refine ⟨⟨j + 1, a9, n9, c9, l ++ mid b2, b2, by omega, rfl, rfl, by push_cast; rfl, rfl, HO9.out, HC9.out, ⟨?_, HY64.out, ?_⟩, HB9.out, HZ9⟩, by simp [intOf]; omega⟩
       ·
        rw [HTK.out, mids_append, HREL.out.1]
        congr 1
        simp [mids]
       ·
        intro y2 hy2
        rw [HTK.out] at hy2
        rcases List.mem_append.1 hy2 with e | e
        ·
         exact HREL.out.2.2 y2 e
        ·
         rw [List.mem_singleton] at e
         rw [e]
         exact HIM.out
     ·
      obtain rfl : j = Rn := by omega
      have hfi := refFirst_any wr (.slice a q c) l HO.out.bs
      go_wp2_with fail
      (with_reducible refine hfi.mono ?_)
      clear hfi
      rintro e w5 hpost
      rcases hpost with ⟨hfr5, v5, rfl, ho5, hb5⟩ | ⟨hfr5, rfl, hb5⟩
      ·
       have HS : Hid (stands L) := by
        show stands _
        have hrn := HRN.out
        have hfl : isFrame (rowBy L) := by unfold rowBy; rw [hrn, ← HREL.out.1]; exact hfr5
        rw [HLX.out] at hrn hfl
        rw [HLX.out]
        refine (stands_page HX64.out).2 ⟨HHD.out, by rw [hrn, ← HLX.out, HLL0.out]; omega, ?_, hfl⟩
        rw [hrn, ← HLX.out, ← HGG.out]
        exact HREL.out.2.2
       have hby : rowBy L = l := by unfold rowBy; rw [HRN.out]; exact HREL.out.1.symm
       have e1 : (fGen l : Int) = (rowG L : Int) := by unfold rowG; rw [hby]
       have e2 : (fNo l : Int) = (rowK L : Int) := by unfold rowK; rw [hby]
       have e3 : fBody l = rowP L := by unfold rowP; rw [hby]
       have e4 : (j : Int) = (rowN L : Int) := by rw [HRN.out]
       have HB5 := Lib.hid (HBr.out.next hb5)
       have HO5 : Hid (OwnB 5 w5 w.heap.size v5 (rowP L)) := by rw [← e3]; exact OwnB.base ho5 HBr.out.size
       have E4 := Lib.hid e4
       rw [e1, e2]
       clear hfr5 ho5 hb5 hby e1 e2 e3 e4
       go_wp2_with fail
       rw [E4.out]
       refine bodyPost_ret (v := .tuple #[.int .i64 (rowG L : Int), .int .i64 (rowK L : Int), v5, .int .i64 (rowN L : Int), .bool true]) (by simp [results, Try.results74, go_sem]) rfl (Or.inl ⟨HS.out, v5, rfl, HO5.out, HB5.out⟩)
      ·
       have HB5 := Lib.hid (HBr.out.next hb5)
       have HNO : Hid (¬ stands L) := fun hs => hfr5 (by
        have h1 := hs.2.2.2.2.2
        unfold rowBy at h1
        rw [HRN.out, ← HREL.out.1] at h1
        exact h1)
       clear hfr5 hb5
       unfold refBad
       go_wp2_with fail
       refine bodyPost_ret (v := .tuple #[.int .i64 0, .int .i64 0, .slice none 0 0, .int .i64 (j : Int), .bool false]) (by simp [results, Try.results74, go_sem]) rfl (Or.inr ⟨HNO.out, ⟨_, _, _, _, rfl⟩, HB5.out⟩)
  ·
   have HNO : Hid (¬ stands L) := fun hs => by
    rw [HLX.out, stands_page HX64.out] at hs
    exact hhd hs.1
   have HB3 := Lib.hid (HBW1.out.next hb3)
   clear hhd hb3
   unfold headBad
   go_wp2_with fail
   refine bodyPost_ret (v := rowBad) (by simp [results, rowBad, Try.results74, go_sem]) rfl (Or.inr ⟨HNO.out, ⟨0, 0, .slice none 0 0, 0, rfl⟩, HB3.out⟩)
end Cam
