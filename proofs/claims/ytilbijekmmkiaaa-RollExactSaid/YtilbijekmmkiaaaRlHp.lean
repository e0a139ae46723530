import Derived.Test.YtilbijekmmkiaaaRlH
/- roll: P. -/
namespace Cam
open Go Go.RowKit Go.Proofs
set_option maxRecDepth 100000 in
set_option maxHeartbeats 3200000 in
theorem Put_any (w : World) (va vb vc : Value) (R : RollT) (who st : Int) (h : RollIn w va vb vc R) (hf : few R) :
  Calls Try.prog 39 #[.agg #[va, vb, vc], .int .i64 who, .int .i64 st] w (RetPost w (stateR R who st)) := by
 have HR := Lib.hid h
 have HFEW := Lib.hid hf
 clear h hf
 obtain ⟨xo, hxo⟩ : ∃ z, z = fdX MbT.no mZ who R.M := ⟨_, rfl⟩
 obtain ⟨b, hb⟩ : ∃ z, z = hasB MbT.no who R.M := ⟨_, rfl⟩
 have HXO := Lib.hid hxo
 have HBB := Lib.hid hb
 obtain ⟨px, hpx⟩ : ∃ z : MbT, z = { xo with state := st } := ⟨_, rfl⟩
 obtain ⟨PL, hpl⟩ : ∃ z, z = putL MbT.no px R.M := ⟨_, rfl⟩
 have HPL0 := Lib.hid hpl
 have HPX := Lib.hid hpx
 have HPL : Hid (PL = putL MbT.no ({ xo with state := st }) R.M) := by show _ = _; rw [hpl, hpx]
 clear hpl hpx
 by_cases hc : chkR R = true
 ·
  have HCK : Hid (chkE R = 0) := by show _ = _; unfold chkE; simp [hc]
  by_cases hbt : b = true
  ·
   by_cases hwi : wB st 1 3 = true
   ·
    have HWI := Lib.hid hwi
    have HDF : Hid (stateR R who st = (0, { R with M := PL })) := by show _ = _; rw [HPL.out]; unfold stateR; simp [hc, ← hb, ← hxo, hbt, hwi]
    clear hxo hb hc hwi
    have hHRB : HT (w.alloc (.cells #[va, vb, vc] 26)) w.heap.size 26 [va, vb, vc] := by
     have := HT.new (w := w) (t := 26) (C := [va, vb, vc])
     exact this
    have hHRB := hHRB.below (w' := ((w.alloc (.cells #[va, vb, vc] 26)).alloc (.cells #[.slice none 0 0, .slice none 0 0, .slice none 0 0] 26))) ((Below.refl _ _).alloc (Nat.le_refl _) _)
    have HRB := Lib.hid hHRB
    clear hHRB
    have hHZB : HT ((w.alloc (.cells #[va, vb, vc] 26)).alloc (.cells #[.slice none 0 0, .slice none 0 0, .slice none 0 0] 26)) (w.heap.size + 1) 26 [.slice none 0 0, .slice none 0 0, .slice none 0 0] := by
     have := HT.new (w := (w.alloc (.cells #[va, vb, vc] 26))) (t := 26) (C := [.slice none 0 0, .slice none 0 0, .slice none 0 0])
     rwa [show (w.alloc (.cells #[va, vb, vc] 26)).heap.size = (w.heap.size + 1) by simp] at this
    have HZB := Lib.hid hHZB
    clear hHZB
    have hB : Below w.heap.size w ((w.alloc (.cells #[va, vb, vc] 26)).alloc (.cells #[.slice none 0 0, .slice none 0 0, .slice none 0 0] 26)) := (((Below.refl _ _).alloc (by simp <;> omega) _).alloc (by simp <;> omega) _)
    have HB := Lib.hid hB
    clear hB
    have hS : w.heap.size + 2 ≤ ((w.alloc (.cells #[va, vb, vc] 26)).alloc (.cells #[.slice none 0 0, .slice none 0 0, .slice none 0 0] 26)).heap.size := by simp <;> omega
    have HLE := Lib.hid hS
    clear hS
    go_enter Try.func39, Try.ntmps39
    go_upto_region 1 with fail
    generalize hW : ((w.alloc (.cells #[va, vb, vc] 26)).alloc (.cells #[.slice none 0 0, .slice none 0 0, .slice none 0 0] 26)) = W0 at *
    clear hW
    have HSZr : Hid ((Try.prog.info? 26).map (·.size) = some (#[va, vb, vc] : Array Value).size) := by show _ = _; rw [rol_sz]; rfl
    have HRBx : Hid (W0.heap[w.heap.size]? = some (.cells #[va, vb, vc] 26 (0, 0))) := HRB.out
    go_wp2_with (first
     | (refine wpList_load_row rfl 26 (.tmp 3) rfl w.heap.size rfl 26 #[va, vb, vc] (0, 0) _ HRBx.out Try.underlying26 rfl HSZr.out ?_)
     | fail)
    refine (Check_any _ va vb vc R (HR.out.mono HB.out)).mono ?_
    clear HRBx
    rintro e wc ⟨rfl, hb⟩
    have HRBn := Lib.hid (HRB.out.below hb)
    clear HRB
    have HRB := HRBn
    clear HRBn
    have HZBn := Lib.hid (HZB.out.below hb)
    clear HZB
    have HZB := HZBn
    clear HZBn
    have HBn := Lib.hid (bgo HB.out hb HB.out.size)
    clear HB
    have HB := HBn
    clear HBn
    have HLEn := Lib.hid (Nat.le_trans HLE.out (Below.size hb))
    clear HLE
    have HLE := HLEn
    clear HLEn
    clear hb
    rw [HCK.out]
    have HRBx : Hid (wc.heap[w.heap.size]? = some (.cells #[va, vb, vc] 26 (0, 0))) := HRB.out
    go_wp2_with (first
     | (refine wpList_load_row rfl 26 (.tmp 3) rfl w.heap.size rfl 26 #[va, vb, vc] (0, 0) _ HRBx.out Try.underlying26 rfl HSZr.out ?_)
     | fail)
    refine (Member_any _ va vb vc R.M who xo b (HR.out.1.mono HB.out) HXO.out HBB.out).mono ?_
    clear HRBx
    rintro e wf ⟨rfl, hb⟩
    have HRBn := Lib.hid (HRB.out.below hb)
    clear HRB
    have HRB := HRBn
    clear HRBn
    have HZBn := Lib.hid (HZB.out.below hb)
    clear HZB
    have HZB := HZBn
    clear HZBn
    have HBn := Lib.hid (bgo HB.out hb HB.out.size)
    clear HB
    have HB := HBn
    clear HBn
    have HLEn := Lib.hid (Nat.le_trans HLE.out (Below.size hb))
    clear HLE
    have HLE := HLEn
    clear HLEn
    clear hb
    have HSZ1 : Hid ((Try.prog.info? 33).map (·.size) = some (#[.int .i64 xo.no, .int .i64 xo.state, .int .i64 xo.need] : Array Value).size) := by show _ = _; rw [mem_sz]; rfl
    have HON1 : Hid ((#[.int .i64 xo.no, .int .i64 xo.state, .int .i64 xo.need] : Array Value).all (·.oneCell') = true) := by show _ = true; simp [Value.oneCell']
    go_upto_region 3 with (first
     | (refine wpList_store_row rfl 33 (.tmp 9) (.tmp 17) rfl wf.heap.size #[.int .i64 xo.no, .int .i64 xo.state, .int .i64 xo.need] rfl rfl 33 #[.int .i64 0, .int .i64 0, .int .i64 0] (heap_alloc_new _ _) HSZ1.out rfl HON1.out ?_)
     | fail)
    have hbs1 : Below wf.heap.size wf ((wf.alloc (.cells #[.int .i64 0, .int .i64 0, .int .i64 0] 33)).setRow wf.heap.size #[.int .i64 xo.no, .int .i64 xo.state, .int .i64 xo.need]) := ((Below.refl _ _).alloc (Nat.le_refl _) _).trans (setRow_below (Nat.le_refl _) _)
    have hx1 : HT ((wf.alloc (.cells #[.int .i64 0, .int .i64 0, .int .i64 0] 33)).setRow wf.heap.size #[.int .i64 xo.no, .int .i64 xo.state, .int .i64 xo.need]) wf.heap.size 33 [.int .i64 xo.no, .int .i64 xo.state, .int .i64 xo.need] := setRow_heap _ _ _ _ _ _ (heap_alloc_new _ _)
    have hbw1 := bgo HB.out hbs1 (Below.size HB.out)
    obtain ⟨W1, hW1⟩ : ∃ zz, zz = ((wf.alloc (.cells #[.int .i64 0, .int .i64 0, .int .i64 0] 33)).setRow wf.heap.size #[.int .i64 xo.no, .int .i64 xo.state, .int .i64 xo.need]) := ⟨_, rfl⟩
    rw [← hW1] at hbs1 hx1 hbw1 ⊢
    obtain ⟨gx1, hg1⟩ : ∃ zz, zz = wf.heap.size := ⟨_, rfl⟩
    rw [← hg1] at hx1 ⊢
    have HGE1 : Hid (∀ m, m ≤ wf.heap.size → m ≤ gx1) := fun m h => by omega
    have HX1 := Lib.hid hx1
    have HBW1 := Lib.hid hbw1
    have HBS1 := Lib.hid hbs1
    clear hW1 hx1 hbw1 hbs1 hg1 HON1
    have HGHF : Hid (w.heap.size + 2 ≤ gx1) := HGE1.out _ HLE.out
    clear HBW1 HGE1
    have HRBn := Lib.hid (HRB.out.below HBS1.out)
    clear HRB
    have HRB := HRBn
    clear HRBn
    have HZBn := Lib.hid (HZB.out.below HBS1.out)
    clear HZB
    have HZB := HZBn
    clear HZBn
    have HBn := Lib.hid (bgo HB.out HBS1.out HB.out.size)
    clear HB
    have HB := HBn
    clear HBn
    have HLEn := Lib.hid (Nat.le_trans HLE.out (Below.size HBS1.out))
    clear HLE
    have HLE := HLEn
    clear HLEn
    clear HBS1
    have HF := HX1
    clear HX1 HSZ1
    go_wp2_with fail
    refine (within_any _ st 1 3).mono ?_
    rintro e w9 ⟨rfl, rfl⟩
    rw [HWI.out]
    have hc4 := HF.out.cell (j := 1) rfl
    have hf4 := HF.out.frozen 1
    go_upto_region 10 with fail
    clear hc4 hf4
    have hk : Kept (fun k => k = gx1) W1 (W1.setCell ⟨gx1, 1, none⟩ (.int .i64 st)) := (Kept.refl _ _).setCell ⟨gx1, 1, none⟩ _ rfl
    have hHF := Lib.hid ((HF.out.put 1 (.int .i64 st) : HT (W1.setCell ⟨gx1, 1, none⟩ (.int .i64 st)) gx1 33 [.int .i64 xo.no, .int .i64 st, .int .i64 xo.need]))
    have hHRB := Lib.hid (HRB.out.keptS hk (fun (e : w.heap.size = gx1) => by have := HGHF.out; omega))
    have hHZB := Lib.hid (HZB.out.keptS hk (fun (e : (w.heap.size + 1) = gx1) => by have := HGHF.out; omega))
    have hB : Hid (Below w.heap.size w (W1.setCell ⟨gx1, 1, none⟩ (.int .i64 st))) := (HB.out : Below w.heap.size w W1).trans (Kept.below hk (fun k h (e : k = gx1) => by have := HGHF.out; omega) HB.out.size)
    have hLE : Hid (w.heap.size + 2 ≤ ((W1.setCell ⟨gx1, 1, none⟩ (.int .i64 st))).heap.size) := Nat.le_trans HLE.out hk.size
    clear HB HLE HRB HZB HF
    have HRB := hHRB
    clear hHRB
    have HZB := hHZB
    clear hHZB
    have HF := hHF
    clear hHF
    have HB := hB
    clear hB
    have HLE := hLE
    clear hLE
    clear hk
    generalize hW : (W1.setCell ⟨gx1, 1, none⟩ (.int .i64 st)) = Wb at *
    clear hW
    have HRBx : Hid (Wb.heap[w.heap.size]? = some (.cells #[va, vb, vc] 26 (0, 0))) := HRB.out
    have tw := twin_any Wb va vb vc R (HR.out.mono HB.out) HFEW.out
    go_wp2_with (first
     | (refine wpList_load_row rfl 26 (.tmp 3) rfl w.heap.size rfl 26 #[va, vb, vc] (0, 0) _ HRBx.out Try.underlying26 rfl HSZr.out ?_)
     | fail)
    refine tw.mono ?_
    clear tw HRBx
    obtain ⟨bs, hbs⟩ : ∃ zz, zz = Wb.heap.size := ⟨_, rfl⟩
    have HBS : Hid (w.heap.size + 2 ≤ bs) := by show _ ≤ _; have := HLE.out; omega
    have HPB : Hid (gx1 < bs) := by show _ < _; have := HF.out.lt; omega
    rintro e wt ⟨aM, nM, cM, aI, nI, cI, aA, nA, cA, rfl, ho, hap, hb⟩
    rw [← hbs] at ho
    have HO := Lib.hid ho
    have HAP := Lib.hid hap
    clear ho hap
    have HRBn := Lib.hid (HRB.out.below hb)
    clear HRB
    have HRB := HRBn
    clear HRBn
    have HZBn := Lib.hid (HZB.out.below hb)
    clear HZB
    have HZB := HZBn
    clear HZBn
    have HFn := Lib.hid (HF.out.below hb)
    clear HF
    have HF := HFn
    clear HFn
    have HBn := Lib.hid (bgo HB.out hb HB.out.size)
    clear HB
    have HB := HBn
    clear HBn
    have HLEn := Lib.hid (Nat.le_trans HLE.out (Below.size hb))
    clear HLE
    have HLE := HLEn
    clear HLEn
    have HBU : Hid (bs ≤ wt.heap.size) := by show _ ≤ _; have := hb.size; omega
    clear hbs hb
    have HSZs : Hid ((Try.prog.info? 26).map (·.size) = some (#[.slice aM nM cM, .slice aI nI cI, .slice aA nA cA] : Array Value).size) := by show _ = _; rw [rol_sz]; rfl
    have HONs : Hid ((#[.slice aM nM cM, .slice aI nI cI, .slice aA nA cA] : Array Value).all (·.oneCell') = true) := by show _ = true; simp [Value.oneCell']
    have HRBx : Hid (wt.heap[w.heap.size]? = some (.cells #[va, vb, vc] 26 (0, 0))) := HRB.out
    go_upto_region 11 with (first
     | (refine wpList_store_row rfl 26 (.tmp 3) (.tmp 36) rfl w.heap.size #[.slice aM nM cM, .slice aI nI cI, .slice aA nA cA] rfl rfl 26 #[va, vb, vc] HRBx.out HSZs.out rfl HONs.out ?_)
     | fail)
    have hk : Kept (fun k => k = w.heap.size) wt (wt.setRow w.heap.size #[.slice aM nM cM, .slice aI nI cI, .slice aA nA cA]) := setRow_kept _ _ _
    have hHRB := Lib.hid ((HT.row HRBx.out rfl : HT (wt.setRow w.heap.size #[.slice aM nM cM, .slice aI nI cI, .slice aA nA cA]) w.heap.size 26 [.slice aM nM cM, .slice aI nI cI, .slice aA nA cA]))
    have hHZB := Lib.hid (HZB.out.keptS hk (fun (e : (w.heap.size + 1) = w.heap.size) => by  omega))
    have hHF := Lib.hid (HF.out.keptS hk (fun (e : gx1 = w.heap.size) => by have := HGHF.out; omega))
    have hB : Hid (Below w.heap.size w (wt.setRow w.heap.size #[.slice aM nM cM, .slice aI nI cI, .slice aA nA cA])) := (HB.out : Below w.heap.size w wt).trans (Kept.below hk (fun k h (e : k = w.heap.size) => by  omega) HB.out.size)
    have hLE : Hid (w.heap.size + 2 ≤ ((wt.setRow w.heap.size #[.slice aM nM cM, .slice aI nI cI, .slice aA nA cA])).heap.size) := Nat.le_trans HLE.out hk.size
    clear HB HLE HRB HZB HF
    have HRB := hHRB
    clear hHRB
    have HZB := hHZB
    clear hHZB
    have HF := hHF
    clear hHF
    have HB := hB
    clear hB
    have HLE := hLE
    clear hLE
    have hO := Lib.hid (HO.out.keptS hk (fun k h (e : k = w.heap.size) => by have := HBS.out; omega))
    have hBU : Hid (bs ≤ ((wt.setRow w.heap.size #[.slice aM nM cM, .slice aI nI cI, .slice aA nA cA])).heap.size) := Nat.le_trans HBU.out hk.size
    clear HO HRBx HBU
    have HO := hO
    clear hO
    have HBU := hBU
    clear hBU
    clear hk
    generalize hW : (wt.setRow w.heap.size #[.slice aM nM cM, .slice aI nI cI, .slice aA nA cA]) = wu at *
    clear hW
    have pt := putM_any wu bs aM nM cM R.M px HO.out.1 (by have := HFEW.out; unfold few at this; omega) HBU.out
    unfold RowsPost at pt
    rw [HPX.out] at pt
    try dsimp only at pt
    rw [← HPL.out] at pt
    have hcr := HRB.out.cell (j := 0) rfl
    have HFx : Hid (wu.heap[gx1]? = some (.cells #[.int .i64 xo.no, .int .i64 st, .int .i64 xo.need] 33 (0, 0))) := HF.out
    have HSZp : Hid ((Try.prog.info? 33).map (·.size) = some (#[.int .i64 xo.no, .int .i64 st, .int .i64 xo.need] : Array Value).size) := by show _ = _; rw [mem_sz]; rfl
    have HONp : Hid ((#[.int .i64 xo.no, .int .i64 st, .int .i64 xo.need] : Array Value).all (·.oneCell') = true) := by show _ = true; simp [Value.oneCell']
    go_wp2_with (first
     | (refine wpList_load_row rfl 33 (.tmp 9) rfl gx1 rfl 33 #[.int .i64 xo.no, .int .i64 st, .int .i64 xo.need] (0, 0) _ HFx.out Try.underlying33 rfl HSZp.out ?_)
     | fail)
    refine pt.mono ?_
    clear pt hcr HFx
    rintro e wp ⟨aN, nN, cN, rfl, hon, hbp, hkp⟩
    clear HF
    have hRB := Lib.hid (HRB.out.belowB hbp (by have := HBS.out; omega))
    have hZB := Lib.hid (HZB.out.belowB hbp (by have := HBS.out; omega))
    have hOI := Lib.hid (OwnR.keptS HO.out.2.1 hkp (fun g h1 h2 => HAP.out.1.symm g h1 h2))
    have hOA := Lib.hid (OwnR.keptS HO.out.2.2 hkp (fun g h1 h2 => HAP.out.2.1.symm g h1 h2))
    have hB : Hid (Below w.heap.size w wp) := HB.out.trans (hbp.mono (by have := HBS.out; omega))
    have hOn := Lib.hid hon
    clear HRB HZB HB HO HLE HBU hkp hbp hon HAP
    have HRB := hRB
    clear hRB
    have HZB := hZB
    clear hZB
    have HB := hB
    clear hB
    have HOn := hOn
    clear hOn
    have HOI := hOI
    clear hOI
    have HOA := hOA
    clear hOA
    have hcr := HRB.out.cell (j := 0) rfl
    have hfr := HRB.out.frozen 0
    go_upto_region 12 with fail
    clear hcr hfr
    have hk : Kept (fun k => k = w.heap.size) wp (wp.setCell ⟨w.heap.size, 0, none⟩ (.slice aN nN cN)) := (Kept.refl _ _).setCell ⟨w.heap.size, 0, none⟩ _ rfl
    have hRB : Hid (HT (wp.setCell ⟨w.heap.size, 0, none⟩ (.slice aN nN cN)) w.heap.size 26 [.slice aN nN cN, .slice aI nI cI, .slice aA nA cA]) := HRB.out.put 0 _
    have hZB := Lib.hid (HZB.out.keptS hk (fun (e : (w.heap.size + 1) = w.heap.size) => by omega))
    have hB : Hid (Below w.heap.size w (wp.setCell ⟨w.heap.size, 0, none⟩ (.slice aN nN cN))) := HB.out.setCell (by show w.heap.size ≤ w.heap.size; omega) _
    have hOn := Lib.hid (OwnR.keptS HOn.out hk (fun j h1 (e : j = w.heap.size) => by have := OwnR.ge HOn.out j h1; have := HBS.out; omega))
    have hOI := Lib.hid (OwnR.keptS HOI.out hk (fun j h1 (e : j = w.heap.size) => by have := OwnR.ge HOI.out j h1; have := HBS.out; omega))
    have hOA := Lib.hid (OwnR.keptS HOA.out hk (fun j h1 (e : j = w.heap.size) => by have := OwnR.ge HOA.out j h1; have := HBS.out; omega))
    clear HRB HZB HB hk HOn HOI HOA
    have HRB := hRB
    clear hRB
    have HZB := hZB
    clear hZB
    have HB := hB
    clear hB
    have HOn := hOn
    clear hOn
    have HOI := hOI
    clear hOI
    have HOA := hOA
    clear hOA
    generalize hW : (wp.setCell ⟨w.heap.size, 0, none⟩ (.slice aN nN cN)) = wq at *
    clear hW
    have HSZf : Hid ((Try.prog.info? 26).map (·.size) = some (#[.slice aN nN cN, .slice aI nI cI, .slice aA nA cA] : Array Value).size) := by show _ = _; rw [rol_sz]; rfl
    have HONf : Hid ((#[.slice aN nN cN, .slice aI nI cI, .slice aA nA cA] : Array Value).all (·.oneCell') = true) := by show _ = true; simp [Value.oneCell']
    have HRBx : Hid (wq.heap[w.heap.size]? = some (.cells #[.slice aN nN cN, .slice aI nI cI, .slice aA nA cA] 26 (0, 0))) := HRB.out
    have HZBx : Hid (wq.heap[(w.heap.size + 1)]? = some (.cells #[.slice none 0 0, .slice none 0 0, .slice none 0 0] 26 (0, 0))) := HZB.out
    go_wp2_with (first
     | (refine wpList_load_row rfl 26 (.tmp 3) rfl w.heap.size rfl 26 #[.slice aN nN cN, .slice aI nI cI, .slice aA nA cA] (0, 0) _ HRBx.out Try.underlying26 rfl HSZf.out ?_)
     | (refine wpList_store_row rfl 26 (.tmp 6) (.tmp 42) rfl (w.heap.size + 1) #[.slice aN nN cN, .slice aI nI cI, .slice aA nA cA] rfl rfl 26 #[.slice none 0 0, .slice none 0 0, .slice none 0 0] HZBx.out HSZf.out rfl HONf.out ?_)
     | fail)
    have hk := setRow_kept wq (w.heap.size + 1) #[.slice aN nN cN, .slice aI nI cI, .slice aA nA cA]
    refine bodyPost_ret (results_ht rfl (HT.row HZBx.out rfl) rfl rfl Try.underlying26 rfl rol_sz) rfl ?_
    rw [HDF.out]
    exact ⟨_, _, _, _, _, _, _, _, _, rfl, ⟨(OwnR.keptS HOn.out hk (fun j h1 (e : j = (w.heap.size + 1)) => by have := OwnR.ge HOn.out j h1; have := HBS.out; omega)).base (by have := HBS.out; omega), (OwnR.keptS HOI.out hk (fun j h1 (e : j = (w.heap.size + 1)) => by have := OwnR.ge HOI.out j h1; have := HBS.out; omega)).base (by have := HBS.out; omega), (OwnR.keptS HOA.out hk (fun j h1 (e : j = (w.heap.size + 1)) => by have := OwnR.ge HOA.out j h1; have := HBS.out; omega)).base (by have := HBS.out; omega)⟩, HB.out.trans (setRow_below (by omega) _)⟩
   ·
    have hw2 : wB st 1 3 = false := by simpa using hwi
    have HWI := Lib.hid hw2
    have HDF : Hid (stateR R who st = (3, RollT.nil)) := by show _ = _; unfold stateR; simp [hc, ← hb, hbt, hw2]
    clear hxo hb hc hwi hw2
    have hHRB : HT (w.alloc (.cells #[va, vb, vc] 26)) w.heap.size 26 [va, vb, vc] := by
     have := HT.new (w := w) (t := 26) (C := [va, vb, vc])
     exact this
    have hHRB := hHRB.below (w' := ((w.alloc (.cells #[va, vb, vc] 26)).alloc (.cells #[.slice none 0 0, .slice none 0 0, .slice none 0 0] 26))) ((Below.refl _ _).alloc (Nat.le_refl _) _)
    have HRB := Lib.hid hHRB
    clear hHRB
    have hHZB : HT ((w.alloc (.cells #[va, vb, vc] 26)).alloc (.cells #[.slice none 0 0, .slice none 0 0, .slice none 0 0] 26)) (w.heap.size + 1) 26 [.slice none 0 0, .slice none 0 0, .slice none 0 0] := by
     have := HT.new (w := (w.alloc (.cells #[va, vb, vc] 26))) (t := 26) (C := [.slice none 0 0, .slice none 0 0, .slice none 0 0])
     rwa [show (w.alloc (.cells #[va, vb, vc] 26)).heap.size = (w.heap.size + 1) by simp] at this
    have HZB := Lib.hid hHZB
    clear hHZB
    have hB : Below w.heap.size w ((w.alloc (.cells #[va, vb, vc] 26)).alloc (.cells #[.slice none 0 0, .slice none 0 0, .slice none 0 0] 26)) := (((Below.refl _ _).alloc (by simp <;> omega) _).alloc (by simp <;> omega) _)
    have HB := Lib.hid hB
    clear hB
    have hS : w.heap.size + 2 ≤ ((w.alloc (.cells #[va, vb, vc] 26)).alloc (.cells #[.slice none 0 0, .slice none 0 0, .slice none 0 0] 26)).heap.size := by simp <;> omega
    have HLE := Lib.hid hS
    clear hS
    go_enter Try.func39, Try.ntmps39
    go_upto_region 1 with fail
    generalize hW : ((w.alloc (.cells #[va, vb, vc] 26)).alloc (.cells #[.slice none 0 0, .slice none 0 0, .slice none 0 0] 26)) = W0 at *
    clear hW
    have HSZr : Hid ((Try.prog.info? 26).map (·.size) = some (#[va, vb, vc] : Array Value).size) := by show _ = _; rw [rol_sz]; rfl
    have HRBx : Hid (W0.heap[w.heap.size]? = some (.cells #[va, vb, vc] 26 (0, 0))) := HRB.out
    go_wp2_with (first
     | (refine wpList_load_row rfl 26 (.tmp 3) rfl w.heap.size rfl 26 #[va, vb, vc] (0, 0) _ HRBx.out Try.underlying26 rfl HSZr.out ?_)
     | fail)
    refine (Check_any _ va vb vc R (HR.out.mono HB.out)).mono ?_
    clear HRBx
    rintro e wc ⟨rfl, hb⟩
    have HRBn := Lib.hid (HRB.out.below hb)
    clear HRB
    have HRB := HRBn
    clear HRBn
    have HZBn := Lib.hid (HZB.out.below hb)
    clear HZB
    have HZB := HZBn
    clear HZBn
    have HBn := Lib.hid (bgo HB.out hb HB.out.size)
    clear HB
    have HB := HBn
    clear HBn
    have HLEn := Lib.hid (Nat.le_trans HLE.out (Below.size hb))
    clear HLE
    have HLE := HLEn
    clear HLEn
    clear hb
    rw [HCK.out]
    have HRBx : Hid (wc.heap[w.heap.size]? = some (.cells #[va, vb, vc] 26 (0, 0))) := HRB.out
    go_wp2_with (first
     | (refine wpList_load_row rfl 26 (.tmp 3) rfl w.heap.size rfl 26 #[va, vb, vc] (0, 0) _ HRBx.out Try.underlying26 rfl HSZr.out ?_)
     | fail)
    refine (Member_any _ va vb vc R.M who xo b (HR.out.1.mono HB.out) HXO.out HBB.out).mono ?_
    clear HRBx
    rintro e wf ⟨rfl, hb⟩
    have HRBn := Lib.hid (HRB.out.below hb)
    clear HRB
    have HRB := HRBn
    clear HRBn
    have HZBn := Lib.hid (HZB.out.below hb)
    clear HZB
    have HZB := HZBn
    clear HZBn
    have HBn := Lib.hid (bgo HB.out hb HB.out.size)
    clear HB
    have HB := HBn
    clear HBn
    have HLEn := Lib.hid (Nat.le_trans HLE.out (Below.size hb))
    clear HLE
    have HLE := HLEn
    clear HLEn
    clear hb
    have HSZ1 : Hid ((Try.prog.info? 33).map (·.size) = some (#[.int .i64 xo.no, .int .i64 xo.state, .int .i64 xo.need] : Array Value).size) := by show _ = _; rw [mem_sz]; rfl
    have HON1 : Hid ((#[.int .i64 xo.no, .int .i64 xo.state, .int .i64 xo.need] : Array Value).all (·.oneCell') = true) := by show _ = true; simp [Value.oneCell']
    go_upto_region 3 with (first
     | (refine wpList_store_row rfl 33 (.tmp 9) (.tmp 17) rfl wf.heap.size #[.int .i64 xo.no, .int .i64 xo.state, .int .i64 xo.need] rfl rfl 33 #[.int .i64 0, .int .i64 0, .int .i64 0] (heap_alloc_new _ _) HSZ1.out rfl HON1.out ?_)
     | fail)
    have hbs1 : Below wf.heap.size wf ((wf.alloc (.cells #[.int .i64 0, .int .i64 0, .int .i64 0] 33)).setRow wf.heap.size #[.int .i64 xo.no, .int .i64 xo.state, .int .i64 xo.need]) := ((Below.refl _ _).alloc (Nat.le_refl _) _).trans (setRow_below (Nat.le_refl _) _)
    have hx1 : HT ((wf.alloc (.cells #[.int .i64 0, .int .i64 0, .int .i64 0] 33)).setRow wf.heap.size #[.int .i64 xo.no, .int .i64 xo.state, .int .i64 xo.need]) wf.heap.size 33 [.int .i64 xo.no, .int .i64 xo.state, .int .i64 xo.need] := setRow_heap _ _ _ _ _ _ (heap_alloc_new _ _)
    have hbw1 := bgo HB.out hbs1 (Below.size HB.out)
    obtain ⟨W1, hW1⟩ : ∃ zz, zz = ((wf.alloc (.cells #[.int .i64 0, .int .i64 0, .int .i64 0] 33)).setRow wf.heap.size #[.int .i64 xo.no, .int .i64 xo.state, .int .i64 xo.need]) := ⟨_, rfl⟩
    rw [← hW1] at hbs1 hx1 hbw1 ⊢
    obtain ⟨gx1, hg1⟩ : ∃ zz, zz = wf.heap.size := ⟨_, rfl⟩
    rw [← hg1] at hx1 ⊢
    have HGE1 : Hid (∀ m, m ≤ wf.heap.size → m ≤ gx1) := fun m h => by omega
    have HX1 := Lib.hid hx1
    have HBW1 := Lib.hid hbw1
    have HBS1 := Lib.hid hbs1
    clear hW1 hx1 hbw1 hbs1 hg1 HON1
    have HGHF : Hid (w.heap.size + 2 ≤ gx1) := HGE1.out _ HLE.out
    clear HBW1 HGE1
    have HRBn := Lib.hid (HRB.out.below HBS1.out)
    clear HRB
    have HRB := HRBn
    clear HRBn
    have HZBn := Lib.hid (HZB.out.below HBS1.out)
    clear HZB
    have HZB := HZBn
    clear HZBn
    have HBn := Lib.hid (bgo HB.out HBS1.out HB.out.size)
    clear HB
    have HB := HBn
    clear HBn
    have HLEn := Lib.hid (Nat.le_trans HLE.out (Below.size HBS1.out))
    clear HLE
    have HLE := HLEn
    clear HLEn
    clear HBS1
    have HF := HX1
    clear HX1 HSZ1
    go_wp2_with fail
    refine (within_any _ st 1 3).mono ?_
    rintro e w9 ⟨rfl, rfl⟩
    rw [HWI.out]
    have HSZz : Hid ((Try.prog.info? 26).map (·.size) = some (#[.slice none 0 0, .slice none 0 0, .slice none 0 0] : Array Value).size) := by show _ = _; rw [rol_sz]; rfl
    have HONz : Hid ((#[.slice none 0 0, .slice none 0 0, .slice none 0 0] : Array Value).all (·.oneCell') = true) := by show _ = true; simp [Value.oneCell']
    have HZBx : Hid (W1.heap[(w.heap.size + 1)]? = some (.cells #[.slice none 0 0, .slice none 0 0, .slice none 0 0] 26 (0, 0))) := HZB.out
    go_wp2_with (first
     | (refine wpList_store_row rfl 26 (.tmp 6) (.tmp 32) rfl (w.heap.size + 1) #[.slice none 0 0, .slice none 0 0, .slice none 0 0] rfl rfl 26 #[.slice none 0 0, .slice none 0 0, .slice none 0 0] HZBx.out HSZz.out rfl HONz.out ?_)
     | fail)
    refine bodyPost_ret (results_ht rfl (HT.row HZBx.out rfl) rfl rfl Try.underlying26 rfl rol_sz) rfl ?_
    rw [HDF.out]
    exact ⟨_, _, _, _, _, _, _, _, _, rfl, OwnRoll.none _ _, HB.out.trans (setRow_below (by omega) _)⟩
  ·
   have hb2 : b = false := by simpa using hbt
   have HDF : Hid (stateR R who st = (10, RollT.nil)) := by show _ = _; unfold stateR; simp [hc, ← hb, hb2]
   clear hxo hb hc hbt
   have hHRB : HT (w.alloc (.cells #[va, vb, vc] 26)) w.heap.size 26 [va, vb, vc] := by
    have := HT.new (w := w) (t := 26) (C := [va, vb, vc])
    exact this
   have hHRB := hHRB.below (w' := ((w.alloc (.cells #[va, vb, vc] 26)).alloc (.cells #[.slice none 0 0, .slice none 0 0, .slice none 0 0] 26))) ((Below.refl _ _).alloc (Nat.le_refl _) _)
   have HRB := Lib.hid hHRB
   clear hHRB
   have hHZB : HT ((w.alloc (.cells #[va, vb, vc] 26)).alloc (.cells #[.slice none 0 0, .slice none 0 0, .slice none 0 0] 26)) (w.heap.size + 1) 26 [.slice none 0 0, .slice none 0 0, .slice none 0 0] := by
    have := HT.new (w := (w.alloc (.cells #[va, vb, vc] 26))) (t := 26) (C := [.slice none 0 0, .slice none 0 0, .slice none 0 0])
    rwa [show (w.alloc (.cells #[va, vb, vc] 26)).heap.size = (w.heap.size + 1) by simp] at this
   have HZB := Lib.hid hHZB
   clear hHZB
   have hB : Below w.heap.size w ((w.alloc (.cells #[va, vb, vc] 26)).alloc (.cells #[.slice none 0 0, .slice none 0 0, .slice none 0 0] 26)) := (((Below.refl _ _).alloc (by simp <;> omega) _).alloc (by simp <;> omega) _)
   have HB := Lib.hid hB
   clear hB
   have hS : w.heap.size + 2 ≤ ((w.alloc (.cells #[va, vb, vc] 26)).alloc (.cells #[.slice none 0 0, .slice none 0 0, .slice none 0 0] 26)).heap.size := by simp <;> omega
   have HLE := Lib.hid hS
   clear hS
   go_enter Try.func39, Try.ntmps39
   go_upto_region 1 with fail
   generalize hW : ((w.alloc (.cells #[va, vb, vc] 26)).alloc (.cells #[.slice none 0 0, .slice none 0 0, .slice none 0 0] 26)) = W0 at *
   clear hW
   have HSZr : Hid ((Try.prog.info? 26).map (·.size) = some (#[va, vb, vc] : Array Value).size) := by show _ = _; rw [rol_sz]; rfl
   have HRBx : Hid (W0.heap[w.heap.size]? = some (.cells #[va, vb, vc] 26 (0, 0))) := HRB.out
   go_wp2_with (first
    | (refine wpList_load_row rfl 26 (.tmp 3) rfl w.heap.size rfl 26 #[va, vb, vc] (0, 0) _ HRBx.out Try.underlying26 rfl HSZr.out ?_)
    | fail)
   refine (Check_any _ va vb vc R (HR.out.mono HB.out)).mono ?_
   clear HRBx
   rintro e wc ⟨rfl, hb⟩
   have HRBn := Lib.hid (HRB.out.below hb)
   clear HRB
   have HRB := HRBn
   clear HRBn
   have HZBn := Lib.hid (HZB.out.below hb)
   clear HZB
   have HZB := HZBn
   clear HZBn
   have HBn := Lib.hid (bgo HB.out hb HB.out.size)
   clear HB
   have HB := HBn
   clear HBn
   have HLEn := Lib.hid (Nat.le_trans HLE.out (Below.size hb))
   clear HLE
   have HLE := HLEn
   clear HLEn
   clear hb
   rw [HCK.out]
   have HRBx : Hid (wc.heap[w.heap.size]? = some (.cells #[va, vb, vc] 26 (0, 0))) := HRB.out
   go_wp2_with (first
    | (refine wpList_load_row rfl 26 (.tmp 3) rfl w.heap.size rfl 26 #[va, vb, vc] (0, 0) _ HRBx.out Try.underlying26 rfl HSZr.out ?_)
    | fail)
   refine (Member_any _ va vb vc R.M who xo b (HR.out.1.mono HB.out) HXO.out HBB.out).mono ?_
   clear HRBx
   rintro e wf ⟨rfl, hb⟩
   have HRBn := Lib.hid (HRB.out.below hb)
   clear HRB
   have HRB := HRBn
   clear HRBn
   have HZBn := Lib.hid (HZB.out.below hb)
   clear HZB
   have HZB := HZBn
   clear HZBn
   have HBn := Lib.hid (bgo HB.out hb HB.out.size)
   clear HB
   have HB := HBn
   clear HBn
   have HLEn := Lib.hid (Nat.le_trans HLE.out (Below.size hb))
   clear HLE
   have HLE := HLEn
   clear HLEn
   clear hb
   have HSZ1 : Hid ((Try.prog.info? 33).map (·.size) = some (#[.int .i64 xo.no, .int .i64 xo.state, .int .i64 xo.need] : Array Value).size) := by show _ = _; rw [mem_sz]; rfl
   have HON1 : Hid ((#[.int .i64 xo.no, .int .i64 xo.state, .int .i64 xo.need] : Array Value).all (·.oneCell') = true) := by show _ = true; simp [Value.oneCell']
   go_upto_region 3 with (first
    | (refine wpList_store_row rfl 33 (.tmp 9) (.tmp 17) rfl wf.heap.size #[.int .i64 xo.no, .int .i64 xo.state, .int .i64 xo.need] rfl rfl 33 #[.int .i64 0, .int .i64 0, .int .i64 0] (heap_alloc_new _ _) HSZ1.out rfl HON1.out ?_)
    | fail)
   have hbs1 : Below wf.heap.size wf ((wf.alloc (.cells #[.int .i64 0, .int .i64 0, .int .i64 0] 33)).setRow wf.heap.size #[.int .i64 xo.no, .int .i64 xo.state, .int .i64 xo.need]) := ((Below.refl _ _).alloc (Nat.le_refl _) _).trans (setRow_below (Nat.le_refl _) _)
   have hx1 : HT ((wf.alloc (.cells #[.int .i64 0, .int .i64 0, .int .i64 0] 33)).setRow wf.heap.size #[.int .i64 xo.no, .int .i64 xo.state, .int .i64 xo.need]) wf.heap.size 33 [.int .i64 xo.no, .int .i64 xo.state, .int .i64 xo.need] := setRow_heap _ _ _ _ _ _ (heap_alloc_new _ _)
   have hbw1 := bgo HB.out hbs1 (Below.size HB.out)
   obtain ⟨W1, hW1⟩ : ∃ zz, zz = ((wf.alloc (.cells #[.int .i64 0, .int .i64 0, .int .i64 0] 33)).setRow wf.heap.size #[.int .i64 xo.no, .int .i64 xo.state, .int .i64 xo.need]) := ⟨_, rfl⟩
   rw [← hW1] at hbs1 hx1 hbw1 ⊢
   obtain ⟨gx1, hg1⟩ : ∃ zz, zz = wf.heap.size := ⟨_, rfl⟩
   rw [← hg1] at hx1 ⊢
   have HGE1 : Hid (∀ m, m ≤ wf.heap.size → m ≤ gx1) := fun m h => by omega
   have HX1 := Lib.hid hx1
   have HBW1 := Lib.hid hbw1
   have HBS1 := Lib.hid hbs1
   clear hW1 hx1 hbw1 hbs1 hg1 HON1
   have HGHF : Hid (w.heap.size + 2 ≤ gx1) := HGE1.out _ HLE.out
   clear HBW1 HGE1
   have HRBn := Lib.hid (HRB.out.below HBS1.out)
   clear HRB
   have HRB := HRBn
   clear HRBn
   have HZBn := Lib.hid (HZB.out.below HBS1.out)
   clear HZB
   have HZB := HZBn
   clear HZBn
   have HBn := Lib.hid (bgo HB.out HBS1.out HB.out.size)
   clear HB
   have HB := HBn
   clear HBn
   have HLEn := Lib.hid (Nat.le_trans HLE.out (Below.size HBS1.out))
   clear HLE
   have HLE := HLEn
   clear HLEn
   clear HBS1
   have HF := HX1
   clear HX1 HSZ1
   have HSZz : Hid ((Try.prog.info? 26).map (·.size) = some (#[.slice none 0 0, .slice none 0 0, .slice none 0 0] : Array Value).size) := by show _ = _; rw [rol_sz]; rfl
   have HONz : Hid ((#[.slice none 0 0, .slice none 0 0, .slice none 0 0] : Array Value).all (·.oneCell') = true) := by show _ = true; simp [Value.oneCell']
   have HZBx : Hid (W1.heap[(w.heap.size + 1)]? = some (.cells #[.slice none 0 0, .slice none 0 0, .slice none 0 0] 26 (0, 0))) := HZB.out
   go_wp2_with (first
    | (refine wpList_store_row rfl 26 (.tmp 6) (.tmp 27) rfl (w.heap.size + 1) #[.slice none 0 0, .slice none 0 0, .slice none 0 0] rfl rfl 26 #[.slice none 0 0, .slice none 0 0, .slice none 0 0] HZBx.out HSZz.out rfl HONz.out ?_)
    | fail)
   refine bodyPost_ret (results_ht rfl (HT.row HZBx.out rfl) rfl rfl Try.underlying26 rfl rol_sz) rfl ?_
   rw [HDF.out]
   exact ⟨_, _, _, _, _, _, _, _, _, rfl, OwnRoll.none _ _, HB.out.trans (setRow_below (by omega) _)⟩
 ·
  have hc2 : chkR R = false := by simpa using hc
  have HCK : Hid (chkE R = 14) := by show _ = _; unfold chkE; simp [hc]
  have HDF : Hid (stateR R who st = (14, RollT.nil)) := by show _ = _; unfold stateR; simp [hc2]
  clear hxo hb hc hc2
  have hHRB : HT (w.alloc (.cells #[va, vb, vc] 26)) w.heap.size 26 [va, vb, vc] := by
   have := HT.new (w := w) (t := 26) (C := [va, vb, vc])
   exact this
  have hHRB := hHRB.below (w' := ((w.alloc (.cells #[va, vb, vc] 26)).alloc (.cells #[.slice none 0 0, .slice none 0 0, .slice none 0 0] 26))) ((Below.refl _ _).alloc (Nat.le_refl _) _)
  have HRB := Lib.hid hHRB
  clear hHRB
  have hHZB : HT ((w.alloc (.cells #[va, vb, vc] 26)).alloc (.cells #[.slice none 0 0, .slice none 0 0, .slice none 0 0] 26)) (w.heap.size + 1) 26 [.slice none 0 0, .slice none 0 0, .slice none 0 0] := by
   have := HT.new (w := (w.alloc (.cells #[va, vb, vc] 26))) (t := 26) (C := [.slice none 0 0, .slice none 0 0, .slice none 0 0])
   rwa [show (w.alloc (.cells #[va, vb, vc] 26)).heap.size = (w.heap.size + 1) by simp] at this
  have HZB := Lib.hid hHZB
  clear hHZB
  have hB : Below w.heap.size w ((w.alloc (.cells #[va, vb, vc] 26)).alloc (.cells #[.slice none 0 0, .slice none 0 0, .slice none 0 0] 26)) := (((Below.refl _ _).alloc (by simp <;> omega) _).alloc (by simp <;> omega) _)
  have HB := Lib.hid hB
  clear hB
  have hS : w.heap.size + 2 ≤ ((w.alloc (.cells #[va, vb, vc] 26)).alloc (.cells #[.slice none 0 0, .slice none 0 0, .slice none 0 0] 26)).heap.size := by simp <;> omega
  have HLE := Lib.hid hS
  clear hS
  go_enter Try.func39, Try.ntmps39
  go_upto_region 1 with fail
  generalize hW : ((w.alloc (.cells #[va, vb, vc] 26)).alloc (.cells #[.slice none 0 0, .slice none 0 0, .slice none 0 0] 26)) = W0 at *
  clear hW
  have HSZr : Hid ((Try.prog.info? 26).map (·.size) = some (#[va, vb, vc] : Array Value).size) := by show _ = _; rw [rol_sz]; rfl
  have HRBx : Hid (W0.heap[w.heap.size]? = some (.cells #[va, vb, vc] 26 (0, 0))) := HRB.out
  go_wp2_with (first
   | (refine wpList_load_row rfl 26 (.tmp 3) rfl w.heap.size rfl 26 #[va, vb, vc] (0, 0) _ HRBx.out Try.underlying26 rfl HSZr.out ?_)
   | fail)
  refine (Check_any _ va vb vc R (HR.out.mono HB.out)).mono ?_
  clear HRBx
  rintro e wc ⟨rfl, hb⟩
  have HRBn := Lib.hid (HRB.out.below hb)
  clear HRB
  have HRB := HRBn
  clear HRBn
  have HZBn := Lib.hid (HZB.out.below hb)
  clear HZB
  have HZB := HZBn
  clear HZBn
  have HBn := Lib.hid (bgo HB.out hb HB.out.size)
  clear HB
  have HB := HBn
  clear HBn
  have HLEn := Lib.hid (Nat.le_trans HLE.out (Below.size hb))
  clear HLE
  have HLE := HLEn
  clear HLEn
  clear hb
  rw [HCK.out]
  have HRBx : Hid (wc.heap[w.heap.size]? = some (.cells #[va, vb, vc] 26 (0, 0))) := HRB.out
  go_wp2_with (first
   | (refine wpList_load_row rfl 26 (.tmp 3) rfl w.heap.size rfl 26 #[va, vb, vc] (0, 0) _ HRBx.out Try.underlying26 rfl HSZr.out ?_)
   | fail)
  refine (Member_any _ va vb vc R.M who xo b (HR.out.1.mono HB.out) HXO.out HBB.out).mono ?_
  clear HRBx
  rintro e wf ⟨rfl, hb⟩
  have HRBn := Lib.hid (HRB.out.below hb)
  clear HRB
  have HRB := HRBn
  clear HRBn
  have HZBn := Lib.hid (HZB.out.below hb)
  clear HZB
  have HZB := HZBn
  clear HZBn
  have HBn := Lib.hid (bgo HB.out hb HB.out.size)
  clear HB
  have HB := HBn
  clear HBn
  have HLEn := Lib.hid (Nat.le_trans HLE.out (Below.size hb))
  clear HLE
  have HLE := HLEn
  clear HLEn
  clear hb
  have HSZ1 : Hid ((Try.prog.info? 33).map (·.size) = some (#[.int .i64 xo.no, .int .i64 xo.state, .int .i64 xo.need] : Array Value).size) := by show _ = _; rw [mem_sz]; rfl
  have HON1 : Hid ((#[.int .i64 xo.no, .int .i64 xo.state, .int .i64 xo.need] : Array Value).all (·.oneCell') = true) := by show _ = true; simp [Value.oneCell']
  go_upto_region 3 with (first
   | (refine wpList_store_row rfl 33 (.tmp 9) (.tmp 17) rfl wf.heap.size #[.int .i64 xo.no, .int .i64 xo.state, .int .i64 xo.need] rfl rfl 33 #[.int .i64 0, .int .i64 0, .int .i64 0] (heap_alloc_new _ _) HSZ1.out rfl HON1.out ?_)
   | fail)
  have hbs1 : Below wf.heap.size wf ((wf.alloc (.cells #[.int .i64 0, .int .i64 0, .int .i64 0] 33)).setRow wf.heap.size #[.int .i64 xo.no, .int .i64 xo.state, .int .i64 xo.need]) := ((Below.refl _ _).alloc (Nat.le_refl _) _).trans (setRow_below (Nat.le_refl _) _)
  have hx1 : HT ((wf.alloc (.cells #[.int .i64 0, .int .i64 0, .int .i64 0] 33)).setRow wf.heap.size #[.int .i64 xo.no, .int .i64 xo.state, .int .i64 xo.need]) wf.heap.size 33 [.int .i64 xo.no, .int .i64 xo.state, .int .i64 xo.need] := setRow_heap _ _ _ _ _ _ (heap_alloc_new _ _)
  have hbw1 := bgo HB.out hbs1 (Below.size HB.out)
  obtain ⟨W1, hW1⟩ : ∃ zz, zz = ((wf.alloc (.cells #[.int .i64 0, .int .i64 0, .int .i64 0] 33)).setRow wf.heap.size #[.int .i64 xo.no, .int .i64 xo.state, .int .i64 xo.need]) := ⟨_, rfl⟩
  rw [← hW1] at hbs1 hx1 hbw1 ⊢
  obtain ⟨gx1, hg1⟩ : ∃ zz, zz = wf.heap.size := ⟨_, rfl⟩
  rw [← hg1] at hx1 ⊢
  have HGE1 : Hid (∀ m, m ≤ wf.heap.size → m ≤ gx1) := fun m h => by omega
  have HX1 := Lib.hid hx1
  have HBW1 := Lib.hid hbw1
  have HBS1 := Lib.hid hbs1
  clear hW1 hx1 hbw1 hbs1 hg1 HON1
  have HGHF : Hid (w.heap.size + 2 ≤ gx1) := HGE1.out _ HLE.out
  clear HBW1 HGE1
  have HRBn := Lib.hid (HRB.out.below HBS1.out)
  clear HRB
  have HRB := HRBn
  clear HRBn
  have HZBn := Lib.hid (HZB.out.below HBS1.out)
  clear HZB
  have HZB := HZBn
  clear HZBn
  have HBn := Lib.hid (bgo HB.out HBS1.out HB.out.size)
  clear HB
  have HB := HBn
  clear HBn
  have HLEn := Lib.hid (Nat.le_trans HLE.out (Below.size HBS1.out))
  clear HLE
  have HLE := HLEn
  clear HLEn
  clear HBS1
  have HF := HX1
  clear HX1 HSZ1
  have HSZz : Hid ((Try.prog.info? 26).map (·.size) = some (#[.slice none 0 0, .slice none 0 0, .slice none 0 0] : Array Value).size) := by show _ = _; rw [rol_sz]; rfl
  have HONz : Hid ((#[.slice none 0 0, .slice none 0 0, .slice none 0 0] : Array Value).all (·.oneCell') = true) := by show _ = true; simp [Value.oneCell']
  have HZBx : Hid (W1.heap[(w.heap.size + 1)]? = some (.cells #[.slice none 0 0, .slice none 0 0, .slice none 0 0] 26 (0, 0))) := HZB.out
  go_wp2_with (first
   | (refine wpList_store_row rfl 26 (.tmp 6) (.tmp 22) rfl (w.heap.size + 1) #[.slice none 0 0, .slice none 0 0, .slice none 0 0] rfl rfl 26 #[.slice none 0 0, .slice none 0 0, .slice none 0 0] HZBx.out HSZz.out rfl HONz.out ?_)
   | fail)
  refine bodyPost_ret (results_ht rfl (HT.row HZBx.out rfl) rfl rfl Try.underlying26 rfl rol_sz) rfl ?_
  rw [HDF.out]
  exact ⟨_, _, _, _, _, _, _, _, _, rfl, OwnRoll.none _ _, HB.out.trans (setRow_below (by omega) _)⟩
end Cam
