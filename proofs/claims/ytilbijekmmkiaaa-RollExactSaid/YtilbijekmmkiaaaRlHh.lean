import Derived.Test.YtilbijekmmkiaaaRlH
/- roll: H. -/
namespace Cam
open Go Go.RowKit Go.Proofs
set_option maxRecDepth 100000 in
set_option maxHeartbeats 3200000 in
theorem Hold_any (w : World) (va vb vc : Value) (R : RollT) (x : AsT) (h : RollIn w va vb vc R) (hf : few R) :
  Calls Try.prog 35 #[.agg #[va, vb, vc], .agg #[.int .i64 x.no, .int .i64 x.cur, .int .i64 x.price, .int .i64 x.cut]] w (RetPost w (holdR R x)) := by
 have HR := Lib.hid h
 have HFEW := Lib.hid hf
 clear h hf
 obtain ⟨xo, hxo⟩ : ∃ z, z = fdX AsT.no aZ x.no R.A := ⟨_, rfl⟩
 obtain ⟨b, hb⟩ : ∃ z, z = hasB AsT.no x.no R.A := ⟨_, rfl⟩
 have HXO := Lib.hid hxo
 have HBB := Lib.hid hb
 obtain ⟨px, hpx⟩ : ∃ z : AsT, z = x := ⟨_, rfl⟩
 obtain ⟨PL, hpl⟩ : ∃ z, z = putL AsT.no px R.A := ⟨_, rfl⟩
 have HPL0 := Lib.hid hpl
 have HPX := Lib.hid hpx
 have HPL : Hid (PL = putL AsT.no (x) R.A) := by show _ = _; rw [hpl, hpx]
 clear hpl hpx
 by_cases hc : chkR R = true
 ·
  have HCK : Hid (chkE R = 0) := by show _ = _; unfold chkE; simp [hc]
  by_cases hr : rightA x = true
  ·
   have HRI := Lib.hid hr
   by_cases hbt : b = true
   ·
    by_cases hcu : xo.cur ≠ x.cur
    ·
     have HDF : Hid (holdR R x = (3, RollT.nil)) := by show _ = _; unfold holdR; simp [hc, hr, ← hb, ← hxo, hbt, hcu]
     have hcb : (xo.cur != x.cur) = true := by simpa using hcu
     clear hxo hb hc hr hcu
     have hHRB : HT (w.alloc (.cells #[va, vb, vc] 26)) w.heap.size 26 [va, vb, vc] := by
      have := HT.new (w := w) (t := 26) (C := [va, vb, vc])
      exact this
     have hHRB := hHRB.below (w' := ((w.alloc (.cells #[va, vb, vc] 26)).alloc (.cells #[.int .i64 x.no, .int .i64 x.cur, .int .i64 x.price, .int .i64 x.cut] 42))) ((Below.refl _ _).alloc (Nat.le_refl _) _)
     have hHRB := hHRB.below (w' := (((w.alloc (.cells #[va, vb, vc] 26)).alloc (.cells #[.int .i64 x.no, .int .i64 x.cur, .int .i64 x.price, .int .i64 x.cut] 42)).alloc (.cells #[.slice none 0 0, .slice none 0 0, .slice none 0 0] 26))) ((Below.refl _ _).alloc (Nat.le_refl _) _)
     have HRB := Lib.hid hHRB
     clear hHRB
     have hHAB : HT ((w.alloc (.cells #[va, vb, vc] 26)).alloc (.cells #[.int .i64 x.no, .int .i64 x.cur, .int .i64 x.price, .int .i64 x.cut] 42)) (w.heap.size + 1) 42 [.int .i64 x.no, .int .i64 x.cur, .int .i64 x.price, .int .i64 x.cut] := by
      have := HT.new (w := (w.alloc (.cells #[va, vb, vc] 26))) (t := 42) (C := [.int .i64 x.no, .int .i64 x.cur, .int .i64 x.price, .int .i64 x.cut])
      rwa [show (w.alloc (.cells #[va, vb, vc] 26)).heap.size = (w.heap.size + 1) by simp] at this
     have hHAB := hHAB.below (w' := (((w.alloc (.cells #[va, vb, vc] 26)).alloc (.cells #[.int .i64 x.no, .int .i64 x.cur, .int .i64 x.price, .int .i64 x.cut] 42)).alloc (.cells #[.slice none 0 0, .slice none 0 0, .slice none 0 0] 26))) ((Below.refl _ _).alloc (Nat.le_refl _) _)
     have HAB := Lib.hid hHAB
     clear hHAB
     have hHZB : HT (((w.alloc (.cells #[va, vb, vc] 26)).alloc (.cells #[.int .i64 x.no, .int .i64 x.cur, .int .i64 x.price, .int .i64 x.cut] 42)).alloc (.cells #[.slice none 0 0, .slice none 0 0, .slice none 0 0] 26)) (w.heap.size + 2) 26 [.slice none 0 0, .slice none 0 0, .slice none 0 0] := by
      have := HT.new (w := ((w.alloc (.cells #[va, vb, vc] 26)).alloc (.cells #[.int .i64 x.no, .int .i64 x.cur, .int .i64 x.price, .int .i64 x.cut] 42))) (t := 26) (C := [.slice none 0 0, .slice none 0 0, .slice none 0 0])
      rwa [show ((w.alloc (.cells #[va, vb, vc] 26)).alloc (.cells #[.int .i64 x.no, .int .i64 x.cur, .int .i64 x.price, .int .i64 x.cut] 42)).heap.size = (w.heap.size + 2) by simp] at this
     have HZB := Lib.hid hHZB
     clear hHZB
     have hB : Below w.heap.size w (((w.alloc (.cells #[va, vb, vc] 26)).alloc (.cells #[.int .i64 x.no, .int .i64 x.cur, .int .i64 x.price, .int .i64 x.cut] 42)).alloc (.cells #[.slice none 0 0, .slice none 0 0, .slice none 0 0] 26)) := ((((Below.refl _ _).alloc (by simp <;> omega) _).alloc (by simp <;> omega) _).alloc (by simp <;> omega) _)
     have HB := Lib.hid hB
     clear hB
     have hS : w.heap.size + 3 ≤ (((w.alloc (.cells #[va, vb, vc] 26)).alloc (.cells #[.int .i64 x.no, .int .i64 x.cur, .int .i64 x.price, .int .i64 x.cut] 42)).alloc (.cells #[.slice none 0 0, .slice none 0 0, .slice none 0 0] 26)).heap.size := by simp <;> omega
     have HLE := Lib.hid hS
     clear hS
     go_enter Try.func35, Try.ntmps35
     go_upto_region 1 with fail
     generalize hW : (((w.alloc (.cells #[va, vb, vc] 26)).alloc (.cells #[.int .i64 x.no, .int .i64 x.cur, .int .i64 x.price, .int .i64 x.cut] 42)).alloc (.cells #[.slice none 0 0, .slice none 0 0, .slice none 0 0] 26)) = W0 at *
     clear hW
     have HSZr : Hid ((Try.prog.info? 26).map (·.size) = some (#[va, vb, vc] : Array Value).size) := by show _ = _; rw [rol_sz]; rfl
     have HRBx : Hid (W0.heap[w.heap.size]? = some (.cells #[va, vb, vc] 26 (0, 0))) := HRB.out
     go_wp2_with (first
      | (refine wpList_load_row rfl 26 (.tmp 2) rfl w.heap.size rfl 26 #[va, vb, vc] (0, 0) _ HRBx.out Try.underlying26 rfl HSZr.out ?_)
      | fail)
     refine (Check_any _ va vb vc R (HR.out.mono HB.out)).mono ?_
     clear HRBx
     rintro e wc ⟨rfl, hb⟩
     have HRBn := Lib.hid (HRB.out.below hb)
     clear HRB
     have HRB := HRBn
     clear HRBn
     have HABn := Lib.hid (HAB.out.below hb)
     clear HAB
     have HAB := HABn
     clear HABn
     have HZBn := Lib.hid (HZB.out.below hb)
     clear HZB
     have HZB := HZBn
     clear HZBn
     have HBn := Lib.hid (bgo HB.out hb HB.out.size)
     clear HB
     have HB := HBn
     clear HBn
     have HLEn := Lib.hid (Nat.le_trans HLE.out (Below.size hb))
     clear HLE
     have HLE := HLEn
     clear HLEn
     clear hb
     rw [HCK.out]
     have HRBx : Hid (wc.heap[w.heap.size]? = some (.cells #[va, vb, vc] 26 (0, 0))) := HRB.out
     have hcn := HAB.out.cell (j := 0) rfl
     go_wp2_with (first
      | (refine wpList_load_row rfl 26 (.tmp 2) rfl w.heap.size rfl 26 #[va, vb, vc] (0, 0) _ HRBx.out Try.underlying26 rfl HSZr.out ?_)
      | fail)
     refine (Asset_any _ va vb vc R.A x.no xo b (HR.out.2.2.mono HB.out) HXO.out HBB.out).mono ?_
     clear HRBx hcn
     rintro e wf ⟨rfl, hb⟩
     have HRBn := Lib.hid (HRB.out.below hb)
     clear HRB
     have HRB := HRBn
     clear HRBn
     have HABn := Lib.hid (HAB.out.below hb)
     clear HAB
     have HAB := HABn
     clear HABn
     have HZBn := Lib.hid (HZB.out.below hb)
     clear HZB
     have HZB := HZBn
     clear HZBn
     have HBn := Lib.hid (bgo HB.out hb HB.out.size)
     clear HB
     have HB := HBn
     clear HBn
     have HLEn := Lib.hid (Nat.le_trans HLE.out (Below.size hb))
     clear HLE
     have HLE := HLEn
     clear HLEn
     clear hb
     have HSZ1 : Hid ((Try.prog.info? 42).map (·.size) = some (#[.int .i64 xo.no, .int .i64 xo.cur, .int .i64 xo.price, .int .i64 xo.cut] : Array Value).size) := by show _ = _; rw [ass_sz]; rfl
     have HON1 : Hid ((#[.int .i64 xo.no, .int .i64 xo.cur, .int .i64 xo.price, .int .i64 xo.cut] : Array Value).all (·.oneCell') = true) := by show _ = true; simp [Value.oneCell']
     go_upto_region 3 with (first
      | (refine wpList_store_row rfl 42 (.tmp 7) (.tmp 16) rfl wf.heap.size #[.int .i64 xo.no, .int .i64 xo.cur, .int .i64 xo.price, .int .i64 xo.cut] rfl rfl 42 #[.int .i64 0, .int .i64 0, .int .i64 0, .int .i64 0] (heap_alloc_new _ _) HSZ1.out rfl HON1.out ?_)
      | fail)
     have hbs1 : Below wf.heap.size wf ((wf.alloc (.cells #[.int .i64 0, .int .i64 0, .int .i64 0, .int .i64 0] 42)).setRow wf.heap.size #[.int .i64 xo.no, .int .i64 xo.cur, .int .i64 xo.price, .int .i64 xo.cut]) := ((Below.refl _ _).alloc (Nat.le_refl _) _).trans (setRow_below (Nat.le_refl _) _)
     have hx1 : HT ((wf.alloc (.cells #[.int .i64 0, .int .i64 0, .int .i64 0, .int .i64 0] 42)).setRow wf.heap.size #[.int .i64 xo.no, .int .i64 xo.cur, .int .i64 xo.price, .int .i64 xo.cut]) wf.heap.size 42 [.int .i64 xo.no, .int .i64 xo.cur, .int .i64 xo.price, .int .i64 xo.cut] := setRow_heap _ _ _ _ _ _ (heap_alloc_new _ _)
     have hbw1 := bgo HB.out hbs1 (Below.size HB.out)
     obtain ⟨W1, hW1⟩ : ∃ zz, zz = ((wf.alloc (.cells #[.int .i64 0, .int .i64 0, .int .i64 0, .int .i64 0] 42)).setRow wf.heap.size #[.int .i64 xo.no, .int .i64 xo.cur, .int .i64 xo.price, .int .i64 xo.cut]) := ⟨_, rfl⟩
     rw [← hW1] at hbs1 hx1 hbw1 ⊢
     obtain ⟨gx1, hg1⟩ : ∃ zz, zz = wf.heap.size := ⟨_, rfl⟩
     rw [← hg1] at hx1 ⊢
     have HGE1 : Hid (∀ m, m ≤ wf.heap.size → m ≤ gx1) := fun m h => by omega
     have HX1 := Lib.hid hx1
     have HBW1 := Lib.hid hbw1
     have HBS1 := Lib.hid hbs1
     clear hW1 hx1 hbw1 hbs1 hg1 HON1
     have HGHF : Hid (w.heap.size + 3 ≤ gx1) := HGE1.out _ HLE.out
     clear HBW1 HGE1
     have HRBn := Lib.hid (HRB.out.below HBS1.out)
     clear HRB
     have HRB := HRBn
     clear HRBn
     have HABn := Lib.hid (HAB.out.below HBS1.out)
     clear HAB
     have HAB := HABn
     clear HABn
     have HZBn := Lib.hid (HZB.out.below HBS1.out)
     clear HZB
     have HZB := HZBn
     clear HZBn
     have HBn := Lib.hid (bgo HB.out HBS1.out HB.out.size)
     clear HB
     have HB := HBn
     clear HBn
     have HLEn := Lib.hid (Nat.le_trans HLE.out (Below.size HBS1.out))
     clear HLE
     have HLE := HLEn
     clear HLEn
     clear HBS1
     have HF := HX1
     clear HX1 HSZ1
     have HSZq : Hid ((Try.prog.info? 42).map (·.size) = some (#[.int .i64 x.no, .int .i64 x.cur, .int .i64 x.price, .int .i64 x.cut] : Array Value).size) := by show _ = _; rw [ass_sz]; rfl
     have HONq : Hid ((#[.int .i64 x.no, .int .i64 x.cur, .int .i64 x.price, .int .i64 x.cut] : Array Value).all (·.oneCell') = true) := by show _ = true; simp [Value.oneCell']
     have HABx : Hid (W1.heap[(w.heap.size + 1)]? = some (.cells #[.int .i64 x.no, .int .i64 x.cur, .int .i64 x.price, .int .i64 x.cut] 42 (0, 0))) := HAB.out
     go_wp2_with (first
      | (refine wpList_load_row rfl 42 (.tmp 3) rfl (w.heap.size + 1) rfl 42 #[.int .i64 x.no, .int .i64 x.cur, .int .i64 x.price, .int .i64 x.cut] (0, 0) _ HABx.out Try.underlying42 rfl HSZq.out ?_)
      | fail)
     refine (rightA_any _ x.no x.cur x.price x.cut).mono ?_
     clear HABx
     rintro e wr ⟨rfl, hb⟩
     have HRBn := Lib.hid (HRB.out.below hb)
     clear HRB
     have HRB := HRBn
     clear HRBn
     have HABn := Lib.hid (HAB.out.below hb)
     clear HAB
     have HAB := HABn
     clear HABn
     have HZBn := Lib.hid (HZB.out.below hb)
     clear HZB
     have HZB := HZBn
     clear HZBn
     have HFn := Lib.hid (HF.out.below hb)
     clear HF
     have HF := HFn
     clear HFn
     have HBn := Lib.hid (bgo HB.out hb HB.out.size)
     clear HB
     have HB := HBn
     clear HBn
     have HLEn := Lib.hid (Nat.le_trans HLE.out (Below.size hb))
     clear HLE
     have HLE := HLEn
     clear HLEn
     clear hb
     rw [HRI.out]
     have c1 := HF.out.cell (j := 1) rfl
     have c2 := HAB.out.cell (j := 1) rfl
     have HSZz : Hid ((Try.prog.info? 26).map (·.size) = some (#[.slice none 0 0, .slice none 0 0, .slice none 0 0] : Array Value).size) := by show _ = _; rw [rol_sz]; rfl
     have HONz : Hid ((#[.slice none 0 0, .slice none 0 0, .slice none 0 0] : Array Value).all (·.oneCell') = true) := by show _ = true; simp [Value.oneCell']
     have HZBx : Hid (wr.heap[(w.heap.size + 2)]? = some (.cells #[.slice none 0 0, .slice none 0 0, .slice none 0 0] 26 (0, 0))) := HZB.out
     go_wp2_with (first
      | (refine wpList_store_row rfl 26 (.tmp 4) (.tmp 37) rfl (w.heap.size + 2) #[.slice none 0 0, .slice none 0 0, .slice none 0 0] rfl rfl 26 #[.slice none 0 0, .slice none 0 0, .slice none 0 0] HZBx.out HSZz.out rfl HONz.out ?_)
      | fail)
     refine bodyPost_ret (results_ht rfl (HT.row HZBx.out rfl) rfl rfl Try.underlying26 rfl rol_sz) rfl ?_
     rw [HDF.out]
     exact ⟨_, _, _, _, _, _, _, _, _, rfl, OwnRoll.none _ _, HB.out.trans (setRow_below (by omega) _)⟩
    ·
     have hcu2 : xo.cur = x.cur := by simpa using hcu
     have HDF : Hid (holdR R x = (0, { R with A := PL })) := by show _ = _; rw [HPL.out]; unfold holdR; simp [hc, hr, ← hb, ← hxo, hbt, hcu2]
     have hcb : (xo.cur != x.cur) = false := by simpa using hcu2
     clear hxo hb hc hr hcu hcu2
     have hHRB : HT (w.alloc (.cells #[va, vb, vc] 26)) w.heap.size 26 [va, vb, vc] := by
      have := HT.new (w := w) (t := 26) (C := [va, vb, vc])
      exact this
     have hHRB := hHRB.below (w' := ((w.alloc (.cells #[va, vb, vc] 26)).alloc (.cells #[.int .i64 x.no, .int .i64 x.cur, .int .i64 x.price, .int .i64 x.cut] 42))) ((Below.refl _ _).alloc (Nat.le_refl _) _)
     have hHRB := hHRB.below (w' := (((w.alloc (.cells #[va, vb, vc] 26)).alloc (.cells #[.int .i64 x.no, .int .i64 x.cur, .int .i64 x.price, .int .i64 x.cut] 42)).alloc (.cells #[.slice none 0 0, .slice none 0 0, .slice none 0 0] 26))) ((Below.refl _ _).alloc (Nat.le_refl _) _)
     have HRB := Lib.hid hHRB
     clear hHRB
     have hHAB : HT ((w.alloc (.cells #[va, vb, vc] 26)).alloc (.cells #[.int .i64 x.no, .int .i64 x.cur, .int .i64 x.price, .int .i64 x.cut] 42)) (w.heap.size + 1) 42 [.int .i64 x.no, .int .i64 x.cur, .int .i64 x.price, .int .i64 x.cut] := by
      have := HT.new (w := (w.alloc (.cells #[va, vb, vc] 26))) (t := 42) (C := [.int .i64 x.no, .int .i64 x.cur, .int .i64 x.price, .int .i64 x.cut])
      rwa [show (w.alloc (.cells #[va, vb, vc] 26)).heap.size = (w.heap.size + 1) by simp] at this
     have hHAB := hHAB.below (w' := (((w.alloc (.cells #[va, vb, vc] 26)).alloc (.cells #[.int .i64 x.no, .int .i64 x.cur, .int .i64 x.price, .int .i64 x.cut] 42)).alloc (.cells #[.slice none 0 0, .slice none 0 0, .slice none 0 0] 26))) ((Below.refl _ _).alloc (Nat.le_refl _) _)
     have HAB := Lib.hid hHAB
     clear hHAB
     have hHZB : HT (((w.alloc (.cells #[va, vb, vc] 26)).alloc (.cells #[.int .i64 x.no, .int .i64 x.cur, .int .i64 x.price, .int .i64 x.cut] 42)).alloc (.cells #[.slice none 0 0, .slice none 0 0, .slice none 0 0] 26)) (w.heap.size + 2) 26 [.slice none 0 0, .slice none 0 0, .slice none 0 0] := by
      have := HT.new (w := ((w.alloc (.cells #[va, vb, vc] 26)).alloc (.cells #[.int .i64 x.no, .int .i64 x.cur, .int .i64 x.price, .int .i64 x.cut] 42))) (t := 26) (C := [.slice none 0 0, .slice none 0 0, .slice none 0 0])
      rwa [show ((w.alloc (.cells #[va, vb, vc] 26)).alloc (.cells #[.int .i64 x.no, .int .i64 x.cur, .int .i64 x.price, .int .i64 x.cut] 42)).heap.size = (w.heap.size + 2) by simp] at this
     have HZB := Lib.hid hHZB
     clear hHZB
     have hB : Below w.heap.size w (((w.alloc (.cells #[va, vb, vc] 26)).alloc (.cells #[.int .i64 x.no, .int .i64 x.cur, .int .i64 x.price, .int .i64 x.cut] 42)).alloc (.cells #[.slice none 0 0, .slice none 0 0, .slice none 0 0] 26)) := ((((Below.refl _ _).alloc (by simp <;> omega) _).alloc (by simp <;> omega) _).alloc (by simp <;> omega) _)
     have HB := Lib.hid hB
     clear hB
     have hS : w.heap.size + 3 ≤ (((w.alloc (.cells #[va, vb, vc] 26)).alloc (.cells #[.int .i64 x.no, .int .i64 x.cur, .int .i64 x.price, .int .i64 x.cut] 42)).alloc (.cells #[.slice none 0 0, .slice none 0 0, .slice none 0 0] 26)).heap.size := by simp <;> omega
     have HLE := Lib.hid hS
     clear hS
     go_enter Try.func35, Try.ntmps35
     go_upto_region 1 with fail
     generalize hW : (((w.alloc (.cells #[va, vb, vc] 26)).alloc (.cells #[.int .i64 x.no, .int .i64 x.cur, .int .i64 x.price, .int .i64 x.cut] 42)).alloc (.cells #[.slice none 0 0, .slice none 0 0, .slice none 0 0] 26)) = W0 at *
     clear hW
     have HSZr : Hid ((Try.prog.info? 26).map (·.size) = some (#[va, vb, vc] : Array Value).size) := by show _ = _; rw [rol_sz]; rfl
     have HRBx : Hid (W0.heap[w.heap.size]? = some (.cells #[va, vb, vc] 26 (0, 0))) := HRB.out
     go_wp2_with (first
      | (refine wpList_load_row rfl 26 (.tmp 2) rfl w.heap.size rfl 26 #[va, vb, vc] (0, 0) _ HRBx.out Try.underlying26 rfl HSZr.out ?_)
      | fail)
     refine (Check_any _ va vb vc R (HR.out.mono HB.out)).mono ?_
     clear HRBx
     rintro e wc ⟨rfl, hb⟩
     have HRBn := Lib.hid (HRB.out.below hb)
     clear HRB
     have HRB := HRBn
     clear HRBn
     have HABn := Lib.hid (HAB.out.below hb)
     clear HAB
     have HAB := HABn
     clear HABn
     have HZBn := Lib.hid (HZB.out.below hb)
     clear HZB
     have HZB := HZBn
     clear HZBn
     have HBn := Lib.hid (bgo HB.out hb HB.out.size)
     clear HB
     have HB := HBn
     clear HBn
     have HLEn := Lib.hid (Nat.le_trans HLE.out (Below.size hb))
     clear HLE
     have HLE := HLEn
     clear HLEn
     clear hb
     rw [HCK.out]
     have HRBx : Hid (wc.heap[w.heap.size]? = some (.cells #[va, vb, vc] 26 (0, 0))) := HRB.out
     have hcn := HAB.out.cell (j := 0) rfl
     go_wp2_with (first
      | (refine wpList_load_row rfl 26 (.tmp 2) rfl w.heap.size rfl 26 #[va, vb, vc] (0, 0) _ HRBx.out Try.underlying26 rfl HSZr.out ?_)
      | fail)
     refine (Asset_any _ va vb vc R.A x.no xo b (HR.out.2.2.mono HB.out) HXO.out HBB.out).mono ?_
     clear HRBx hcn
     rintro e wf ⟨rfl, hb⟩
     have HRBn := Lib.hid (HRB.out.below hb)
     clear HRB
     have HRB := HRBn
     clear HRBn
     have HABn := Lib.hid (HAB.out.below hb)
     clear HAB
     have HAB := HABn
     clear HABn
     have HZBn := Lib.hid (HZB.out.below hb)
     clear HZB
     have HZB := HZBn
     clear HZBn
     have HBn := Lib.hid (bgo HB.out hb HB.out.size)
     clear HB
     have HB := HBn
     clear HBn
     have HLEn := Lib.hid (Nat.le_trans HLE.out (Below.size hb))
     clear HLE
     have HLE := HLEn
     clear HLEn
     clear hb
     have HSZ1 : Hid ((Try.prog.info? 42).map (·.size) = some (#[.int .i64 xo.no, .int .i64 xo.cur, .int .i64 xo.price, .int .i64 xo.cut] : Array Value).size) := by show _ = _; rw [ass_sz]; rfl
     have HON1 : Hid ((#[.int .i64 xo.no, .int .i64 xo.cur, .int .i64 xo.price, .int .i64 xo.cut] : Array Value).all (·.oneCell') = true) := by show _ = true; simp [Value.oneCell']
     go_upto_region 3 with (first
      | (refine wpList_store_row rfl 42 (.tmp 7) (.tmp 16) rfl wf.heap.size #[.int .i64 xo.no, .int .i64 xo.cur, .int .i64 xo.price, .int .i64 xo.cut] rfl rfl 42 #[.int .i64 0, .int .i64 0, .int .i64 0, .int .i64 0] (heap_alloc_new _ _) HSZ1.out rfl HON1.out ?_)
      | fail)
     have hbs1 : Below wf.heap.size wf ((wf.alloc (.cells #[.int .i64 0, .int .i64 0, .int .i64 0, .int .i64 0] 42)).setRow wf.heap.size #[.int .i64 xo.no, .int .i64 xo.cur, .int .i64 xo.price, .int .i64 xo.cut]) := ((Below.refl _ _).alloc (Nat.le_refl _) _).trans (setRow_below (Nat.le_refl _) _)
     have hx1 : HT ((wf.alloc (.cells #[.int .i64 0, .int .i64 0, .int .i64 0, .int .i64 0] 42)).setRow wf.heap.size #[.int .i64 xo.no, .int .i64 xo.cur, .int .i64 xo.price, .int .i64 xo.cut]) wf.heap.size 42 [.int .i64 xo.no, .int .i64 xo.cur, .int .i64 xo.price, .int .i64 xo.cut] := setRow_heap _ _ _ _ _ _ (heap_alloc_new _ _)
     have hbw1 := bgo HB.out hbs1 (Below.size HB.out)
     obtain ⟨W1, hW1⟩ : ∃ zz, zz = ((wf.alloc (.cells #[.int .i64 0, .int .i64 0, .int .i64 0, .int .i64 0] 42)).setRow wf.heap.size #[.int .i64 xo.no, .int .i64 xo.cur, .int .i64 xo.price, .int .i64 xo.cut]) := ⟨_, rfl⟩
     rw [← hW1] at hbs1 hx1 hbw1 ⊢
     obtain ⟨gx1, hg1⟩ : ∃ zz, zz = wf.heap.size := ⟨_, rfl⟩
     rw [← hg1] at hx1 ⊢
     have HGE1 : Hid (∀ m, m ≤ wf.heap.size → m ≤ gx1) := fun m h => by omega
     have HX1 := Lib.hid hx1
     have HBW1 := Lib.hid hbw1
     have HBS1 := Lib.hid hbs1
     clear hW1 hx1 hbw1 hbs1 hg1 HON1
     have HGHF : Hid (w.heap.size + 3 ≤ gx1) := HGE1.out _ HLE.out
     clear HBW1 HGE1
     have HRBn := Lib.hid (HRB.out.below HBS1.out)
     clear HRB
     have HRB := HRBn
     clear HRBn
     have HABn := Lib.hid (HAB.out.below HBS1.out)
     clear HAB
     have HAB := HABn
     clear HABn
     have HZBn := Lib.hid (HZB.out.below HBS1.out)
     clear HZB
     have HZB := HZBn
     clear HZBn
     have HBn := Lib.hid (bgo HB.out HBS1.out HB.out.size)
     clear HB
     have HB := HBn
     clear HBn
     have HLEn := Lib.hid (Nat.le_trans HLE.out (Below.size HBS1.out))
     clear HLE
     have HLE := HLEn
     clear HLEn
     clear HBS1
     have HF := HX1
     clear HX1 HSZ1
     have HSZq : Hid ((Try.prog.info? 42).map (·.size) = some (#[.int .i64 x.no, .int .i64 x.cur, .int .i64 x.price, .int .i64 x.cut] : Array Value).size) := by show _ = _; rw [ass_sz]; rfl
     have HONq : Hid ((#[.int .i64 x.no, .int .i64 x.cur, .int .i64 x.price, .int .i64 x.cut] : Array Value).all (·.oneCell') = true) := by show _ = true; simp [Value.oneCell']
     have HABx : Hid (W1.heap[(w.heap.size + 1)]? = some (.cells #[.int .i64 x.no, .int .i64 x.cur, .int .i64 x.price, .int .i64 x.cut] 42 (0, 0))) := HAB.out
     go_wp2_with (first
      | (refine wpList_load_row rfl 42 (.tmp 3) rfl (w.heap.size + 1) rfl 42 #[.int .i64 x.no, .int .i64 x.cur, .int .i64 x.price, .int .i64 x.cut] (0, 0) _ HABx.out Try.underlying42 rfl HSZq.out ?_)
      | fail)
     refine (rightA_any _ x.no x.cur x.price x.cut).mono ?_
     clear HABx
     rintro e wr ⟨rfl, hb⟩
     have HRBn := Lib.hid (HRB.out.below hb)
     clear HRB
     have HRB := HRBn
     clear HRBn
     have HABn := Lib.hid (HAB.out.below hb)
     clear HAB
     have HAB := HABn
     clear HABn
     have HZBn := Lib.hid (HZB.out.below hb)
     clear HZB
     have HZB := HZBn
     clear HZBn
     have HFn := Lib.hid (HF.out.below hb)
     clear HF
     have HF := HFn
     clear HFn
     have HBn := Lib.hid (bgo HB.out hb HB.out.size)
     clear HB
     have HB := HBn
     clear HBn
     have HLEn := Lib.hid (Nat.le_trans HLE.out (Below.size hb))
     clear HLE
     have HLE := HLEn
     clear HLEn
     clear hb
     rw [HRI.out]
     have c1 := HF.out.cell (j := 1) rfl
     have c2 := HAB.out.cell (j := 1) rfl
     go_upto_region 7 with fail
     clear c1 c2
     have HRBx : Hid (wr.heap[w.heap.size]? = some (.cells #[va, vb, vc] 26 (0, 0))) := HRB.out
     have tw := twin_any wr va vb vc R (HR.out.mono HB.out) HFEW.out
     go_wp2_with (first
      | (refine wpList_load_row rfl 26 (.tmp 2) rfl w.heap.size rfl 26 #[va, vb, vc] (0, 0) _ HRBx.out Try.underlying26 rfl HSZr.out ?_)
      | fail)
     refine tw.mono ?_
     clear tw HRBx
     obtain ⟨bs, hbs⟩ : ∃ zz, zz = wr.heap.size := ⟨_, rfl⟩
     have HBS : Hid (w.heap.size + 3 ≤ bs) := by show _ ≤ _; have := HLE.out; omega
     have HPB : Hid ((w.heap.size + 1) < bs) := by show _ < _; have := HAB.out.lt; omega
     rintro e wt ⟨aM, nM, cM, aI, nI, cI, aA, nA, cA, rfl, ho, hap, hb⟩
     rw [← hbs] at ho
     have HO := Lib.hid ho
     have HAP := Lib.hid hap
     clear ho hap
     have HRBn := Lib.hid (HRB.out.below hb)
     clear HRB
     have HRB := HRBn
     clear HRBn
     have HABn := Lib.hid (HAB.out.below hb)
     clear HAB
     have HAB := HABn
     clear HABn
     have HZBn := Lib.hid (HZB.out.below hb)
     clear HZB
     have HZB := HZBn
     clear HZBn
     have HFn := Lib.hid (HF.out.below hb)
     clear HF
     have HF := HFn
     clear HFn
     have HBn := Lib.hid (bgo HB.out hb HB.out.size)
     clear HB
     have HB := HBn
     clear HBn
     have HLEn := Lib.hid (Nat.le_trans HLE.out (Below.size hb))
     clear HLE
     have HLE := HLEn
     clear HLEn
     have HBU : Hid (bs ≤ wt.heap.size) := by show _ ≤ _; have := hb.size; omega
     clear hbs hb
     have HSZs : Hid ((Try.prog.info? 26).map (·.size) = some (#[.slice aM nM cM, .slice aI nI cI, .slice aA nA cA] : Array Value).size) := by show _ = _; rw [rol_sz]; rfl
     have HONs : Hid ((#[.slice aM nM cM, .slice aI nI cI, .slice aA nA cA] : Array Value).all (·.oneCell') = true) := by show _ = true; simp [Value.oneCell']
     have HRBx : Hid (wt.heap[w.heap.size]? = some (.cells #[va, vb, vc] 26 (0, 0))) := HRB.out
     go_upto_region 8 with (first
      | (refine wpList_store_row rfl 26 (.tmp 2) (.tmp 39) rfl w.heap.size #[.slice aM nM cM, .slice aI nI cI, .slice aA nA cA] rfl rfl 26 #[va, vb, vc] HRBx.out HSZs.out rfl HONs.out ?_)
      | fail)
     clear HF
     have hk : Kept (fun k => k = w.heap.size) wt (wt.setRow w.heap.size #[.slice aM nM cM, .slice aI nI cI, .slice aA nA cA]) := setRow_kept _ _ _
     have hHRB := Lib.hid ((HT.row HRBx.out rfl : HT (wt.setRow w.heap.size #[.slice aM nM cM, .slice aI nI cI, .slice aA nA cA]) w.heap.size 26 [.slice aM nM cM, .slice aI nI cI, .slice aA nA cA]))
     have hHAB := Lib.hid (HAB.out.keptS hk (fun (e : (w.heap.size + 1) = w.heap.size) => by  omega))
     have hHZB := Lib.hid (HZB.out.keptS hk (fun (e : (w.heap.size + 2) = w.heap.size) => by  omega))
     have hB : Hid (Below w.heap.size w (wt.setRow w.heap.size #[.slice aM nM cM, .slice aI nI cI, .slice aA nA cA])) := (HB.out : Below w.heap.size w wt).trans (Kept.below hk (fun k h (e : k = w.heap.size) => by  omega) HB.out.size)
     have hLE : Hid (w.heap.size + 3 ≤ ((wt.setRow w.heap.size #[.slice aM nM cM, .slice aI nI cI, .slice aA nA cA])).heap.size) := Nat.le_trans HLE.out hk.size
     clear HB HLE HRB HAB HZB
     have HRB := hHRB
     clear hHRB
     have HAB := hHAB
     clear hHAB
     have HZB := hHZB
     clear hHZB
     have HB := hB
     clear hB
     have HLE := hLE
     clear hLE
     have hO := Lib.hid (HO.out.keptS hk (fun k h (e : k = w.heap.size) => by have := HBS.out; omega))
     have hBU : Hid (bs ≤ ((wt.setRow w.heap.size #[.slice aM nM cM, .slice aI nI cI, .slice aA nA cA])).heap.size) := Nat.le_trans HBU.out hk.size
     clear HO HRBx HBU
     have HO := hO
     clear hO
     have HBU := hBU
     clear hBU
     clear hk
     generalize hW : (wt.setRow w.heap.size #[.slice aM nM cM, .slice aI nI cI, .slice aA nA cA]) = wu at *
     clear hW
     have pt := putA_any wu bs aA nA cA R.A px HO.out.2.2 (by have := HFEW.out; unfold few at this; omega) HBU.out
     unfold RowsPost at pt
     rw [HPX.out] at pt
     try dsimp only at pt
     rw [← HPL.out] at pt
     have hcr := HRB.out.cell (j := 2) rfl
     have HABx : Hid (wu.heap[(w.heap.size + 1)]? = some (.cells #[.int .i64 x.no, .int .i64 x.cur, .int .i64 x.price, .int .i64 x.cut] 42 (0, 0))) := HAB.out
     have HSZp : Hid ((Try.prog.info? 42).map (·.size) = some (#[.int .i64 x.no, .int .i64 x.cur, .int .i64 x.price, .int .i64 x.cut] : Array Value).size) := by show _ = _; rw [ass_sz]; rfl
     have HONp : Hid ((#[.int .i64 x.no, .int .i64 x.cur, .int .i64 x.price, .int .i64 x.cut] : Array Value).all (·.oneCell') = true) := by show _ = true; simp [Value.oneCell']
     go_wp2_with (first
      | (refine wpList_load_row rfl 42 (.tmp 3) rfl (w.heap.size + 1) rfl 42 #[.int .i64 x.no, .int .i64 x.cur, .int .i64 x.price, .int .i64 x.cut] (0, 0) _ HABx.out Try.underlying42 rfl HSZp.out ?_)
      | fail)
     refine pt.mono ?_
     clear pt hcr HABx
     rintro e wp ⟨aN, nN, cN, rfl, hon, hbp, hkp⟩
     clear HAB
     have hRB := Lib.hid (HRB.out.belowB hbp (by have := HBS.out; omega))
     have hZB := Lib.hid (HZB.out.belowB hbp (by have := HBS.out; omega))
     have hOM := Lib.hid (OwnR.keptS HO.out.1 hkp (fun g h1 h2 => HAP.out.2.1 g h1 h2))
     have hOI := Lib.hid (OwnR.keptS HO.out.2.1 hkp (fun g h1 h2 => HAP.out.2.2 g h1 h2))
     have hB : Hid (Below w.heap.size w wp) := HB.out.trans (hbp.mono (by have := HBS.out; omega))
     have hOn := Lib.hid hon
     clear HRB HZB HB HO HLE HBU hkp hbp hon HAP
     have HRB := hRB
     clear hRB
     have HZB := hZB
     clear hZB
     have HB := hB
     clear hB
     have HOn := hOn
     clear hOn
     have HOM := hOM
     clear hOM
     have HOI := hOI
     clear hOI
     have hcr := HRB.out.cell (j := 2) rfl
     have hfr := HRB.out.frozen 2
     go_upto_region 9 with fail
     clear hcr hfr
     have hk : Kept (fun k => k = w.heap.size) wp (wp.setCell ⟨w.heap.size, 2, none⟩ (.slice aN nN cN)) := (Kept.refl _ _).setCell ⟨w.heap.size, 2, none⟩ _ rfl
     have hRB : Hid (HT (wp.setCell ⟨w.heap.size, 2, none⟩ (.slice aN nN cN)) w.heap.size 26 [.slice aM nM cM, .slice aI nI cI, .slice aN nN cN]) := HRB.out.put 2 _
     have hZB := Lib.hid (HZB.out.keptS hk (fun (e : (w.heap.size + 2) = w.heap.size) => by omega))
     have hB : Hid (Below w.heap.size w (wp.setCell ⟨w.heap.size, 2, none⟩ (.slice aN nN cN))) := HB.out.setCell (by show w.heap.size ≤ w.heap.size; omega) _
     have hOn := Lib.hid (OwnR.keptS HOn.out hk (fun j h1 (e : j = w.heap.size) => by have := OwnR.ge HOn.out j h1; have := HBS.out; omega))
     have hOM := Lib.hid (OwnR.keptS HOM.out hk (fun j h1 (e : j = w.heap.size) => by have := OwnR.ge HOM.out j h1; have := HBS.out; omega))
     have hOI := Lib.hid (OwnR.keptS HOI.out hk (fun j h1 (e : j = w.heap.size) => by have := OwnR.ge HOI.out j h1; have := HBS.out; omega))
     clear HRB HZB HB hk HOn HOM HOI
     have HRB := hRB
     clear hRB
     have HZB := hZB
     clear hZB
     have HB := hB
     clear hB
     have HOn := hOn
     clear hOn
     have HOM := hOM
     clear hOM
     have HOI := hOI
     clear hOI
     generalize hW : (wp.setCell ⟨w.heap.size, 2, none⟩ (.slice aN nN cN)) = wq at *
     clear hW
     have HSZf : Hid ((Try.prog.info? 26).map (·.size) = some (#[.slice aM nM cM, .slice aI nI cI, .slice aN nN cN] : Array Value).size) := by show _ = _; rw [rol_sz]; rfl
     have HONf : Hid ((#[.slice aM nM cM, .slice aI nI cI, .slice aN nN cN] : Array Value).all (·.oneCell') = true) := by show _ = true; simp [Value.oneCell']
     have HRBx : Hid (wq.heap[w.heap.size]? = some (.cells #[.slice aM nM cM, .slice aI nI cI, .slice aN nN cN] 26 (0, 0))) := HRB.out
     have HZBx : Hid (wq.heap[(w.heap.size + 2)]? = some (.cells #[.slice none 0 0, .slice none 0 0, .slice none 0 0] 26 (0, 0))) := HZB.out
     go_wp2_with (first
      | (refine wpList_load_row rfl 26 (.tmp 2) rfl w.heap.size rfl 26 #[.slice aM nM cM, .slice aI nI cI, .slice aN nN cN] (0, 0) _ HRBx.out Try.underlying26 rfl HSZf.out ?_)
      | (refine wpList_store_row rfl 26 (.tmp 4) (.tmp 45) rfl (w.heap.size + 2) #[.slice aM nM cM, .slice aI nI cI, .slice aN nN cN] rfl rfl 26 #[.slice none 0 0, .slice none 0 0, .slice none 0 0] HZBx.out HSZf.out rfl HONf.out ?_)
      | fail)
     have hk := setRow_kept wq (w.heap.size + 2) #[.slice aM nM cM, .slice aI nI cI, .slice aN nN cN]
     refine bodyPost_ret (results_ht rfl (HT.row HZBx.out rfl) rfl rfl Try.underlying26 rfl rol_sz) rfl ?_
     rw [HDF.out]
     exact ⟨_, _, _, _, _, _, _, _, _, rfl, ⟨(OwnR.keptS HOM.out hk (fun j h1 (e : j = (w.heap.size + 2)) => by have := OwnR.ge HOM.out j h1; have := HBS.out; omega)).base (by have := HBS.out; omega), (OwnR.keptS HOI.out hk (fun j h1 (e : j = (w.heap.size + 2)) => by have := OwnR.ge HOI.out j h1; have := HBS.out; omega)).base (by have := HBS.out; omega), (OwnR.keptS HOn.out hk (fun j h1 (e : j = (w.heap.size + 2)) => by have := OwnR.ge HOn.out j h1; have := HBS.out; omega)).base (by have := HBS.out; omega)⟩, HB.out.trans (setRow_below (by omega) _)⟩
   ·
    have hb2 : b = false := by simpa using hbt
    have HDF : Hid (holdR R x = (0, { R with A := PL })) := by show _ = _; rw [HPL.out]; unfold holdR; simp [hc, hr, ← hb, hb2]
    clear hxo hb hc hr hbt
    have hHRB : HT (w.alloc (.cells #[va, vb, vc] 26)) w.heap.size 26 [va, vb, vc] := by
     have := HT.new (w := w) (t := 26) (C := [va, vb, vc])
     exact this
    have hHRB := hHRB.below (w' := ((w.alloc (.cells #[va, vb, vc] 26)).alloc (.cells #[.int .i64 x.no, .int .i64 x.cur, .int .i64 x.price, .int .i64 x.cut] 42))) ((Below.refl _ _).alloc (Nat.le_refl _) _)
    have hHRB := hHRB.below (w' := (((w.alloc (.cells #[va, vb, vc] 26)).alloc (.cells #[.int .i64 x.no, .int .i64 x.cur, .int .i64 x.price, .int .i64 x.cut] 42)).alloc (.cells #[.slice none 0 0, .slice none 0 0, .slice none 0 0] 26))) ((Below.refl _ _).alloc (Nat.le_refl _) _)
    have HRB := Lib.hid hHRB
    clear hHRB
    have hHAB : HT ((w.alloc (.cells #[va, vb, vc] 26)).alloc (.cells #[.int .i64 x.no, .int .i64 x.cur, .int .i64 x.price, .int .i64 x.cut] 42)) (w.heap.size + 1) 42 [.int .i64 x.no, .int .i64 x.cur, .int .i64 x.price, .int .i64 x.cut] := by
     have := HT.new (w := (w.alloc (.cells #[va, vb, vc] 26))) (t := 42) (C := [.int .i64 x.no, .int .i64 x.cur, .int .i64 x.price, .int .i64 x.cut])
     rwa [show (w.alloc (.cells #[va, vb, vc] 26)).heap.size = (w.heap.size + 1) by simp] at this
    have hHAB := hHAB.below (w' := (((w.alloc (.cells #[va, vb, vc] 26)).alloc (.cells #[.int .i64 x.no, .int .i64 x.cur, .int .i64 x.price, .int .i64 x.cut] 42)).alloc (.cells #[.slice none 0 0, .slice none 0 0, .slice none 0 0] 26))) ((Below.refl _ _).alloc (Nat.le_refl _) _)
    have HAB := Lib.hid hHAB
    clear hHAB
    have hHZB : HT (((w.alloc (.cells #[va, vb, vc] 26)).alloc (.cells #[.int .i64 x.no, .int .i64 x.cur, .int .i64 x.price, .int .i64 x.cut] 42)).alloc (.cells #[.slice none 0 0, .slice none 0 0, .slice none 0 0] 26)) (w.heap.size + 2) 26 [.slice none 0 0, .slice none 0 0, .slice none 0 0] := by
     have := HT.new (w := ((w.alloc (.cells #[va, vb, vc] 26)).alloc (.cells #[.int .i64 x.no, .int .i64 x.cur, .int .i64 x.price, .int .i64 x.cut] 42))) (t := 26) (C := [.slice none 0 0, .slice none 0 0, .slice none 0 0])
     rwa [show ((w.alloc (.cells #[va, vb, vc] 26)).alloc (.cells #[.int .i64 x.no, .int .i64 x.cur, .int .i64 x.price, .int .i64 x.cut] 42)).heap.size = (w.heap.size + 2) by simp] at this
    have HZB := Lib.hid hHZB
    clear hHZB
    have hB : Below w.heap.size w (((w.alloc (.cells #[va, vb, vc] 26)).alloc (.cells #[.int .i64 x.no, .int .i64 x.cur, .int .i64 x.price, .int .i64 x.cut] 42)).alloc (.cells #[.slice none 0 0, .slice none 0 0, .slice none 0 0] 26)) := ((((Below.refl _ _).alloc (by simp <;> omega) _).alloc (by simp <;> omega) _).alloc (by simp <;> omega) _)
    have HB := Lib.hid hB
    clear hB
    have hS : w.heap.size + 3 ≤ (((w.alloc (.cells #[va, vb, vc] 26)).alloc (.cells #[.int .i64 x.no, .int .i64 x.cur, .int .i64 x.price, .int .i64 x.cut] 42)).alloc (.cells #[.slice none 0 0, .slice none 0 0, .slice none 0 0] 26)).heap.size := by simp <;> omega
    have HLE := Lib.hid hS
    clear hS
    go_enter Try.func35, Try.ntmps35
    go_upto_region 1 with fail
    generalize hW : (((w.alloc (.cells #[va, vb, vc] 26)).alloc (.cells #[.int .i64 x.no, .int .i64 x.cur, .int .i64 x.price, .int .i64 x.cut] 42)).alloc (.cells #[.slice none 0 0, .slice none 0 0, .slice none 0 0] 26)) = W0 at *
    clear hW
    have HSZr : Hid ((Try.prog.info? 26).map (·.size) = some (#[va, vb, vc] : Array Value).size) := by show _ = _; rw [rol_sz]; rfl
    have HRBx : Hid (W0.heap[w.heap.size]? = some (.cells #[va, vb, vc] 26 (0, 0))) := HRB.out
    go_wp2_with (first
     | (refine wpList_load_row rfl 26 (.tmp 2) rfl w.heap.size rfl 26 #[va, vb, vc] (0, 0) _ HRBx.out Try.underlying26 rfl HSZr.out ?_)
     | fail)
    refine (Check_any _ va vb vc R (HR.out.mono HB.out)).mono ?_
    clear HRBx
    rintro e wc ⟨rfl, hb⟩
    have HRBn := Lib.hid (HRB.out.below hb)
    clear HRB
    have HRB := HRBn
    clear HRBn
    have HABn := Lib.hid (HAB.out.below hb)
    clear HAB
    have HAB := HABn
    clear HABn
    have HZBn := Lib.hid (HZB.out.below hb)
    clear HZB
    have HZB := HZBn
    clear HZBn
    have HBn := Lib.hid (bgo HB.out hb HB.out.size)
    clear HB
    have HB := HBn
    clear HBn
    have HLEn := Lib.hid (Nat.le_trans HLE.out (Below.size hb))
    clear HLE
    have HLE := HLEn
    clear HLEn
    clear hb
    rw [HCK.out]
    have HRBx : Hid (wc.heap[w.heap.size]? = some (.cells #[va, vb, vc] 26 (0, 0))) := HRB.out
    have hcn := HAB.out.cell (j := 0) rfl
    go_wp2_with (first
     | (refine wpList_load_row rfl 26 (.tmp 2) rfl w.heap.size rfl 26 #[va, vb, vc] (0, 0) _ HRBx.out Try.underlying26 rfl HSZr.out ?_)
     | fail)
    refine (Asset_any _ va vb vc R.A x.no xo b (HR.out.2.2.mono HB.out) HXO.out HBB.out).mono ?_
    clear HRBx hcn
    rintro e wf ⟨rfl, hb⟩
    have HRBn := Lib.hid (HRB.out.below hb)
    clear HRB
    have HRB := HRBn
    clear HRBn
    have HABn := Lib.hid (HAB.out.below hb)
    clear HAB
    have HAB := HABn
    clear HABn
    have HZBn := Lib.hid (HZB.out.below hb)
    clear HZB
    have HZB := HZBn
    clear HZBn
    have HBn := Lib.hid (bgo HB.out hb HB.out.size)
    clear HB
    have HB := HBn
    clear HBn
    have HLEn := Lib.hid (Nat.le_trans HLE.out (Below.size hb))
    clear HLE
    have HLE := HLEn
    clear HLEn
    clear hb
    have HSZ1 : Hid ((Try.prog.info? 42).map (·.size) = some (#[.int .i64 xo.no, .int .i64 xo.cur, .int .i64 xo.price, .int .i64 xo.cut] : Array Value).size) := by show _ = _; rw [ass_sz]; rfl
    have HON1 : Hid ((#[.int .i64 xo.no, .int .i64 xo.cur, .int .i64 xo.price, .int .i64 xo.cut] : Array Value).all (·.oneCell') = true) := by show _ = true; simp [Value.oneCell']
    go_upto_region 3 with (first
     | (refine wpList_store_row rfl 42 (.tmp 7) (.tmp 16) rfl wf.heap.size #[.int .i64 xo.no, .int .i64 xo.cur, .int .i64 xo.price, .int .i64 xo.cut] rfl rfl 42 #[.int .i64 0, .int .i64 0, .int .i64 0, .int .i64 0] (heap_alloc_new _ _) HSZ1.out rfl HON1.out ?_)
     | fail)
    have hbs1 : Below wf.heap.size wf ((wf.alloc (.cells #[.int .i64 0, .int .i64 0, .int .i64 0, .int .i64 0] 42)).setRow wf.heap.size #[.int .i64 xo.no, .int .i64 xo.cur, .int .i64 xo.price, .int .i64 xo.cut]) := ((Below.refl _ _).alloc (Nat.le_refl _) _).trans (setRow_below (Nat.le_refl _) _)
    have hx1 : HT ((wf.alloc (.cells #[.int .i64 0, .int .i64 0, .int .i64 0, .int .i64 0] 42)).setRow wf.heap.size #[.int .i64 xo.no, .int .i64 xo.cur, .int .i64 xo.price, .int .i64 xo.cut]) wf.heap.size 42 [.int .i64 xo.no, .int .i64 xo.cur, .int .i64 xo.price, .int .i64 xo.cut] := setRow_heap _ _ _ _ _ _ (heap_alloc_new _ _)
    have hbw1 := bgo HB.out hbs1 (Below.size HB.out)
    obtain ⟨W1, hW1⟩ : ∃ zz, zz = ((wf.alloc (.cells #[.int .i64 0, .int .i64 0, .int .i64 0, .int .i64 0] 42)).setRow wf.heap.size #[.int .i64 xo.no, .int .i64 xo.cur, .int .i64 xo.price, .int .i64 xo.cut]) := ⟨_, rfl⟩
    rw [← hW1] at hbs1 hx1 hbw1 ⊢
    obtain ⟨gx1, hg1⟩ : ∃ zz, zz = wf.heap.size := ⟨_, rfl⟩
    rw [← hg1] at hx1 ⊢
    have HGE1 : Hid (∀ m, m ≤ wf.heap.size → m ≤ gx1) := fun m h => by omega
    have HX1 := Lib.hid hx1
    have HBW1 := Lib.hid hbw1
    have HBS1 := Lib.hid hbs1
    clear hW1 hx1 hbw1 hbs1 hg1 HON1
    have HGHF : Hid (w.heap.size + 3 ≤ gx1) := HGE1.out _ HLE.out
    clear HBW1 HGE1
    have HRBn := Lib.hid (HRB.out.below HBS1.out)
    clear HRB
    have HRB := HRBn
    clear HRBn
    have HABn := Lib.hid (HAB.out.below HBS1.out)
    clear HAB
    have HAB := HABn
    clear HABn
    have HZBn := Lib.hid (HZB.out.below HBS1.out)
    clear HZB
    have HZB := HZBn
    clear HZBn
    have HBn := Lib.hid (bgo HB.out HBS1.out HB.out.size)
    clear HB
    have HB := HBn
    clear HBn
    have HLEn := Lib.hid (Nat.le_trans HLE.out (Below.size HBS1.out))
    clear HLE
    have HLE := HLEn
    clear HLEn
    clear HBS1
    have HF := HX1
    clear HX1 HSZ1
    have HSZq : Hid ((Try.prog.info? 42).map (·.size) = some (#[.int .i64 x.no, .int .i64 x.cur, .int .i64 x.price, .int .i64 x.cut] : Array Value).size) := by show _ = _; rw [ass_sz]; rfl
    have HONq : Hid ((#[.int .i64 x.no, .int .i64 x.cur, .int .i64 x.price, .int .i64 x.cut] : Array Value).all (·.oneCell') = true) := by show _ = true; simp [Value.oneCell']
    have HABx : Hid (W1.heap[(w.heap.size + 1)]? = some (.cells #[.int .i64 x.no, .int .i64 x.cur, .int .i64 x.price, .int .i64 x.cut] 42 (0, 0))) := HAB.out
    go_wp2_with (first
     | (refine wpList_load_row rfl 42 (.tmp 3) rfl (w.heap.size + 1) rfl 42 #[.int .i64 x.no, .int .i64 x.cur, .int .i64 x.price, .int .i64 x.cut] (0, 0) _ HABx.out Try.underlying42 rfl HSZq.out ?_)
     | fail)
    refine (rightA_any _ x.no x.cur x.price x.cut).mono ?_
    clear HABx
    rintro e wr ⟨rfl, hb⟩
    have HRBn := Lib.hid (HRB.out.below hb)
    clear HRB
    have HRB := HRBn
    clear HRBn
    have HABn := Lib.hid (HAB.out.below hb)
    clear HAB
    have HAB := HABn
    clear HABn
    have HZBn := Lib.hid (HZB.out.below hb)
    clear HZB
    have HZB := HZBn
    clear HZBn
    have HFn := Lib.hid (HF.out.below hb)
    clear HF
    have HF := HFn
    clear HFn
    have HBn := Lib.hid (bgo HB.out hb HB.out.size)
    clear HB
    have HB := HBn
    clear HBn
    have HLEn := Lib.hid (Nat.le_trans HLE.out (Below.size hb))
    clear HLE
    have HLE := HLEn
    clear HLEn
    clear hb
    rw [HRI.out]
    have c1 := HF.out.cell (j := 1) rfl
    have c2 := HAB.out.cell (j := 1) rfl
    go_upto_region 7 with fail
    clear c1 c2
    have HRBx : Hid (wr.heap[w.heap.size]? = some (.cells #[va, vb, vc] 26 (0, 0))) := HRB.out
    have tw := twin_any wr va vb vc R (HR.out.mono HB.out) HFEW.out
    go_wp2_with (first
     | (refine wpList_load_row rfl 26 (.tmp 2) rfl w.heap.size rfl 26 #[va, vb, vc] (0, 0) _ HRBx.out Try.underlying26 rfl HSZr.out ?_)
     | fail)
    refine tw.mono ?_
    clear tw HRBx
    obtain ⟨bs, hbs⟩ : ∃ zz, zz = wr.heap.size := ⟨_, rfl⟩
    have HBS : Hid (w.heap.size + 3 ≤ bs) := by show _ ≤ _; have := HLE.out; omega
    have HPB : Hid ((w.heap.size + 1) < bs) := by show _ < _; have := HAB.out.lt; omega
    rintro e wt ⟨aM, nM, cM, aI, nI, cI, aA, nA, cA, rfl, ho, hap, hb⟩
    rw [← hbs] at ho
    have HO := Lib.hid ho
    have HAP := Lib.hid hap
    clear ho hap
    have HRBn := Lib.hid (HRB.out.below hb)
    clear HRB
    have HRB := HRBn
    clear HRBn
    have HABn := Lib.hid (HAB.out.below hb)
    clear HAB
    have HAB := HABn
    clear HABn
    have HZBn := Lib.hid (HZB.out.below hb)
    clear HZB
    have HZB := HZBn
    clear HZBn
    have HFn := Lib.hid (HF.out.below hb)
    clear HF
    have HF := HFn
    clear HFn
    have HBn := Lib.hid (bgo HB.out hb HB.out.size)
    clear HB
    have HB := HBn
    clear HBn
    have HLEn := Lib.hid (Nat.le_trans HLE.out (Below.size hb))
    clear HLE
    have HLE := HLEn
    clear HLEn
    have HBU : Hid (bs ≤ wt.heap.size) := by show _ ≤ _; have := hb.size; omega
    clear hbs hb
    have HSZs : Hid ((Try.prog.info? 26).map (·.size) = some (#[.slice aM nM cM, .slice aI nI cI, .slice aA nA cA] : Array Value).size) := by show _ = _; rw [rol_sz]; rfl
    have HONs : Hid ((#[.slice aM nM cM, .slice aI nI cI, .slice aA nA cA] : Array Value).all (·.oneCell') = true) := by show _ = true; simp [Value.oneCell']
    have HRBx : Hid (wt.heap[w.heap.size]? = some (.cells #[va, vb, vc] 26 (0, 0))) := HRB.out
    go_upto_region 8 with (first
     | (refine wpList_store_row rfl 26 (.tmp 2) (.tmp 39) rfl w.heap.size #[.slice aM nM cM, .slice aI nI cI, .slice aA nA cA] rfl rfl 26 #[va, vb, vc] HRBx.out HSZs.out rfl HONs.out ?_)
     | fail)
    clear HF
    have hk : Kept (fun k => k = w.heap.size) wt (wt.setRow w.heap.size #[.slice aM nM cM, .slice aI nI cI, .slice aA nA cA]) := setRow_kept _ _ _
    have hHRB := Lib.hid ((HT.row HRBx.out rfl : HT (wt.setRow w.heap.size #[.slice aM nM cM, .slice aI nI cI, .slice aA nA cA]) w.heap.size 26 [.slice aM nM cM, .slice aI nI cI, .slice aA nA cA]))
    have hHAB := Lib.hid (HAB.out.keptS hk (fun (e : (w.heap.size + 1) = w.heap.size) => by  omega))
    have hHZB := Lib.hid (HZB.out.keptS hk (fun (e : (w.heap.size + 2) = w.heap.size) => by  omega))
    have hB : Hid (Below w.heap.size w (wt.setRow w.heap.size #[.slice aM nM cM, .slice aI nI cI, .slice aA nA cA])) := (HB.out : Below w.heap.size w wt).trans (Kept.below hk (fun k h (e : k = w.heap.size) => by  omega) HB.out.size)
    have hLE : Hid (w.heap.size + 3 ≤ ((wt.setRow w.heap.size #[.slice aM nM cM, .slice aI nI cI, .slice aA nA cA])).heap.size) := Nat.le_trans HLE.out hk.size
    clear HB HLE HRB HAB HZB
    have HRB := hHRB
    clear hHRB
    have HAB := hHAB
    clear hHAB
    have HZB := hHZB
    clear hHZB
    have HB := hB
    clear hB
    have HLE := hLE
    clear hLE
    have hO := Lib.hid (HO.out.keptS hk (fun k h (e : k = w.heap.size) => by have := HBS.out; omega))
    have hBU : Hid (bs ≤ ((wt.setRow w.heap.size #[.slice aM nM cM, .slice aI nI cI, .slice aA nA cA])).heap.size) := Nat.le_trans HBU.out hk.size
    clear HO HRBx HBU
    have HO := hO
    clear hO
    have HBU := hBU
    clear hBU
    clear hk
    generalize hW : (wt.setRow w.heap.size #[.slice aM nM cM, .slice aI nI cI, .slice aA nA cA]) = wu at *
    clear hW
    have pt := putA_any wu bs aA nA cA R.A px HO.out.2.2 (by have := HFEW.out; unfold few at this; omega) HBU.out
    unfold RowsPost at pt
    rw [HPX.out] at pt
    try dsimp only at pt
    rw [← HPL.out] at pt
    have hcr := HRB.out.cell (j := 2) rfl
    have HABx : Hid (wu.heap[(w.heap.size + 1)]? = some (.cells #[.int .i64 x.no, .int .i64 x.cur, .int .i64 x.price, .int .i64 x.cut] 42 (0, 0))) := HAB.out
    have HSZp : Hid ((Try.prog.info? 42).map (·.size) = some (#[.int .i64 x.no, .int .i64 x.cur, .int .i64 x.price, .int .i64 x.cut] : Array Value).size) := by show _ = _; rw [ass_sz]; rfl
    have HONp : Hid ((#[.int .i64 x.no, .int .i64 x.cur, .int .i64 x.price, .int .i64 x.cut] : Array Value).all (·.oneCell') = true) := by show _ = true; simp [Value.oneCell']
    go_wp2_with (first
     | (refine wpList_load_row rfl 42 (.tmp 3) rfl (w.heap.size + 1) rfl 42 #[.int .i64 x.no, .int .i64 x.cur, .int .i64 x.price, .int .i64 x.cut] (0, 0) _ HABx.out Try.underlying42 rfl HSZp.out ?_)
     | fail)
    refine pt.mono ?_
    clear pt hcr HABx
    rintro e wp ⟨aN, nN, cN, rfl, hon, hbp, hkp⟩
    clear HAB
    have hRB := Lib.hid (HRB.out.belowB hbp (by have := HBS.out; omega))
    have hZB := Lib.hid (HZB.out.belowB hbp (by have := HBS.out; omega))
    have hOM := Lib.hid (OwnR.keptS HO.out.1 hkp (fun g h1 h2 => HAP.out.2.1 g h1 h2))
    have hOI := Lib.hid (OwnR.keptS HO.out.2.1 hkp (fun g h1 h2 => HAP.out.2.2 g h1 h2))
    have hB : Hid (Below w.heap.size w wp) := HB.out.trans (hbp.mono (by have := HBS.out; omega))
    have hOn := Lib.hid hon
    clear HRB HZB HB HO HLE HBU hkp hbp hon HAP
    have HRB := hRB
    clear hRB
    have HZB := hZB
    clear hZB
    have HB := hB
    clear hB
    have HOn := hOn
    clear hOn
    have HOM := hOM
    clear hOM
    have HOI := hOI
    clear hOI
    have hcr := HRB.out.cell (j := 2) rfl
    have hfr := HRB.out.frozen 2
    go_upto_region 9 with fail
    clear hcr hfr
    have hk : Kept (fun k => k = w.heap.size) wp (wp.setCell ⟨w.heap.size, 2, none⟩ (.slice aN nN cN)) := (Kept.refl _ _).setCell ⟨w.heap.size, 2, none⟩ _ rfl
    have hRB : Hid (HT (wp.setCell ⟨w.heap.size, 2, none⟩ (.slice aN nN cN)) w.heap.size 26 [.slice aM nM cM, .slice aI nI cI, .slice aN nN cN]) := HRB.out.put 2 _
    have hZB := Lib.hid (HZB.out.keptS hk (fun (e : (w.heap.size + 2) = w.heap.size) => by omega))
    have hB : Hid (Below w.heap.size w (wp.setCell ⟨w.heap.size, 2, none⟩ (.slice aN nN cN))) := HB.out.setCell (by show w.heap.size ≤ w.heap.size; omega) _
    have hOn := Lib.hid (OwnR.keptS HOn.out hk (fun j h1 (e : j = w.heap.size) => by have := OwnR.ge HOn.out j h1; have := HBS.out; omega))
    have hOM := Lib.hid (OwnR.keptS HOM.out hk (fun j h1 (e : j = w.heap.size) => by have := OwnR.ge HOM.out j h1; have := HBS.out; omega))
    have hOI := Lib.hid (OwnR.keptS HOI.out hk (fun j h1 (e : j = w.heap.size) => by have := OwnR.ge HOI.out j h1; have := HBS.out; omega))
    clear HRB HZB HB hk HOn HOM HOI
    have HRB := hRB
    clear hRB
    have HZB := hZB
    clear hZB
    have HB := hB
    clear hB
    have HOn := hOn
    clear hOn
    have HOM := hOM
    clear hOM
    have HOI := hOI
    clear hOI
    generalize hW : (wp.setCell ⟨w.heap.size, 2, none⟩ (.slice aN nN cN)) = wq at *
    clear hW
    have HSZf : Hid ((Try.prog.info? 26).map (·.size) = some (#[.slice aM nM cM, .slice aI nI cI, .slice aN nN cN] : Array Value).size) := by show _ = _; rw [rol_sz]; rfl
    have HONf : Hid ((#[.slice aM nM cM, .slice aI nI cI, .slice aN nN cN] : Array Value).all (·.oneCell') = true) := by show _ = true; simp [Value.oneCell']
    have HRBx : Hid (wq.heap[w.heap.size]? = some (.cells #[.slice aM nM cM, .slice aI nI cI, .slice aN nN cN] 26 (0, 0))) := HRB.out
    have HZBx : Hid (wq.heap[(w.heap.size + 2)]? = some (.cells #[.slice none 0 0, .slice none 0 0, .slice none 0 0] 26 (0, 0))) := HZB.out
    go_wp2_with (first
     | (refine wpList_load_row rfl 26 (.tmp 2) rfl w.heap.size rfl 26 #[.slice aM nM cM, .slice aI nI cI, .slice aN nN cN] (0, 0) _ HRBx.out Try.underlying26 rfl HSZf.out ?_)
     | (refine wpList_store_row rfl 26 (.tmp 4) (.tmp 45) rfl (w.heap.size + 2) #[.slice aM nM cM, .slice aI nI cI, .slice aN nN cN] rfl rfl 26 #[.slice none 0 0, .slice none 0 0, .slice none 0 0] HZBx.out HSZf.out rfl HONf.out ?_)
     | fail)
    have hk := setRow_kept wq (w.heap.size + 2) #[.slice aM nM cM, .slice aI nI cI, .slice aN nN cN]
    refine bodyPost_ret (results_ht rfl (HT.row HZBx.out rfl) rfl rfl Try.underlying26 rfl rol_sz) rfl ?_
    rw [HDF.out]
    exact ⟨_, _, _, _, _, _, _, _, _, rfl, ⟨(OwnR.keptS HOM.out hk (fun j h1 (e : j = (w.heap.size + 2)) => by have := OwnR.ge HOM.out j h1; have := HBS.out; omega)).base (by have := HBS.out; omega), (OwnR.keptS HOI.out hk (fun j h1 (e : j = (w.heap.size + 2)) => by have := OwnR.ge HOI.out j h1; have := HBS.out; omega)).base (by have := HBS.out; omega), (OwnR.keptS HOn.out hk (fun j h1 (e : j = (w.heap.size + 2)) => by have := OwnR.ge HOn.out j h1; have := HBS.out; omega)).base (by have := HBS.out; omega)⟩, HB.out.trans (setRow_below (by omega) _)⟩
  ·
   have hr2 : rightA x = false := by simpa using hr
   have HRI := Lib.hid hr2
   have HDF : Hid (holdR R x = (3, RollT.nil)) := by show _ = _; unfold holdR; simp [hc, hr2]
   clear hxo hb hc hr hr2
   have hHRB : HT (w.alloc (.cells #[va, vb, vc] 26)) w.heap.size 26 [va, vb, vc] := by
    have := HT.new (w := w) (t := 26) (C := [va, vb, vc])
    exact this
   have hHRB := hHRB.below (w' := ((w.alloc (.cells #[va, vb, vc] 26)).alloc (.cells #[.int .i64 x.no, .int .i64 x.cur, .int .i64 x.price, .int .i64 x.cut] 42))) ((Below.refl _ _).alloc (Nat.le_refl _) _)
   have hHRB := hHRB.below (w' := (((w.alloc (.cells #[va, vb, vc] 26)).alloc (.cells #[.int .i64 x.no, .int .i64 x.cur, .int .i64 x.price, .int .i64 x.cut] 42)).alloc (.cells #[.slice none 0 0, .slice none 0 0, .slice none 0 0] 26))) ((Below.refl _ _).alloc (Nat.le_refl _) _)
   have HRB := Lib.hid hHRB
   clear hHRB
   have hHAB : HT ((w.alloc (.cells #[va, vb, vc] 26)).alloc (.cells #[.int .i64 x.no, .int .i64 x.cur, .int .i64 x.price, .int .i64 x.cut] 42)) (w.heap.size + 1) 42 [.int .i64 x.no, .int .i64 x.cur, .int .i64 x.price, .int .i64 x.cut] := by
    have := HT.new (w := (w.alloc (.cells #[va, vb, vc] 26))) (t := 42) (C := [.int .i64 x.no, .int .i64 x.cur, .int .i64 x.price, .int .i64 x.cut])
    rwa [show (w.alloc (.cells #[va, vb, vc] 26)).heap.size = (w.heap.size + 1) by simp] at this
   have hHAB := hHAB.below (w' := (((w.alloc (.cells #[va, vb, vc] 26)).alloc (.cells #[.int .i64 x.no, .int .i64 x.cur, .int .i64 x.price, .int .i64 x.cut] 42)).alloc (.cells #[.slice none 0 0, .slice none 0 0, .slice none 0 0] 26))) ((Below.refl _ _).alloc (Nat.le_refl _) _)
   have HAB := Lib.hid hHAB
   clear hHAB
   have hHZB : HT (((w.alloc (.cells #[va, vb, vc] 26)).alloc (.cells #[.int .i64 x.no, .int .i64 x.cur, .int .i64 x.price, .int .i64 x.cut] 42)).alloc (.cells #[.slice none 0 0, .slice none 0 0, .slice none 0 0] 26)) (w.heap.size + 2) 26 [.slice none 0 0, .slice none 0 0, .slice none 0 0] := by
    have := HT.new (w := ((w.alloc (.cells #[va, vb, vc] 26)).alloc (.cells #[.int .i64 x.no, .int .i64 x.cur, .int .i64 x.price, .int .i64 x.cut] 42))) (t := 26) (C := [.slice none 0 0, .slice none 0 0, .slice none 0 0])
    rwa [show ((w.alloc (.cells #[va, vb, vc] 26)).alloc (.cells #[.int .i64 x.no, .int .i64 x.cur, .int .i64 x.price, .int .i64 x.cut] 42)).heap.size = (w.heap.size + 2) by simp] at this
   have HZB := Lib.hid hHZB
   clear hHZB
   have hB : Below w.heap.size w (((w.alloc (.cells #[va, vb, vc] 26)).alloc (.cells #[.int .i64 x.no, .int .i64 x.cur, .int .i64 x.price, .int .i64 x.cut] 42)).alloc (.cells #[.slice none 0 0, .slice none 0 0, .slice none 0 0] 26)) := ((((Below.refl _ _).alloc (by simp <;> omega) _).alloc (by simp <;> omega) _).alloc (by simp <;> omega) _)
   have HB := Lib.hid hB
   clear hB
   have hS : w.heap.size + 3 ≤ (((w.alloc (.cells #[va, vb, vc] 26)).alloc (.cells #[.int .i64 x.no, .int .i64 x.cur, .int .i64 x.price, .int .i64 x.cut] 42)).alloc (.cells #[.slice none 0 0, .slice none 0 0, .slice none 0 0] 26)).heap.size := by simp <;> omega
   have HLE := Lib.hid hS
   clear hS
   go_enter Try.func35, Try.ntmps35
   go_upto_region 1 with fail
   generalize hW : (((w.alloc (.cells #[va, vb, vc] 26)).alloc (.cells #[.int .i64 x.no, .int .i64 x.cur, .int .i64 x.price, .int .i64 x.cut] 42)).alloc (.cells #[.slice none 0 0, .slice none 0 0, .slice none 0 0] 26)) = W0 at *
   clear hW
   have HSZr : Hid ((Try.prog.info? 26).map (·.size) = some (#[va, vb, vc] : Array Value).size) := by show _ = _; rw [rol_sz]; rfl
   have HRBx : Hid (W0.heap[w.heap.size]? = some (.cells #[va, vb, vc] 26 (0, 0))) := HRB.out
   go_wp2_with (first
    | (refine wpList_load_row rfl 26 (.tmp 2) rfl w.heap.size rfl 26 #[va, vb, vc] (0, 0) _ HRBx.out Try.underlying26 rfl HSZr.out ?_)
    | fail)
   refine (Check_any _ va vb vc R (HR.out.mono HB.out)).mono ?_
   clear HRBx
   rintro e wc ⟨rfl, hb⟩
   have HRBn := Lib.hid (HRB.out.below hb)
   clear HRB
   have HRB := HRBn
   clear HRBn
   have HABn := Lib.hid (HAB.out.below hb)
   clear HAB
   have HAB := HABn
   clear HABn
   have HZBn := Lib.hid (HZB.out.below hb)
   clear HZB
   have HZB := HZBn
   clear HZBn
   have HBn := Lib.hid (bgo HB.out hb HB.out.size)
   clear HB
   have HB := HBn
   clear HBn
   have HLEn := Lib.hid (Nat.le_trans HLE.out (Below.size hb))
   clear HLE
   have HLE := HLEn
   clear HLEn
   clear hb
   rw [HCK.out]
   have HRBx : Hid (wc.heap[w.heap.size]? = some (.cells #[va, vb, vc] 26 (0, 0))) := HRB.out
   have hcn := HAB.out.cell (j := 0) rfl
   go_wp2_with (first
    | (refine wpList_load_row rfl 26 (.tmp 2) rfl w.heap.size rfl 26 #[va, vb, vc] (0, 0) _ HRBx.out Try.underlying26 rfl HSZr.out ?_)
    | fail)
   refine (Asset_any _ va vb vc R.A x.no xo b (HR.out.2.2.mono HB.out) HXO.out HBB.out).mono ?_
   clear HRBx hcn
   rintro e wf ⟨rfl, hb⟩
   have HRBn := Lib.hid (HRB.out.below hb)
   clear HRB
   have HRB := HRBn
   clear HRBn
   have HABn := Lib.hid (HAB.out.below hb)
   clear HAB
   have HAB := HABn
   clear HABn
   have HZBn := Lib.hid (HZB.out.below hb)
   clear HZB
   have HZB := HZBn
   clear HZBn
   have HBn := Lib.hid (bgo HB.out hb HB.out.size)
   clear HB
   have HB := HBn
   clear HBn
   have HLEn := Lib.hid (Nat.le_trans HLE.out (Below.size hb))
   clear HLE
   have HLE := HLEn
   clear HLEn
   clear hb
   have HSZ1 : Hid ((Try.prog.info? 42).map (·.size) = some (#[.int .i64 xo.no, .int .i64 xo.cur, .int .i64 xo.price, .int .i64 xo.cut] : Array Value).size) := by show _ = _; rw [ass_sz]; rfl
   have HON1 : Hid ((#[.int .i64 xo.no, .int .i64 xo.cur, .int .i64 xo.price, .int .i64 xo.cut] : Array Value).all (·.oneCell') = true) := by show _ = true; simp [Value.oneCell']
   go_upto_region 3 with (first
    | (refine wpList_store_row rfl 42 (.tmp 7) (.tmp 16) rfl wf.heap.size #[.int .i64 xo.no, .int .i64 xo.cur, .int .i64 xo.price, .int .i64 xo.cut] rfl rfl 42 #[.int .i64 0, .int .i64 0, .int .i64 0, .int .i64 0] (heap_alloc_new _ _) HSZ1.out rfl HON1.out ?_)
    | fail)
   have hbs1 : Below wf.heap.size wf ((wf.alloc (.cells #[.int .i64 0, .int .i64 0, .int .i64 0, .int .i64 0] 42)).setRow wf.heap.size #[.int .i64 xo.no, .int .i64 xo.cur, .int .i64 xo.price, .int .i64 xo.cut]) := ((Below.refl _ _).alloc (Nat.le_refl _) _).trans (setRow_below (Nat.le_refl _) _)
   have hx1 : HT ((wf.alloc (.cells #[.int .i64 0, .int .i64 0, .int .i64 0, .int .i64 0] 42)).setRow wf.heap.size #[.int .i64 xo.no, .int .i64 xo.cur, .int .i64 xo.price, .int .i64 xo.cut]) wf.heap.size 42 [.int .i64 xo.no, .int .i64 xo.cur, .int .i64 xo.price, .int .i64 xo.cut] := setRow_heap _ _ _ _ _ _ (heap_alloc_new _ _)
   have hbw1 := bgo HB.out hbs1 (Below.size HB.out)
   obtain ⟨W1, hW1⟩ : ∃ zz, zz = ((wf.alloc (.cells #[.int .i64 0, .int .i64 0, .int .i64 0, .int .i64 0] 42)).setRow wf.heap.size #[.int .i64 xo.no, .int .i64 xo.cur, .int .i64 xo.price, .int .i64 xo.cut]) := ⟨_, rfl⟩
   rw [← hW1] at hbs1 hx1 hbw1 ⊢
   obtain ⟨gx1, hg1⟩ : ∃ zz, zz = wf.heap.size := ⟨_, rfl⟩
   rw [← hg1] at hx1 ⊢
   have HGE1 : Hid (∀ m, m ≤ wf.heap.size → m ≤ gx1) := fun m h => by omega
   have HX1 := Lib.hid hx1
   have HBW1 := Lib.hid hbw1
   have HBS1 := Lib.hid hbs1
   clear hW1 hx1 hbw1 hbs1 hg1 HON1
   have HGHF : Hid (w.heap.size + 3 ≤ gx1) := HGE1.out _ HLE.out
   clear HBW1 HGE1
   have HRBn := Lib.hid (HRB.out.below HBS1.out)
   clear HRB
   have HRB := HRBn
   clear HRBn
   have HABn := Lib.hid (HAB.out.below HBS1.out)
   clear HAB
   have HAB := HABn
   clear HABn
   have HZBn := Lib.hid (HZB.out.below HBS1.out)
   clear HZB
   have HZB := HZBn
   clear HZBn
   have HBn := Lib.hid (bgo HB.out HBS1.out HB.out.size)
   clear HB
   have HB := HBn
   clear HBn
   have HLEn := Lib.hid (Nat.le_trans HLE.out (Below.size HBS1.out))
   clear HLE
   have HLE := HLEn
   clear HLEn
   clear HBS1
   have HF := HX1
   clear HX1 HSZ1
   have HSZq : Hid ((Try.prog.info? 42).map (·.size) = some (#[.int .i64 x.no, .int .i64 x.cur, .int .i64 x.price, .int .i64 x.cut] : Array Value).size) := by show _ = _; rw [ass_sz]; rfl
   have HONq : Hid ((#[.int .i64 x.no, .int .i64 x.cur, .int .i64 x.price, .int .i64 x.cut] : Array Value).all (·.oneCell') = true) := by show _ = true; simp [Value.oneCell']
   have HABx : Hid (W1.heap[(w.heap.size + 1)]? = some (.cells #[.int .i64 x.no, .int .i64 x.cur, .int .i64 x.price, .int .i64 x.cut] 42 (0, 0))) := HAB.out
   go_wp2_with (first
    | (refine wpList_load_row rfl 42 (.tmp 3) rfl (w.heap.size + 1) rfl 42 #[.int .i64 x.no, .int .i64 x.cur, .int .i64 x.price, .int .i64 x.cut] (0, 0) _ HABx.out Try.underlying42 rfl HSZq.out ?_)
    | fail)
   refine (rightA_any _ x.no x.cur x.price x.cut).mono ?_
   clear HABx
   rintro e wr ⟨rfl, hb⟩
   have HRBn := Lib.hid (HRB.out.below hb)
   clear HRB
   have HRB := HRBn
   clear HRBn
   have HABn := Lib.hid (HAB.out.below hb)
   clear HAB
   have HAB := HABn
   clear HABn
   have HZBn := Lib.hid (HZB.out.below hb)
   clear HZB
   have HZB := HZBn
   clear HZBn
   have HFn := Lib.hid (HF.out.below hb)
   clear HF
   have HF := HFn
   clear HFn
   have HBn := Lib.hid (bgo HB.out hb HB.out.size)
   clear HB
   have HB := HBn
   clear HBn
   have HLEn := Lib.hid (Nat.le_trans HLE.out (Below.size hb))
   clear HLE
   have HLE := HLEn
   clear HLEn
   clear hb
   rw [HRI.out]
   have c1 := HF.out.cell (j := 1) rfl
   have c2 := HAB.out.cell (j := 1) rfl
   have HSZz : Hid ((Try.prog.info? 26).map (·.size) = some (#[.slice none 0 0, .slice none 0 0, .slice none 0 0] : Array Value).size) := by show _ = _; rw [rol_sz]; rfl
   have HONz : Hid ((#[.slice none 0 0, .slice none 0 0, .slice none 0 0] : Array Value).all (·.oneCell') = true) := by show _ = true; simp [Value.oneCell']
   have HZBx : Hid (wr.heap[(w.heap.size + 2)]? = some (.cells #[.slice none 0 0, .slice none 0 0, .slice none 0 0] 26 (0, 0))) := HZB.out
   go_wp2_with (first
    | (refine wpList_store_row rfl 26 (.tmp 4) (.tmp 37) rfl (w.heap.size + 2) #[.slice none 0 0, .slice none 0 0, .slice none 0 0] rfl rfl 26 #[.slice none 0 0, .slice none 0 0, .slice none 0 0] HZBx.out HSZz.out rfl HONz.out ?_)
    | fail)
   refine bodyPost_ret (results_ht rfl (HT.row HZBx.out rfl) rfl rfl Try.underlying26 rfl rol_sz) rfl ?_
   rw [HDF.out]
   exact ⟨_, _, _, _, _, _, _, _, _, rfl, OwnRoll.none _ _, HB.out.trans (setRow_below (by omega) _)⟩
 ·
  have hc2 : chkR R = false := by simpa using hc
  have HCK : Hid (chkE R = 14) := by show _ = _; unfold chkE; simp [hc]
  have HDF : Hid (holdR R x = (14, RollT.nil)) := by show _ = _; unfold holdR; simp [hc2]
  clear hxo hb hc hc2
  have hHRB : HT (w.alloc (.cells #[va, vb, vc] 26)) w.heap.size 26 [va, vb, vc] := by
   have := HT.new (w := w) (t := 26) (C := [va, vb, vc])
   exact this
  have hHRB := hHRB.below (w' := ((w.alloc (.cells #[va, vb, vc] 26)).alloc (.cells #[.int .i64 x.no, .int .i64 x.cur, .int .i64 x.price, .int .i64 x.cut] 42))) ((Below.refl _ _).alloc (Nat.le_refl _) _)
  have hHRB := hHRB.below (w' := (((w.alloc (.cells #[va, vb, vc] 26)).alloc (.cells #[.int .i64 x.no, .int .i64 x.cur, .int .i64 x.price, .int .i64 x.cut] 42)).alloc (.cells #[.slice none 0 0, .slice none 0 0, .slice none 0 0] 26))) ((Below.refl _ _).alloc (Nat.le_refl _) _)
  have HRB := Lib.hid hHRB
  clear hHRB
  have hHAB : HT ((w.alloc (.cells #[va, vb, vc] 26)).alloc (.cells #[.int .i64 x.no, .int .i64 x.cur, .int .i64 x.price, .int .i64 x.cut] 42)) (w.heap.size + 1) 42 [.int .i64 x.no, .int .i64 x.cur, .int .i64 x.price, .int .i64 x.cut] := by
   have := HT.new (w := (w.alloc (.cells #[va, vb, vc] 26))) (t := 42) (C := [.int .i64 x.no, .int .i64 x.cur, .int .i64 x.price, .int .i64 x.cut])
   rwa [show (w.alloc (.cells #[va, vb, vc] 26)).heap.size = (w.heap.size + 1) by simp] at this
  have hHAB := hHAB.below (w' := (((w.alloc (.cells #[va, vb, vc] 26)).alloc (.cells #[.int .i64 x.no, .int .i64 x.cur, .int .i64 x.price, .int .i64 x.cut] 42)).alloc (.cells #[.slice none 0 0, .slice none 0 0, .slice none 0 0] 26))) ((Below.refl _ _).alloc (Nat.le_refl _) _)
  have HAB := Lib.hid hHAB
  clear hHAB
  have hHZB : HT (((w.alloc (.cells #[va, vb, vc] 26)).alloc (.cells #[.int .i64 x.no, .int .i64 x.cur, .int .i64 x.price, .int .i64 x.cut] 42)).alloc (.cells #[.slice none 0 0, .slice none 0 0, .slice none 0 0] 26)) (w.heap.size + 2) 26 [.slice none 0 0, .slice none 0 0, .slice none 0 0] := by
   have := HT.new (w := ((w.alloc (.cells #[va, vb, vc] 26)).alloc (.cells #[.int .i64 x.no, .int .i64 x.cur, .int .i64 x.price, .int .i64 x.cut] 42))) (t := 26) (C := [.slice none 0 0, .slice none 0 0, .slice none 0 0])
   rwa [show ((w.alloc (.cells #[va, vb, vc] 26)).alloc (.cells #[.int .i64 x.no, .int .i64 x.cur, .int .i64 x.price, .int .i64 x.cut] 42)).heap.size = (w.heap.size + 2) by simp] at this
  have HZB := Lib.hid hHZB
  clear hHZB
  have hB : Below w.heap.size w (((w.alloc (.cells #[va, vb, vc] 26)).alloc (.cells #[.int .i64 x.no, .int .i64 x.cur, .int .i64 x.price, .int .i64 x.cut] 42)).alloc (.cells #[.slice none 0 0, .slice none 0 0, .slice none 0 0] 26)) := ((((Below.refl _ _).alloc (by simp <;> omega) _).alloc (by simp <;> omega) _).alloc (by simp <;> omega) _)
  have HB := Lib.hid hB
  clear hB
  have hS : w.heap.size + 3 ≤ (((w.alloc (.cells #[va, vb, vc] 26)).alloc (.cells #[.int .i64 x.no, .int .i64 x.cur, .int .i64 x.price, .int .i64 x.cut] 42)).alloc (.cells #[.slice none 0 0, .slice none 0 0, .slice none 0 0] 26)).heap.size := by simp <;> omega
  have HLE := Lib.hid hS
  clear hS
  go_enter Try.func35, Try.ntmps35
  go_upto_region 1 with fail
  generalize hW : (((w.alloc (.cells #[va, vb, vc] 26)).alloc (.cells #[.int .i64 x.no, .int .i64 x.cur, .int .i64 x.price, .int .i64 x.cut] 42)).alloc (.cells #[.slice none 0 0, .slice none 0 0, .slice none 0 0] 26)) = W0 at *
  clear hW
  have HSZr : Hid ((Try.prog.info? 26).map (·.size) = some (#[va, vb, vc] : Array Value).size) := by show _ = _; rw [rol_sz]; rfl
  have HRBx : Hid (W0.heap[w.heap.size]? = some (.cells #[va, vb, vc] 26 (0, 0))) := HRB.out
  go_wp2_with (first
   | (refine wpList_load_row rfl 26 (.tmp 2) rfl w.heap.size rfl 26 #[va, vb, vc] (0, 0) _ HRBx.out Try.underlying26 rfl HSZr.out ?_)
   | fail)
  refine (Check_any _ va vb vc R (HR.out.mono HB.out)).mono ?_
  clear HRBx
  rintro e wc ⟨rfl, hb⟩
  have HRBn := Lib.hid (HRB.out.below hb)
  clear HRB
  have HRB := HRBn
  clear HRBn
  have HABn := Lib.hid (HAB.out.below hb)
  clear HAB
  have HAB := HABn
  clear HABn
  have HZBn := Lib.hid (HZB.out.below hb)
  clear HZB
  have HZB := HZBn
  clear HZBn
  have HBn := Lib.hid (bgo HB.out hb HB.out.size)
  clear HB
  have HB := HBn
  clear HBn
  have HLEn := Lib.hid (Nat.le_trans HLE.out (Below.size hb))
  clear HLE
  have HLE := HLEn
  clear HLEn
  clear hb
  rw [HCK.out]
  have HRBx : Hid (wc.heap[w.heap.size]? = some (.cells #[va, vb, vc] 26 (0, 0))) := HRB.out
  have hcn := HAB.out.cell (j := 0) rfl
  go_wp2_with (first
   | (refine wpList_load_row rfl 26 (.tmp 2) rfl w.heap.size rfl 26 #[va, vb, vc] (0, 0) _ HRBx.out Try.underlying26 rfl HSZr.out ?_)
   | fail)
  refine (Asset_any _ va vb vc R.A x.no xo b (HR.out.2.2.mono HB.out) HXO.out HBB.out).mono ?_
  clear HRBx hcn
  rintro e wf ⟨rfl, hb⟩
  have HRBn := Lib.hid (HRB.out.below hb)
  clear HRB
  have HRB := HRBn
  clear HRBn
  have HABn := Lib.hid (HAB.out.below hb)
  clear HAB
  have HAB := HABn
  clear HABn
  have HZBn := Lib.hid (HZB.out.below hb)
  clear HZB
  have HZB := HZBn
  clear HZBn
  have HBn := Lib.hid (bgo HB.out hb HB.out.size)
  clear HB
  have HB := HBn
  clear HBn
  have HLEn := Lib.hid (Nat.le_trans HLE.out (Below.size hb))
  clear HLE
  have HLE := HLEn
  clear HLEn
  clear hb
  have HSZ1 : Hid ((Try.prog.info? 42).map (·.size) = some (#[.int .i64 xo.no, .int .i64 xo.cur, .int .i64 xo.price, .int .i64 xo.cut] : Array Value).size) := by show _ = _; rw [ass_sz]; rfl
  have HON1 : Hid ((#[.int .i64 xo.no, .int .i64 xo.cur, .int .i64 xo.price, .int .i64 xo.cut] : Array Value).all (·.oneCell') = true) := by show _ = true; simp [Value.oneCell']
  go_upto_region 3 with (first
   | (refine wpList_store_row rfl 42 (.tmp 7) (.tmp 16) rfl wf.heap.size #[.int .i64 xo.no, .int .i64 xo.cur, .int .i64 xo.price, .int .i64 xo.cut] rfl rfl 42 #[.int .i64 0, .int .i64 0, .int .i64 0, .int .i64 0] (heap_alloc_new _ _) HSZ1.out rfl HON1.out ?_)
   | fail)
  have hbs1 : Below wf.heap.size wf ((wf.alloc (.cells #[.int .i64 0, .int .i64 0, .int .i64 0, .int .i64 0] 42)).setRow wf.heap.size #[.int .i64 xo.no, .int .i64 xo.cur, .int .i64 xo.price, .int .i64 xo.cut]) := ((Below.refl _ _).alloc (Nat.le_refl _) _).trans (setRow_below (Nat.le_refl _) _)
  have hx1 : HT ((wf.alloc (.cells #[.int .i64 0, .int .i64 0, .int .i64 0, .int .i64 0] 42)).setRow wf.heap.size #[.int .i64 xo.no, .int .i64 xo.cur, .int .i64 xo.price, .int .i64 xo.cut]) wf.heap.size 42 [.int .i64 xo.no, .int .i64 xo.cur, .int .i64 xo.price, .int .i64 xo.cut] := setRow_heap _ _ _ _ _ _ (heap_alloc_new _ _)
  have hbw1 := bgo HB.out hbs1 (Below.size HB.out)
  obtain ⟨W1, hW1⟩ : ∃ zz, zz = ((wf.alloc (.cells #[.int .i64 0, .int .i64 0, .int .i64 0, .int .i64 0] 42)).setRow wf.heap.size #[.int .i64 xo.no, .int .i64 xo.cur, .int .i64 xo.price, .int .i64 xo.cut]) := ⟨_, rfl⟩
  rw [← hW1] at hbs1 hx1 hbw1 ⊢
  obtain ⟨gx1, hg1⟩ : ∃ zz, zz = wf.heap.size := ⟨_, rfl⟩
  rw [← hg1] at hx1 ⊢
  have HGE1 : Hid (∀ m, m ≤ wf.heap.size → m ≤ gx1) := fun m h => by omega
  have HX1 := Lib.hid hx1
  have HBW1 := Lib.hid hbw1
  have HBS1 := Lib.hid hbs1
  clear hW1 hx1 hbw1 hbs1 hg1 HON1
  have HGHF : Hid (w.heap.size + 3 ≤ gx1) := HGE1.out _ HLE.out
  clear HBW1 HGE1
  have HRBn := Lib.hid (HRB.out.below HBS1.out)
  clear HRB
  have HRB := HRBn
  clear HRBn
  have HABn := Lib.hid (HAB.out.below HBS1.out)
  clear HAB
  have HAB := HABn
  clear HABn
  have HZBn := Lib.hid (HZB.out.below HBS1.out)
  clear HZB
  have HZB := HZBn
  clear HZBn
  have HBn := Lib.hid (bgo HB.out HBS1.out HB.out.size)
  clear HB
  have HB := HBn
  clear HBn
  have HLEn := Lib.hid (Nat.le_trans HLE.out (Below.size HBS1.out))
  clear HLE
  have HLE := HLEn
  clear HLEn
  clear HBS1
  have HF := HX1
  clear HX1 HSZ1
  have HSZz : Hid ((Try.prog.info? 26).map (·.size) = some (#[.slice none 0 0, .slice none 0 0, .slice none 0 0] : Array Value).size) := by show _ = _; rw [rol_sz]; rfl
  have HONz : Hid ((#[.slice none 0 0, .slice none 0 0, .slice none 0 0] : Array Value).all (·.oneCell') = true) := by show _ = true; simp [Value.oneCell']
  have HZBx : Hid (W1.heap[(w.heap.size + 2)]? = some (.cells #[.slice none 0 0, .slice none 0 0, .slice none 0 0] 26 (0, 0))) := HZB.out
  go_wp2_with (first
   | (refine wpList_store_row rfl 26 (.tmp 4) (.tmp 21) rfl (w.heap.size + 2) #[.slice none 0 0, .slice none 0 0, .slice none 0 0] rfl rfl 26 #[.slice none 0 0, .slice none 0 0, .slice none 0 0] HZBx.out HSZz.out rfl HONz.out ?_)
   | fail)
  refine bodyPost_ret (results_ht rfl (HT.row HZBx.out rfl) rfl rfl Try.underlying26 rfl rol_sz) rfl ?_
  rw [HDF.out]
  exact ⟨_, _, _, _, _, _, _, _, _, rfl, OwnRoll.none _ _, HB.out.trans (setRow_below (by omega) _)⟩
end Cam
