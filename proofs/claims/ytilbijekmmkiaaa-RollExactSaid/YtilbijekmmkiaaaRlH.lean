import Derived.Test.YtilbijekmmkiaaaRlG
/- roll: Admit, List, Hold, Tell, Put. -/
namespace Cam
open Go Go.RowKit Go.Proofs
theorem HT.keptS {S : Nat → Prop} {w w' : World} {g : Nat} {t : TypeId} {C : List Value} (h : HT w g t C) (hk : Kept S w w') (hS : ¬ S g) : HT w' g t C := (hk.block g h.lt hS).trans h
theorem HT.belowB {B : Nat} {w w' : World} {g : Nat} {t : TypeId} {C : List Value} (h : HT w g t C) (hb : Below B w w') (hg : g < B) : HT w' g t C := (hb.block g hg).trans h
theorem setRow_kept (w : World) (g : Nat) (cs : Array Value) : Kept (fun k => k = g) w (w.setRow g cs) := ⟨rfl, rfl, rfl, by simp, fun k _ hk => setRow_other w g k _ (fun e => hk e)⟩
theorem OwnRoll.keptS {S : Nat → Prop} {w w' : World} {base : Nat} {va vb vc : Value} {R : RollT} (h : OwnRoll w base va vb vc R) (hk : Kept S w w') (hS : ∀ k, base ≤ k → ¬ S k) : OwnRoll w' base va vb vc R :=
 ⟨h.1.keptS hk (fun k e => hS k (h.1.ge k e)), h.2.1.keptS hk (fun k e => hS k (h.2.1.ge k e)), h.2.2.keptS hk (fun k e => hS k (h.2.2.ge k e))⟩
def RetPost (w : World) (x : Int × RollT) (e : Ending) (w' : World) : Prop :=
 ∃ aM nM cM aI nI cI aA nA cA, e = .returned (.tuple #[.agg #[.slice aM nM cM, .slice aI nI cI, .slice aA nA cA], .int .i64 x.1]) ∧ OwnRoll w' w.heap.size (.slice aM nM cM) (.slice aI nI cI) (.slice aA nA cA) x.2 ∧ Below w.heap.size w w'
theorem OwnRoll.none (w : World) (base : Nat) : OwnRoll w base (.slice none 0 0) (.slice none 0 0) (.slice none 0 0) .nil := ⟨OwnR.empty MbT.len _ _ _, OwnR.empty InT.len _ _ _, OwnR.empty AsT.len _ _ _⟩
set_option maxRecDepth 100000 in
set_option maxHeartbeats 3200000 in
theorem Admit_any (w : World) (va vb vc : Value) (R : RollT) (who need : Int) (h : RollIn w va vb vc R) (hf : few R) :
  Calls Try.prog 31 #[.agg #[va, vb, vc], .int .i64 who, .int .i64 need] w (RetPost w (admitR R who need)) := by
 have HR := Lib.hid h
 have HFEW := Lib.hid hf
 clear h hf
 obtain ⟨xo, hxo⟩ : ∃ z, z = fdX MbT.no mZ who R.M := ⟨_, rfl⟩
 obtain ⟨b, hb⟩ : ∃ z, z = hasB MbT.no who R.M := ⟨_, rfl⟩
 have HXO := Lib.hid hxo
 have HBB := Lib.hid hb
 obtain ⟨px, hpx⟩ : ∃ z : MbT, z = ⟨who, 1, need⟩ := ⟨_, rfl⟩
 obtain ⟨PL, hpl⟩ : ∃ z, z = putL MbT.no px R.M := ⟨_, rfl⟩
 have HPL0 := Lib.hid hpl
 have HPX := Lib.hid hpx
 have HPL : Hid (PL = putL MbT.no (⟨who, 1, need⟩) R.M) := by show _ = _; rw [hpl, hpx]
 clear hpl hpx
 by_cases hc : chkR R = true
 ·
  have HCK : Hid (chkE R = 0) := by show _ = _; unfold chkE; simp [hc]
  by_cases hr : rightM ⟨who, 1, need⟩ = true
  ·
   have HRI := Lib.hid hr
   by_cases hbt : b = true
   ·
    have HDF : Hid (admitR R who need = (11, RollT.nil)) := by show _ = _; unfold admitR; simp [hc, hr, ← hb, hbt]
    clear hr
    clear hxo hb hc
    have hHRB : HT (w.alloc (.cells #[va, vb, vc] 26)) w.heap.size 26 [va, vb, vc] := by
     have := HT.new (w := w) (t := 26) (C := [va, vb, vc])
     exact this
    have hHRB := hHRB.below (w' := ((w.alloc (.cells #[va, vb, vc] 26)).alloc (.cells #[.slice none 0 0, .slice none 0 0, .slice none 0 0] 26))) ((Below.refl _ _).alloc (Nat.le_refl _) _)
    have HRB := Lib.hid hHRB
    clear hHRB
    have hHZB : HT ((w.alloc (.cells #[va, vb, vc] 26)).alloc (.cells #[.slice none 0 0, .slice none 0 0, .slice none 0 0] 26)) (w.heap.size + 1) 26 [.slice none 0 0, .slice none 0 0, .slice none 0 0] := by
     have := HT.new (w := (w.alloc (.cells #[va, vb, vc] 26))) (t := 26) (C := [.slice none 0 0, .slice none 0 0, .slice none 0 0])
     rwa [show (w.alloc (.cells #[va, vb, vc] 26)).heap.size = (w.heap.size + 1) by simp] at this
    have HZB := Lib.hid hHZB
    clear hHZB
    have hB : Below w.heap.size w ((w.alloc (.cells #[va, vb, vc] 26)).alloc (.cells #[.slice none 0 0, .slice none 0 0, .slice none 0 0] 26)) := (((Below.refl _ _).alloc (by simp <;> omega) _).alloc (by simp <;> omega) _)
    have HB := Lib.hid hB
    clear hB
    have hS : w.heap.size + 2 ≤ ((w.alloc (.cells #[va, vb, vc] 26)).alloc (.cells #[.slice none 0 0, .slice none 0 0, .slice none 0 0] 26)).heap.size := by simp <;> omega
    have HLE := Lib.hid hS
    clear hS
    go_enter Try.func31, Try.ntmps31
    go_upto_region 1 with fail
    generalize hW : ((w.alloc (.cells #[va, vb, vc] 26)).alloc (.cells #[.slice none 0 0, .slice none 0 0, .slice none 0 0] 26)) = W0 at *
    clear hW
    have HSZ1 : Hid ((Try.prog.info? 33).map (·.size) = some (#[.int .i64 who, .int .i64 1, .int .i64 need] : Array Value).size) := by show _ = _; rw [mem_sz]; rfl
    have HON1 : Hid ((#[.int .i64 who, .int .i64 1, .int .i64 need] : Array Value).all (·.oneCell') = true) := by show _ = true; simp [Value.oneCell']
    go_upto_region 2 with (first
     | (refine wpList_store_row rfl 33 (.tmp 8) (.tmp 14) rfl W0.heap.size #[.int .i64 who, .int .i64 1, .int .i64 need] rfl rfl 33 #[.int .i64 0, .int .i64 0, .int .i64 0] (heap_alloc_new _ _) HSZ1.out rfl HON1.out ?_)
     | fail)
    have hbs1 : Below W0.heap.size W0 ((W0.alloc (.cells #[.int .i64 0, .int .i64 0, .int .i64 0] 33)).setRow W0.heap.size #[.int .i64 who, .int .i64 1, .int .i64 need]) := ((Below.refl _ _).alloc (Nat.le_refl _) _).trans (setRow_below (Nat.le_refl _) _)
    have hx1 : HT ((W0.alloc (.cells #[.int .i64 0, .int .i64 0, .int .i64 0] 33)).setRow W0.heap.size #[.int .i64 who, .int .i64 1, .int .i64 need]) W0.heap.size 33 [.int .i64 who, .int .i64 1, .int .i64 need] := setRow_heap _ _ _ _ _ _ (heap_alloc_new _ _)
    have hbw1 := bgo HB.out hbs1 (Below.size HB.out)
    obtain ⟨W1, hW1⟩ : ∃ zz, zz = ((W0.alloc (.cells #[.int .i64 0, .int .i64 0, .int .i64 0] 33)).setRow W0.heap.size #[.int .i64 who, .int .i64 1, .int .i64 need]) := ⟨_, rfl⟩
    rw [← hW1] at hbs1 hx1 hbw1 ⊢
    obtain ⟨gx1, hg1⟩ : ∃ zz, zz = W0.heap.size := ⟨_, rfl⟩
    rw [← hg1] at hx1 ⊢
    have HGE1 : Hid (∀ m, m ≤ W0.heap.size → m ≤ gx1) := fun m h => by omega
    have HX1 := Lib.hid hx1
    have HBW1 := Lib.hid hbw1
    have HBS1 := Lib.hid hbs1
    clear hW1 hx1 hbw1 hbs1 hg1 HON1
    have HGHM : Hid (w.heap.size + 2 ≤ gx1) := HGE1.out _ HLE.out
    clear HBW1 HGE1
    have HRBn := Lib.hid (HRB.out.below HBS1.out)
    clear HRB
    have HRB := HRBn
    clear HRBn
    have HZBn := Lib.hid (HZB.out.below HBS1.out)
    clear HZB
    have HZB := HZBn
    clear HZBn
    have HBn := Lib.hid (bgo HB.out HBS1.out HB.out.size)
    clear HB
    have HB := HBn
    clear HBn
    have HLEn := Lib.hid (Nat.le_trans HLE.out (Below.size HBS1.out))
    clear HLE
    have HLE := HLEn
    clear HLEn
    clear HBS1
    have HM := HX1
    clear HX1 HSZ1
    have HSZr : Hid ((Try.prog.info? 26).map (·.size) = some (#[va, vb, vc] : Array Value).size) := by show _ = _; rw [rol_sz]; rfl
    have HRBx : Hid (W1.heap[w.heap.size]? = some (.cells #[va, vb, vc] 26 (0, 0))) := HRB.out
    go_wp2_with (first
     | (refine wpList_load_row rfl 26 (.tmp 3) rfl w.heap.size rfl 26 #[va, vb, vc] (0, 0) _ HRBx.out Try.underlying26 rfl HSZr.out ?_)
     | fail)
    refine (Check_any _ va vb vc R (HR.out.mono HB.out)).mono ?_
    clear HRBx
    rintro e wc ⟨rfl, hb⟩
    have HRBn := Lib.hid (HRB.out.below hb)
    clear HRB
    have HRB := HRBn
    clear HRBn
    have HZBn := Lib.hid (HZB.out.below hb)
    clear HZB
    have HZB := HZBn
    clear HZBn
    have HMn := Lib.hid (HM.out.below hb)
    clear HM
    have HM := HMn
    clear HMn
    have HBn := Lib.hid (bgo HB.out hb HB.out.size)
    clear HB
    have HB := HBn
    clear HBn
    have HLEn := Lib.hid (Nat.le_trans HLE.out (Below.size hb))
    clear HLE
    have HLE := HLEn
    clear HLEn
    clear hb
    rw [HCK.out]
    have HRBx : Hid (wc.heap[w.heap.size]? = some (.cells #[va, vb, vc] 26 (0, 0))) := HRB.out
    go_wp2_with (first
     | (refine wpList_load_row rfl 26 (.tmp 3) rfl w.heap.size rfl 26 #[va, vb, vc] (0, 0) _ HRBx.out Try.underlying26 rfl HSZr.out ?_)
     | fail)
    refine (Member_any _ va vb vc R.M who xo b (HR.out.1.mono HB.out) HXO.out HBB.out).mono ?_
    clear HRBx
    rintro e wf ⟨rfl, hb⟩
    have HRBn := Lib.hid (HRB.out.below hb)
    clear HRB
    have HRB := HRBn
    clear HRBn
    have HZBn := Lib.hid (HZB.out.below hb)
    clear HZB
    have HZB := HZBn
    clear HZBn
    have HMn := Lib.hid (HM.out.below hb)
    clear HM
    have HM := HMn
    clear HMn
    have HBn := Lib.hid (bgo HB.out hb HB.out.size)
    clear HB
    have HB := HBn
    clear HBn
    have HLEn := Lib.hid (Nat.le_trans HLE.out (Below.size hb))
    clear HLE
    have HLE := HLEn
    clear HLEn
    clear hb
    have HSZ2 : Hid ((Try.prog.info? 33).map (·.size) = some (#[.int .i64 xo.no, .int .i64 xo.state, .int .i64 xo.need] : Array Value).size) := by show _ = _; rw [mem_sz]; rfl
    have HON2 : Hid ((#[.int .i64 xo.no, .int .i64 xo.state, .int .i64 xo.need] : Array Value).all (·.oneCell') = true) := by show _ = true; simp [Value.oneCell']
    go_upto_region 4 with (first
     | (refine wpList_store_row rfl 33 (.tmp 10) (.tmp 21) rfl wf.heap.size #[.int .i64 xo.no, .int .i64 xo.state, .int .i64 xo.need] rfl rfl 33 #[.int .i64 0, .int .i64 0, .int .i64 0] (heap_alloc_new _ _) HSZ2.out rfl HON2.out ?_)
     | fail)
    have hbs2 : Below wf.heap.size wf ((wf.alloc (.cells #[.int .i64 0, .int .i64 0, .int .i64 0] 33)).setRow wf.heap.size #[.int .i64 xo.no, .int .i64 xo.state, .int .i64 xo.need]) := ((Below.refl _ _).alloc (Nat.le_refl _) _).trans (setRow_below (Nat.le_refl _) _)
    have hx2 : HT ((wf.alloc (.cells #[.int .i64 0, .int .i64 0, .int .i64 0] 33)).setRow wf.heap.size #[.int .i64 xo.no, .int .i64 xo.state, .int .i64 xo.need]) wf.heap.size 33 [.int .i64 xo.no, .int .i64 xo.state, .int .i64 xo.need] := setRow_heap _ _ _ _ _ _ (heap_alloc_new _ _)
    have hbw2 := bgo HB.out hbs2 (Below.size HB.out)
    obtain ⟨W2, hW2⟩ : ∃ zz, zz = ((wf.alloc (.cells #[.int .i64 0, .int .i64 0, .int .i64 0] 33)).setRow wf.heap.size #[.int .i64 xo.no, .int .i64 xo.state, .int .i64 xo.need]) := ⟨_, rfl⟩
    rw [← hW2] at hbs2 hx2 hbw2 ⊢
    obtain ⟨gx2, hg2⟩ : ∃ zz, zz = wf.heap.size := ⟨_, rfl⟩
    rw [← hg2] at hx2 ⊢
    have HGE2 : Hid (∀ m, m ≤ wf.heap.size → m ≤ gx2) := fun m h => by omega
    have HX2 := Lib.hid hx2
    have HBW2 := Lib.hid hbw2
    have HBS2 := Lib.hid hbs2
    clear hW2 hx2 hbw2 hbs2 hg2 HON2
    have HGHF : Hid (w.heap.size + 2 ≤ gx2) := HGE2.out _ HLE.out
    clear HBW2 HGE2
    have HRBn := Lib.hid (HRB.out.below HBS2.out)
    clear HRB
    have HRB := HRBn
    clear HRBn
    have HZBn := Lib.hid (HZB.out.below HBS2.out)
    clear HZB
    have HZB := HZBn
    clear HZBn
    have HMn := Lib.hid (HM.out.below HBS2.out)
    clear HM
    have HM := HMn
    clear HMn
    have HBn := Lib.hid (bgo HB.out HBS2.out HB.out.size)
    clear HB
    have HB := HBn
    clear HBn
    have HLEn := Lib.hid (Nat.le_trans HLE.out (Below.size HBS2.out))
    clear HLE
    have HLE := HLEn
    clear HLEn
    clear HBS2
    have HF := HX2
    clear HX2 HSZ2
    have HSZq : Hid ((Try.prog.info? 33).map (·.size) = some (#[.int .i64 who, .int .i64 1, .int .i64 need] : Array Value).size) := by show _ = _; rw [mem_sz]; rfl
    have HONq : Hid ((#[.int .i64 who, .int .i64 1, .int .i64 need] : Array Value).all (·.oneCell') = true) := by show _ = true; simp [Value.oneCell']
    have HMx : Hid (W2.heap[gx1]? = some (.cells #[.int .i64 who, .int .i64 1, .int .i64 need] 33 (0, 0))) := HM.out
    go_wp2_with (first
     | (refine wpList_load_row rfl 33 (.tmp 8) rfl gx1 rfl 33 #[.int .i64 who, .int .i64 1, .int .i64 need] (0, 0) _ HMx.out Try.underlying33 rfl HSZq.out ?_)
     | fail)
    refine (rightM_any _ who 1 need).mono ?_
    clear HMx
    rintro e wr ⟨rfl, hb⟩
    have HRBn := Lib.hid (HRB.out.below hb)
    clear HRB
    have HRB := HRBn
    clear HRBn
    have HZBn := Lib.hid (HZB.out.below hb)
    clear HZB
    have HZB := HZBn
    clear HZBn
    have HMn := Lib.hid (HM.out.below hb)
    clear HM
    have HM := HMn
    clear HMn
    have HFn := Lib.hid (HF.out.below hb)
    clear HF
    have HF := HFn
    clear HFn
    have HBn := Lib.hid (bgo HB.out hb HB.out.size)
    clear HB
    have HB := HBn
    clear HBn
    have HLEn := Lib.hid (Nat.le_trans HLE.out (Below.size hb))
    clear HLE
    have HLE := HLEn
    clear HLEn
    clear hb
    rw [HRI.out]
    have HSZz : Hid ((Try.prog.info? 26).map (·.size) = some (#[.slice none 0 0, .slice none 0 0, .slice none 0 0] : Array Value).size) := by show _ = _; rw [rol_sz]; rfl
    have HONz : Hid ((#[.slice none 0 0, .slice none 0 0, .slice none 0 0] : Array Value).all (·.oneCell') = true) := by show _ = true; simp [Value.oneCell']
    have HZBx : Hid (wr.heap[(w.heap.size + 1)]? = some (.cells #[.slice none 0 0, .slice none 0 0, .slice none 0 0] 26 (0, 0))) := HZB.out
    go_wp2_with (first
     | (refine wpList_store_row rfl 26 (.tmp 6) (.tmp 35) rfl (w.heap.size + 1) #[.slice none 0 0, .slice none 0 0, .slice none 0 0] rfl rfl 26 #[.slice none 0 0, .slice none 0 0, .slice none 0 0] HZBx.out HSZz.out rfl HONz.out ?_)
     | fail)
    refine bodyPost_ret (results_ht rfl (HT.row HZBx.out rfl) rfl rfl Try.underlying26 rfl rol_sz) rfl ?_
    rw [HDF.out]
    exact ⟨_, _, _, _, _, _, _, _, _, rfl, OwnRoll.none _ _, HB.out.trans (setRow_below (by omega) _)⟩
   ·
    have hb2 : b = false := by simpa using hbt
    have HDF : Hid (admitR R who need = (0, { R with M := PL })) := by show _ = _; rw [HPL.out]; unfold admitR; simp [hc, hr, ← hb, hb2]
    clear hr
    clear hxo hb hc hbt
    have hHRB : HT (w.alloc (.cells #[va, vb, vc] 26)) w.heap.size 26 [va, vb, vc] := by
     have := HT.new (w := w) (t := 26) (C := [va, vb, vc])
     exact this
    have hHRB := hHRB.below (w' := ((w.alloc (.cells #[va, vb, vc] 26)).alloc (.cells #[.slice none 0 0, .slice none 0 0, .slice none 0 0] 26))) ((Below.refl _ _).alloc (Nat.le_refl _) _)
    have HRB := Lib.hid hHRB
    clear hHRB
    have hHZB : HT ((w.alloc (.cells #[va, vb, vc] 26)).alloc (.cells #[.slice none 0 0, .slice none 0 0, .slice none 0 0] 26)) (w.heap.size + 1) 26 [.slice none 0 0, .slice none 0 0, .slice none 0 0] := by
     have := HT.new (w := (w.alloc (.cells #[va, vb, vc] 26))) (t := 26) (C := [.slice none 0 0, .slice none 0 0, .slice none 0 0])
     rwa [show (w.alloc (.cells #[va, vb, vc] 26)).heap.size = (w.heap.size + 1) by simp] at this
    have HZB := Lib.hid hHZB
    clear hHZB
    have hB : Below w.heap.size w ((w.alloc (.cells #[va, vb, vc] 26)).alloc (.cells #[.slice none 0 0, .slice none 0 0, .slice none 0 0] 26)) := (((Below.refl _ _).alloc (by simp <;> omega) _).alloc (by simp <;> omega) _)
    have HB := Lib.hid hB
    clear hB
    have hS : w.heap.size + 2 ≤ ((w.alloc (.cells #[va, vb, vc] 26)).alloc (.cells #[.slice none 0 0, .slice none 0 0, .slice none 0 0] 26)).heap.size := by simp <;> omega
    have HLE := Lib.hid hS
    clear hS
    go_enter Try.func31, Try.ntmps31
    go_upto_region 1 with fail
    generalize hW : ((w.alloc (.cells #[va, vb, vc] 26)).alloc (.cells #[.slice none 0 0, .slice none 0 0, .slice none 0 0] 26)) = W0 at *
    clear hW
    have HSZ1 : Hid ((Try.prog.info? 33).map (·.size) = some (#[.int .i64 who, .int .i64 1, .int .i64 need] : Array Value).size) := by show _ = _; rw [mem_sz]; rfl
    have HON1 : Hid ((#[.int .i64 who, .int .i64 1, .int .i64 need] : Array Value).all (·.oneCell') = true) := by show _ = true; simp [Value.oneCell']
    go_upto_region 2 with (first
     | (refine wpList_store_row rfl 33 (.tmp 8) (.tmp 14) rfl W0.heap.size #[.int .i64 who, .int .i64 1, .int .i64 need] rfl rfl 33 #[.int .i64 0, .int .i64 0, .int .i64 0] (heap_alloc_new _ _) HSZ1.out rfl HON1.out ?_)
     | fail)
    have hbs1 : Below W0.heap.size W0 ((W0.alloc (.cells #[.int .i64 0, .int .i64 0, .int .i64 0] 33)).setRow W0.heap.size #[.int .i64 who, .int .i64 1, .int .i64 need]) := ((Below.refl _ _).alloc (Nat.le_refl _) _).trans (setRow_below (Nat.le_refl _) _)
    have hx1 : HT ((W0.alloc (.cells #[.int .i64 0, .int .i64 0, .int .i64 0] 33)).setRow W0.heap.size #[.int .i64 who, .int .i64 1, .int .i64 need]) W0.heap.size 33 [.int .i64 who, .int .i64 1, .int .i64 need] := setRow_heap _ _ _ _ _ _ (heap_alloc_new _ _)
    have hbw1 := bgo HB.out hbs1 (Below.size HB.out)
    obtain ⟨W1, hW1⟩ : ∃ zz, zz = ((W0.alloc (.cells #[.int .i64 0, .int .i64 0, .int .i64 0] 33)).setRow W0.heap.size #[.int .i64 who, .int .i64 1, .int .i64 need]) := ⟨_, rfl⟩
    rw [← hW1] at hbs1 hx1 hbw1 ⊢
    obtain ⟨gx1, hg1⟩ : ∃ zz, zz = W0.heap.size := ⟨_, rfl⟩
    rw [← hg1] at hx1 ⊢
    have HGE1 : Hid (∀ m, m ≤ W0.heap.size → m ≤ gx1) := fun m h => by omega
    have HX1 := Lib.hid hx1
    have HBW1 := Lib.hid hbw1
    have HBS1 := Lib.hid hbs1
    clear hW1 hx1 hbw1 hbs1 hg1 HON1
    have HGHM : Hid (w.heap.size + 2 ≤ gx1) := HGE1.out _ HLE.out
    clear HBW1 HGE1
    have HRBn := Lib.hid (HRB.out.below HBS1.out)
    clear HRB
    have HRB := HRBn
    clear HRBn
    have HZBn := Lib.hid (HZB.out.below HBS1.out)
    clear HZB
    have HZB := HZBn
    clear HZBn
    have HBn := Lib.hid (bgo HB.out HBS1.out HB.out.size)
    clear HB
    have HB := HBn
    clear HBn
    have HLEn := Lib.hid (Nat.le_trans HLE.out (Below.size HBS1.out))
    clear HLE
    have HLE := HLEn
    clear HLEn
    clear HBS1
    have HM := HX1
    clear HX1 HSZ1
    have HSZr : Hid ((Try.prog.info? 26).map (·.size) = some (#[va, vb, vc] : Array Value).size) := by show _ = _; rw [rol_sz]; rfl
    have HRBx : Hid (W1.heap[w.heap.size]? = some (.cells #[va, vb, vc] 26 (0, 0))) := HRB.out
    go_wp2_with (first
     | (refine wpList_load_row rfl 26 (.tmp 3) rfl w.heap.size rfl 26 #[va, vb, vc] (0, 0) _ HRBx.out Try.underlying26 rfl HSZr.out ?_)
     | fail)
    refine (Check_any _ va vb vc R (HR.out.mono HB.out)).mono ?_
    clear HRBx
    rintro e wc ⟨rfl, hb⟩
    have HRBn := Lib.hid (HRB.out.below hb)
    clear HRB
    have HRB := HRBn
    clear HRBn
    have HZBn := Lib.hid (HZB.out.below hb)
    clear HZB
    have HZB := HZBn
    clear HZBn
    have HMn := Lib.hid (HM.out.below hb)
    clear HM
    have HM := HMn
    clear HMn
    have HBn := Lib.hid (bgo HB.out hb HB.out.size)
    clear HB
    have HB := HBn
    clear HBn
    have HLEn := Lib.hid (Nat.le_trans HLE.out (Below.size hb))
    clear HLE
    have HLE := HLEn
    clear HLEn
    clear hb
    rw [HCK.out]
    have HRBx : Hid (wc.heap[w.heap.size]? = some (.cells #[va, vb, vc] 26 (0, 0))) := HRB.out
    go_wp2_with (first
     | (refine wpList_load_row rfl 26 (.tmp 3) rfl w.heap.size rfl 26 #[va, vb, vc] (0, 0) _ HRBx.out Try.underlying26 rfl HSZr.out ?_)
     | fail)
    refine (Member_any _ va vb vc R.M who xo b (HR.out.1.mono HB.out) HXO.out HBB.out).mono ?_
    clear HRBx
    rintro e wf ⟨rfl, hb⟩
    have HRBn := Lib.hid (HRB.out.below hb)
    clear HRB
    have HRB := HRBn
    clear HRBn
    have HZBn := Lib.hid (HZB.out.below hb)
    clear HZB
    have HZB := HZBn
    clear HZBn
    have HMn := Lib.hid (HM.out.below hb)
    clear HM
    have HM := HMn
    clear HMn
    have HBn := Lib.hid (bgo HB.out hb HB.out.size)
    clear HB
    have HB := HBn
    clear HBn
    have HLEn := Lib.hid (Nat.le_trans HLE.out (Below.size hb))
    clear HLE
    have HLE := HLEn
    clear HLEn
    clear hb
    have HSZ2 : Hid ((Try.prog.info? 33).map (·.size) = some (#[.int .i64 xo.no, .int .i64 xo.state, .int .i64 xo.need] : Array Value).size) := by show _ = _; rw [mem_sz]; rfl
    have HON2 : Hid ((#[.int .i64 xo.no, .int .i64 xo.state, .int .i64 xo.need] : Array Value).all (·.oneCell') = true) := by show _ = true; simp [Value.oneCell']
    go_upto_region 4 with (first
     | (refine wpList_store_row rfl 33 (.tmp 10) (.tmp 21) rfl wf.heap.size #[.int .i64 xo.no, .int .i64 xo.state, .int .i64 xo.need] rfl rfl 33 #[.int .i64 0, .int .i64 0, .int .i64 0] (heap_alloc_new _ _) HSZ2.out rfl HON2.out ?_)
     | fail)
    have hbs2 : Below wf.heap.size wf ((wf.alloc (.cells #[.int .i64 0, .int .i64 0, .int .i64 0] 33)).setRow wf.heap.size #[.int .i64 xo.no, .int .i64 xo.state, .int .i64 xo.need]) := ((Below.refl _ _).alloc (Nat.le_refl _) _).trans (setRow_below (Nat.le_refl _) _)
    have hx2 : HT ((wf.alloc (.cells #[.int .i64 0, .int .i64 0, .int .i64 0] 33)).setRow wf.heap.size #[.int .i64 xo.no, .int .i64 xo.state, .int .i64 xo.need]) wf.heap.size 33 [.int .i64 xo.no, .int .i64 xo.state, .int .i64 xo.need] := setRow_heap _ _ _ _ _ _ (heap_alloc_new _ _)
    have hbw2 := bgo HB.out hbs2 (Below.size HB.out)
    obtain ⟨W2, hW2⟩ : ∃ zz, zz = ((wf.alloc (.cells #[.int .i64 0, .int .i64 0, .int .i64 0] 33)).setRow wf.heap.size #[.int .i64 xo.no, .int .i64 xo.state, .int .i64 xo.need]) := ⟨_, rfl⟩
    rw [← hW2] at hbs2 hx2 hbw2 ⊢
    obtain ⟨gx2, hg2⟩ : ∃ zz, zz = wf.heap.size := ⟨_, rfl⟩
    rw [← hg2] at hx2 ⊢
    have HGE2 : Hid (∀ m, m ≤ wf.heap.size → m ≤ gx2) := fun m h => by omega
    have HX2 := Lib.hid hx2
    have HBW2 := Lib.hid hbw2
    have HBS2 := Lib.hid hbs2
    clear hW2 hx2 hbw2 hbs2 hg2 HON2
    have HGHF : Hid (w.heap.size + 2 ≤ gx2) := HGE2.out _ HLE.out
    clear HBW2 HGE2
    have HRBn := Lib.hid (HRB.out.below HBS2.out)
    clear HRB
    have HRB := HRBn
    clear HRBn
    have HZBn := Lib.hid (HZB.out.below HBS2.out)
    clear HZB
    have HZB := HZBn
    clear HZBn
    have HMn := Lib.hid (HM.out.below HBS2.out)
    clear HM
    have HM := HMn
    clear HMn
    have HBn := Lib.hid (bgo HB.out HBS2.out HB.out.size)
    clear HB
    have HB := HBn
    clear HBn
    have HLEn := Lib.hid (Nat.le_trans HLE.out (Below.size HBS2.out))
    clear HLE
    have HLE := HLEn
    clear HLEn
    clear HBS2
    have HF := HX2
    clear HX2 HSZ2
    have HSZq : Hid ((Try.prog.info? 33).map (·.size) = some (#[.int .i64 who, .int .i64 1, .int .i64 need] : Array Value).size) := by show _ = _; rw [mem_sz]; rfl
    have HONq : Hid ((#[.int .i64 who, .int .i64 1, .int .i64 need] : Array Value).all (·.oneCell') = true) := by show _ = true; simp [Value.oneCell']
    have HMx : Hid (W2.heap[gx1]? = some (.cells #[.int .i64 who, .int .i64 1, .int .i64 need] 33 (0, 0))) := HM.out
    go_wp2_with (first
     | (refine wpList_load_row rfl 33 (.tmp 8) rfl gx1 rfl 33 #[.int .i64 who, .int .i64 1, .int .i64 need] (0, 0) _ HMx.out Try.underlying33 rfl HSZq.out ?_)
     | fail)
    refine (rightM_any _ who 1 need).mono ?_
    clear HMx
    rintro e wr ⟨rfl, hb⟩
    have HRBn := Lib.hid (HRB.out.below hb)
    clear HRB
    have HRB := HRBn
    clear HRBn
    have HZBn := Lib.hid (HZB.out.below hb)
    clear HZB
    have HZB := HZBn
    clear HZBn
    have HMn := Lib.hid (HM.out.below hb)
    clear HM
    have HM := HMn
    clear HMn
    have HFn := Lib.hid (HF.out.below hb)
    clear HF
    have HF := HFn
    clear HFn
    have HBn := Lib.hid (bgo HB.out hb HB.out.size)
    clear HB
    have HB := HBn
    clear HBn
    have HLEn := Lib.hid (Nat.le_trans HLE.out (Below.size hb))
    clear HLE
    have HLE := HLEn
    clear HLEn
    clear hb
    rw [HRI.out]
    have HRBx : Hid (wr.heap[w.heap.size]? = some (.cells #[va, vb, vc] 26 (0, 0))) := HRB.out
    have tw := twin_any wr va vb vc R (HR.out.mono HB.out) HFEW.out
    go_wp2_with (first
     | (refine wpList_load_row rfl 26 (.tmp 3) rfl w.heap.size rfl 26 #[va, vb, vc] (0, 0) _ HRBx.out Try.underlying26 rfl HSZr.out ?_)
     | fail)
    refine tw.mono ?_
    clear tw HRBx
    obtain ⟨bs, hbs⟩ : ∃ zz, zz = wr.heap.size := ⟨_, rfl⟩
    have HBS : Hid (w.heap.size + 2 ≤ bs) := by show _ ≤ _; have := HLE.out; omega
    have HPB : Hid (gx1 < bs) := by show _ < _; have := HM.out.lt; omega
    rintro e wt ⟨aM, nM, cM, aI, nI, cI, aA, nA, cA, rfl, ho, hap, hb⟩
    rw [← hbs] at ho
    have HO := Lib.hid ho
    have HAP := Lib.hid hap
    clear ho hap
    have HRBn := Lib.hid (HRB.out.below hb)
    clear HRB
    have HRB := HRBn
    clear HRBn
    have HZBn := Lib.hid (HZB.out.below hb)
    clear HZB
    have HZB := HZBn
    clear HZBn
    have HMn := Lib.hid (HM.out.below hb)
    clear HM
    have HM := HMn
    clear HMn
    have HFn := Lib.hid (HF.out.below hb)
    clear HF
    have HF := HFn
    clear HFn
    have HBn := Lib.hid (bgo HB.out hb HB.out.size)
    clear HB
    have HB := HBn
    clear HBn
    have HLEn := Lib.hid (Nat.le_trans HLE.out (Below.size hb))
    clear HLE
    have HLE := HLEn
    clear HLEn
    have HBU : Hid (bs ≤ wt.heap.size) := by show _ ≤ _; have := hb.size; omega
    clear hbs hb
    have HSZs : Hid ((Try.prog.info? 26).map (·.size) = some (#[.slice aM nM cM, .slice aI nI cI, .slice aA nA cA] : Array Value).size) := by show _ = _; rw [rol_sz]; rfl
    have HONs : Hid ((#[.slice aM nM cM, .slice aI nI cI, .slice aA nA cA] : Array Value).all (·.oneCell') = true) := by show _ = true; simp [Value.oneCell']
    have HRBx : Hid (wt.heap[w.heap.size]? = some (.cells #[va, vb, vc] 26 (0, 0))) := HRB.out
    go_upto_region 11 with (first
     | (refine wpList_store_row rfl 26 (.tmp 3) (.tmp 37) rfl w.heap.size #[.slice aM nM cM, .slice aI nI cI, .slice aA nA cA] rfl rfl 26 #[va, vb, vc] HRBx.out HSZs.out rfl HONs.out ?_)
     | fail)
    clear HF
    have hk : Kept (fun k => k = w.heap.size) wt (wt.setRow w.heap.size #[.slice aM nM cM, .slice aI nI cI, .slice aA nA cA]) := setRow_kept _ _ _
    have hHRB := Lib.hid ((HT.row HRBx.out rfl : HT (wt.setRow w.heap.size #[.slice aM nM cM, .slice aI nI cI, .slice aA nA cA]) w.heap.size 26 [.slice aM nM cM, .slice aI nI cI, .slice aA nA cA]))
    have hHZB := Lib.hid (HZB.out.keptS hk (fun (e : (w.heap.size + 1) = w.heap.size) => by  omega))
    have hHM := Lib.hid (HM.out.keptS hk (fun (e : gx1 = w.heap.size) => by have := HGHM.out; omega))
    have hB : Hid (Below w.heap.size w (wt.setRow w.heap.size #[.slice aM nM cM, .slice aI nI cI, .slice aA nA cA])) := (HB.out : Below w.heap.size w wt).trans (Kept.below hk (fun k h (e : k = w.heap.size) => by  omega) HB.out.size)
    have hLE : Hid (w.heap.size + 2 ≤ ((wt.setRow w.heap.size #[.slice aM nM cM, .slice aI nI cI, .slice aA nA cA])).heap.size) := Nat.le_trans HLE.out hk.size
    clear HB HLE HRB HZB HM
    have HRB := hHRB
    clear hHRB
    have HZB := hHZB
    clear hHZB
    have HM := hHM
    clear hHM
    have HB := hB
    clear hB
    have HLE := hLE
    clear hLE
    have hO := Lib.hid (HO.out.keptS hk (fun k h (e : k = w.heap.size) => by have := HBS.out; omega))
    have hBU : Hid (bs ≤ ((wt.setRow w.heap.size #[.slice aM nM cM, .slice aI nI cI, .slice aA nA cA])).heap.size) := Nat.le_trans HBU.out hk.size
    clear HO HRBx HBU
    have HO := hO
    clear hO
    have HBU := hBU
    clear hBU
    clear hk
    generalize hW : (wt.setRow w.heap.size #[.slice aM nM cM, .slice aI nI cI, .slice aA nA cA]) = wu at *
    clear hW
    have pt := putM_any wu bs aM nM cM R.M px HO.out.1 (by have := HFEW.out; unfold few at this; omega) HBU.out
    unfold RowsPost at pt
    rw [HPX.out] at pt
    try dsimp only at pt
    rw [← HPL.out] at pt
    have hcr := HRB.out.cell (j := 0) rfl
    have HMx : Hid (wu.heap[gx1]? = some (.cells #[.int .i64 who, .int .i64 1, .int .i64 need] 33 (0, 0))) := HM.out
    have HSZp : Hid ((Try.prog.info? 33).map (·.size) = some (#[.int .i64 who, .int .i64 1, .int .i64 need] : Array Value).size) := by show _ = _; rw [mem_sz]; rfl
    have HONp : Hid ((#[.int .i64 who, .int .i64 1, .int .i64 need] : Array Value).all (·.oneCell') = true) := by show _ = true; simp [Value.oneCell']
    go_wp2_with (first
     | (refine wpList_load_row rfl 33 (.tmp 8) rfl gx1 rfl 33 #[.int .i64 who, .int .i64 1, .int .i64 need] (0, 0) _ HMx.out Try.underlying33 rfl HSZp.out ?_)
     | fail)
    refine pt.mono ?_
    clear pt hcr HMx
    rintro e wp ⟨aN, nN, cN, rfl, hon, hbp, hkp⟩
    clear HM
    have hRB := Lib.hid (HRB.out.belowB hbp (by have := HBS.out; omega))
    have hZB := Lib.hid (HZB.out.belowB hbp (by have := HBS.out; omega))
    have hOI := Lib.hid (OwnR.keptS HO.out.2.1 hkp (fun g h1 h2 => HAP.out.1.symm g h1 h2))
    have hOA := Lib.hid (OwnR.keptS HO.out.2.2 hkp (fun g h1 h2 => HAP.out.2.1.symm g h1 h2))
    have hB : Hid (Below w.heap.size w wp) := HB.out.trans (hbp.mono (by have := HBS.out; omega))
    have hOn := Lib.hid hon
    clear HRB HZB HB HO HLE HBU hkp hbp hon HAP
    have HRB := hRB
    clear hRB
    have HZB := hZB
    clear hZB
    have HB := hB
    clear hB
    have HOn := hOn
    clear hOn
    have HOI := hOI
    clear hOI
    have HOA := hOA
    clear hOA
    have hcr := HRB.out.cell (j := 0) rfl
    have hfr := HRB.out.frozen 0
    go_upto_region 12 with fail
    clear hcr hfr
    have hk : Kept (fun k => k = w.heap.size) wp (wp.setCell ⟨w.heap.size, 0, none⟩ (.slice aN nN cN)) := (Kept.refl _ _).setCell ⟨w.heap.size, 0, none⟩ _ rfl
    have hRB : Hid (HT (wp.setCell ⟨w.heap.size, 0, none⟩ (.slice aN nN cN)) w.heap.size 26 [.slice aN nN cN, .slice aI nI cI, .slice aA nA cA]) := HRB.out.put 0 _
    have hZB := Lib.hid (HZB.out.keptS hk (fun (e : (w.heap.size + 1) = w.heap.size) => by omega))
    have hB : Hid (Below w.heap.size w (wp.setCell ⟨w.heap.size, 0, none⟩ (.slice aN nN cN))) := HB.out.setCell (by show w.heap.size ≤ w.heap.size; omega) _
    have hOn := Lib.hid (OwnR.keptS HOn.out hk (fun j h1 (e : j = w.heap.size) => by have := OwnR.ge HOn.out j h1; have := HBS.out; omega))
    have hOI := Lib.hid (OwnR.keptS HOI.out hk (fun j h1 (e : j = w.heap.size) => by have := OwnR.ge HOI.out j h1; have := HBS.out; omega))
    have hOA := Lib.hid (OwnR.keptS HOA.out hk (fun j h1 (e : j = w.heap.size) => by have := OwnR.ge HOA.out j h1; have := HBS.out; omega))
    clear HRB HZB HB hk HOn HOI HOA
    have HRB := hRB
    clear hRB
    have HZB := hZB
    clear hZB
    have HB := hB
    clear hB
    have HOn := hOn
    clear hOn
    have HOI := hOI
    clear hOI
    have HOA := hOA
    clear hOA
    generalize hW : (wp.setCell ⟨w.heap.size, 0, none⟩ (.slice aN nN cN)) = wq at *
    clear hW
    have HSZf : Hid ((Try.prog.info? 26).map (·.size) = some (#[.slice aN nN cN, .slice aI nI cI, .slice aA nA cA] : Array Value).size) := by show _ = _; rw [rol_sz]; rfl
    have HONf : Hid ((#[.slice aN nN cN, .slice aI nI cI, .slice aA nA cA] : Array Value).all (·.oneCell') = true) := by show _ = true; simp [Value.oneCell']
    have HRBx : Hid (wq.heap[w.heap.size]? = some (.cells #[.slice aN nN cN, .slice aI nI cI, .slice aA nA cA] 26 (0, 0))) := HRB.out
    have HZBx : Hid (wq.heap[(w.heap.size + 1)]? = some (.cells #[.slice none 0 0, .slice none 0 0, .slice none 0 0] 26 (0, 0))) := HZB.out
    go_wp2_with (first
     | (refine wpList_load_row rfl 26 (.tmp 3) rfl w.heap.size rfl 26 #[.slice aN nN cN, .slice aI nI cI, .slice aA nA cA] (0, 0) _ HRBx.out Try.underlying26 rfl HSZf.out ?_)
     | (refine wpList_store_row rfl 26 (.tmp 6) (.tmp 43) rfl (w.heap.size + 1) #[.slice aN nN cN, .slice aI nI cI, .slice aA nA cA] rfl rfl 26 #[.slice none 0 0, .slice none 0 0, .slice none 0 0] HZBx.out HSZf.out rfl HONf.out ?_)
     | fail)
    have hk := setRow_kept wq (w.heap.size + 1) #[.slice aN nN cN, .slice aI nI cI, .slice aA nA cA]
    refine bodyPost_ret (results_ht rfl (HT.row HZBx.out rfl) rfl rfl Try.underlying26 rfl rol_sz) rfl ?_
    rw [HDF.out]
    exact ⟨_, _, _, _, _, _, _, _, _, rfl, ⟨(OwnR.keptS HOn.out hk (fun j h1 (e : j = (w.heap.size + 1)) => by have := OwnR.ge HOn.out j h1; have := HBS.out; omega)).base (by have := HBS.out; omega), (OwnR.keptS HOI.out hk (fun j h1 (e : j = (w.heap.size + 1)) => by have := OwnR.ge HOI.out j h1; have := HBS.out; omega)).base (by have := HBS.out; omega), (OwnR.keptS HOA.out hk (fun j h1 (e : j = (w.heap.size + 1)) => by have := OwnR.ge HOA.out j h1; have := HBS.out; omega)).base (by have := HBS.out; omega)⟩, HB.out.trans (setRow_below (by omega) _)⟩
  ·
   have hr2 : rightM ⟨who, 1, need⟩ = false := by simpa using hr
   have HRI := Lib.hid hr2
   have HDF : Hid (admitR R who need = (3, RollT.nil)) := by show _ = _; unfold admitR; simp [hc, hr2]
   clear hxo hb
   clear hc hr hr2
   have hHRB : HT (w.alloc (.cells #[va, vb, vc] 26)) w.heap.size 26 [va, vb, vc] := by
    have := HT.new (w := w) (t := 26) (C := [va, vb, vc])
    exact this
   have hHRB := hHRB.below (w' := ((w.alloc (.cells #[va, vb, vc] 26)).alloc (.cells #[.slice none 0 0, .slice none 0 0, .slice none 0 0] 26))) ((Below.refl _ _).alloc (Nat.le_refl _) _)
   have HRB := Lib.hid hHRB
   clear hHRB
   have hHZB : HT ((w.alloc (.cells #[va, vb, vc] 26)).alloc (.cells #[.slice none 0 0, .slice none 0 0, .slice none 0 0] 26)) (w.heap.size + 1) 26 [.slice none 0 0, .slice none 0 0, .slice none 0 0] := by
    have := HT.new (w := (w.alloc (.cells #[va, vb, vc] 26))) (t := 26) (C := [.slice none 0 0, .slice none 0 0, .slice none 0 0])
    rwa [show (w.alloc (.cells #[va, vb, vc] 26)).heap.size = (w.heap.size + 1) by simp] at this
   have HZB := Lib.hid hHZB
   clear hHZB
   have hB : Below w.heap.size w ((w.alloc (.cells #[va, vb, vc] 26)).alloc (.cells #[.slice none 0 0, .slice none 0 0, .slice none 0 0] 26)) := (((Below.refl _ _).alloc (by simp <;> omega) _).alloc (by simp <;> omega) _)
   have HB := Lib.hid hB
   clear hB
   have hS : w.heap.size + 2 ≤ ((w.alloc (.cells #[va, vb, vc] 26)).alloc (.cells #[.slice none 0 0, .slice none 0 0, .slice none 0 0] 26)).heap.size := by simp <;> omega
   have HLE := Lib.hid hS
   clear hS
   go_enter Try.func31, Try.ntmps31
   go_upto_region 1 with fail
   generalize hW : ((w.alloc (.cells #[va, vb, vc] 26)).alloc (.cells #[.slice none 0 0, .slice none 0 0, .slice none 0 0] 26)) = W0 at *
   clear hW
   have HSZ1 : Hid ((Try.prog.info? 33).map (·.size) = some (#[.int .i64 who, .int .i64 1, .int .i64 need] : Array Value).size) := by show _ = _; rw [mem_sz]; rfl
   have HON1 : Hid ((#[.int .i64 who, .int .i64 1, .int .i64 need] : Array Value).all (·.oneCell') = true) := by show _ = true; simp [Value.oneCell']
   go_upto_region 2 with (first
    | (refine wpList_store_row rfl 33 (.tmp 8) (.tmp 14) rfl W0.heap.size #[.int .i64 who, .int .i64 1, .int .i64 need] rfl rfl 33 #[.int .i64 0, .int .i64 0, .int .i64 0] (heap_alloc_new _ _) HSZ1.out rfl HON1.out ?_)
    | fail)
   have hbs1 : Below W0.heap.size W0 ((W0.alloc (.cells #[.int .i64 0, .int .i64 0, .int .i64 0] 33)).setRow W0.heap.size #[.int .i64 who, .int .i64 1, .int .i64 need]) := ((Below.refl _ _).alloc (Nat.le_refl _) _).trans (setRow_below (Nat.le_refl _) _)
   have hx1 : HT ((W0.alloc (.cells #[.int .i64 0, .int .i64 0, .int .i64 0] 33)).setRow W0.heap.size #[.int .i64 who, .int .i64 1, .int .i64 need]) W0.heap.size 33 [.int .i64 who, .int .i64 1, .int .i64 need] := setRow_heap _ _ _ _ _ _ (heap_alloc_new _ _)
   have hbw1 := bgo HB.out hbs1 (Below.size HB.out)
   obtain ⟨W1, hW1⟩ : ∃ zz, zz = ((W0.alloc (.cells #[.int .i64 0, .int .i64 0, .int .i64 0] 33)).setRow W0.heap.size #[.int .i64 who, .int .i64 1, .int .i64 need]) := ⟨_, rfl⟩
   rw [← hW1] at hbs1 hx1 hbw1 ⊢
   obtain ⟨gx1, hg1⟩ : ∃ zz, zz = W0.heap.size := ⟨_, rfl⟩
   rw [← hg1] at hx1 ⊢
   have HGE1 : Hid (∀ m, m ≤ W0.heap.size → m ≤ gx1) := fun m h => by omega
   have HX1 := Lib.hid hx1
   have HBW1 := Lib.hid hbw1
   have HBS1 := Lib.hid hbs1
   clear hW1 hx1 hbw1 hbs1 hg1 HON1
   have HGHM : Hid (w.heap.size + 2 ≤ gx1) := HGE1.out _ HLE.out
   clear HBW1 HGE1
   have HRBn := Lib.hid (HRB.out.below HBS1.out)
   clear HRB
   have HRB := HRBn
   clear HRBn
   have HZBn := Lib.hid (HZB.out.below HBS1.out)
   clear HZB
   have HZB := HZBn
   clear HZBn
   have HBn := Lib.hid (bgo HB.out HBS1.out HB.out.size)
   clear HB
   have HB := HBn
   clear HBn
   have HLEn := Lib.hid (Nat.le_trans HLE.out (Below.size HBS1.out))
   clear HLE
   have HLE := HLEn
   clear HLEn
   clear HBS1
   have HM := HX1
   clear HX1 HSZ1
   have HSZr : Hid ((Try.prog.info? 26).map (·.size) = some (#[va, vb, vc] : Array Value).size) := by show _ = _; rw [rol_sz]; rfl
   have HRBx : Hid (W1.heap[w.heap.size]? = some (.cells #[va, vb, vc] 26 (0, 0))) := HRB.out
   go_wp2_with (first
    | (refine wpList_load_row rfl 26 (.tmp 3) rfl w.heap.size rfl 26 #[va, vb, vc] (0, 0) _ HRBx.out Try.underlying26 rfl HSZr.out ?_)
    | fail)
   refine (Check_any _ va vb vc R (HR.out.mono HB.out)).mono ?_
   clear HRBx
   rintro e wc ⟨rfl, hb⟩
   have HRBn := Lib.hid (HRB.out.below hb)
   clear HRB
   have HRB := HRBn
   clear HRBn
   have HZBn := Lib.hid (HZB.out.below hb)
   clear HZB
   have HZB := HZBn
   clear HZBn
   have HMn := Lib.hid (HM.out.below hb)
   clear HM
   have HM := HMn
   clear HMn
   have HBn := Lib.hid (bgo HB.out hb HB.out.size)
   clear HB
   have HB := HBn
   clear HBn
   have HLEn := Lib.hid (Nat.le_trans HLE.out (Below.size hb))
   clear HLE
   have HLE := HLEn
   clear HLEn
   clear hb
   rw [HCK.out]
   have HRBx : Hid (wc.heap[w.heap.size]? = some (.cells #[va, vb, vc] 26 (0, 0))) := HRB.out
   go_wp2_with (first
    | (refine wpList_load_row rfl 26 (.tmp 3) rfl w.heap.size rfl 26 #[va, vb, vc] (0, 0) _ HRBx.out Try.underlying26 rfl HSZr.out ?_)
    | fail)
   refine (Member_any _ va vb vc R.M who xo b (HR.out.1.mono HB.out) HXO.out HBB.out).mono ?_
   clear HRBx
   rintro e wf ⟨rfl, hb⟩
   have HRBn := Lib.hid (HRB.out.below hb)
   clear HRB
   have HRB := HRBn
   clear HRBn
   have HZBn := Lib.hid (HZB.out.below hb)
   clear HZB
   have HZB := HZBn
   clear HZBn
   have HMn := Lib.hid (HM.out.below hb)
   clear HM
   have HM := HMn
   clear HMn
   have HBn := Lib.hid (bgo HB.out hb HB.out.size)
   clear HB
   have HB := HBn
   clear HBn
   have HLEn := Lib.hid (Nat.le_trans HLE.out (Below.size hb))
   clear HLE
   have HLE := HLEn
   clear HLEn
   clear hb
   have HSZ2 : Hid ((Try.prog.info? 33).map (·.size) = some (#[.int .i64 xo.no, .int .i64 xo.state, .int .i64 xo.need] : Array Value).size) := by show _ = _; rw [mem_sz]; rfl
   have HON2 : Hid ((#[.int .i64 xo.no, .int .i64 xo.state, .int .i64 xo.need] : Array Value).all (·.oneCell') = true) := by show _ = true; simp [Value.oneCell']
   go_upto_region 4 with (first
    | (refine wpList_store_row rfl 33 (.tmp 10) (.tmp 21) rfl wf.heap.size #[.int .i64 xo.no, .int .i64 xo.state, .int .i64 xo.need] rfl rfl 33 #[.int .i64 0, .int .i64 0, .int .i64 0] (heap_alloc_new _ _) HSZ2.out rfl HON2.out ?_)
    | fail)
   have hbs2 : Below wf.heap.size wf ((wf.alloc (.cells #[.int .i64 0, .int .i64 0, .int .i64 0] 33)).setRow wf.heap.size #[.int .i64 xo.no, .int .i64 xo.state, .int .i64 xo.need]) := ((Below.refl _ _).alloc (Nat.le_refl _) _).trans (setRow_below (Nat.le_refl _) _)
   have hx2 : HT ((wf.alloc (.cells #[.int .i64 0, .int .i64 0, .int .i64 0] 33)).setRow wf.heap.size #[.int .i64 xo.no, .int .i64 xo.state, .int .i64 xo.need]) wf.heap.size 33 [.int .i64 xo.no, .int .i64 xo.state, .int .i64 xo.need] := setRow_heap _ _ _ _ _ _ (heap_alloc_new _ _)
   have hbw2 := bgo HB.out hbs2 (Below.size HB.out)
   obtain ⟨W2, hW2⟩ : ∃ zz, zz = ((wf.alloc (.cells #[.int .i64 0, .int .i64 0, .int .i64 0] 33)).setRow wf.heap.size #[.int .i64 xo.no, .int .i64 xo.state, .int .i64 xo.need]) := ⟨_, rfl⟩
   rw [← hW2] at hbs2 hx2 hbw2 ⊢
   obtain ⟨gx2, hg2⟩ : ∃ zz, zz = wf.heap.size := ⟨_, rfl⟩
   rw [← hg2] at hx2 ⊢
   have HGE2 : Hid (∀ m, m ≤ wf.heap.size → m ≤ gx2) := fun m h => by omega
   have HX2 := Lib.hid hx2
   have HBW2 := Lib.hid hbw2
   have HBS2 := Lib.hid hbs2
   clear hW2 hx2 hbw2 hbs2 hg2 HON2
   have HGHF : Hid (w.heap.size + 2 ≤ gx2) := HGE2.out _ HLE.out
   clear HBW2 HGE2
   have HRBn := Lib.hid (HRB.out.below HBS2.out)
   clear HRB
   have HRB := HRBn
   clear HRBn
   have HZBn := Lib.hid (HZB.out.below HBS2.out)
   clear HZB
   have HZB := HZBn
   clear HZBn
   have HMn := Lib.hid (HM.out.below HBS2.out)
   clear HM
   have HM := HMn
   clear HMn
   have HBn := Lib.hid (bgo HB.out HBS2.out HB.out.size)
   clear HB
   have HB := HBn
   clear HBn
   have HLEn := Lib.hid (Nat.le_trans HLE.out (Below.size HBS2.out))
   clear HLE
   have HLE := HLEn
   clear HLEn
   clear HBS2
   have HF := HX2
   clear HX2 HSZ2
   have HSZq : Hid ((Try.prog.info? 33).map (·.size) = some (#[.int .i64 who, .int .i64 1, .int .i64 need] : Array Value).size) := by show _ = _; rw [mem_sz]; rfl
   have HONq : Hid ((#[.int .i64 who, .int .i64 1, .int .i64 need] : Array Value).all (·.oneCell') = true) := by show _ = true; simp [Value.oneCell']
   have HMx : Hid (W2.heap[gx1]? = some (.cells #[.int .i64 who, .int .i64 1, .int .i64 need] 33 (0, 0))) := HM.out
   go_wp2_with (first
    | (refine wpList_load_row rfl 33 (.tmp 8) rfl gx1 rfl 33 #[.int .i64 who, .int .i64 1, .int .i64 need] (0, 0) _ HMx.out Try.underlying33 rfl HSZq.out ?_)
    | fail)
   refine (rightM_any _ who 1 need).mono ?_
   clear HMx
   rintro e wr ⟨rfl, hb⟩
   have HRBn := Lib.hid (HRB.out.below hb)
   clear HRB
   have HRB := HRBn
   clear HRBn
   have HZBn := Lib.hid (HZB.out.below hb)
   clear HZB
   have HZB := HZBn
   clear HZBn
   have HMn := Lib.hid (HM.out.below hb)
   clear HM
   have HM := HMn
   clear HMn
   have HFn := Lib.hid (HF.out.below hb)
   clear HF
   have HF := HFn
   clear HFn
   have HBn := Lib.hid (bgo HB.out hb HB.out.size)
   clear HB
   have HB := HBn
   clear HBn
   have HLEn := Lib.hid (Nat.le_trans HLE.out (Below.size hb))
   clear HLE
   have HLE := HLEn
   clear HLEn
   clear hb
   rw [HRI.out]
   have HSZz : Hid ((Try.prog.info? 26).map (·.size) = some (#[.slice none 0 0, .slice none 0 0, .slice none 0 0] : Array Value).size) := by show _ = _; rw [rol_sz]; rfl
   have HONz : Hid ((#[.slice none 0 0, .slice none 0 0, .slice none 0 0] : Array Value).all (·.oneCell') = true) := by show _ = true; simp [Value.oneCell']
   have HZBx : Hid (wr.heap[(w.heap.size + 1)]? = some (.cells #[.slice none 0 0, .slice none 0 0, .slice none 0 0] 26 (0, 0))) := HZB.out
   go_wp2_with (first
    | (refine wpList_store_row rfl 26 (.tmp 6) (.tmp 32) rfl (w.heap.size + 1) #[.slice none 0 0, .slice none 0 0, .slice none 0 0] rfl rfl 26 #[.slice none 0 0, .slice none 0 0, .slice none 0 0] HZBx.out HSZz.out rfl HONz.out ?_)
    | fail)
   refine bodyPost_ret (results_ht rfl (HT.row HZBx.out rfl) rfl rfl Try.underlying26 rfl rol_sz) rfl ?_
   rw [HDF.out]
   exact ⟨_, _, _, _, _, _, _, _, _, rfl, OwnRoll.none _ _, HB.out.trans (setRow_below (by omega) _)⟩
 ·
  have hc2 : chkR R = false := by simpa using hc
  have HCK : Hid (chkE R = 14) := by show _ = _; unfold chkE; simp [hc]
  have HDF : Hid (admitR R who need = (14, RollT.nil)) := by show _ = _; unfold admitR; simp [hc2]
  clear hxo hb
  clear hc hc2
  have hHRB : HT (w.alloc (.cells #[va, vb, vc] 26)) w.heap.size 26 [va, vb, vc] := by
   have := HT.new (w := w) (t := 26) (C := [va, vb, vc])
   exact this
  have hHRB := hHRB.below (w' := ((w.alloc (.cells #[va, vb, vc] 26)).alloc (.cells #[.slice none 0 0, .slice none 0 0, .slice none 0 0] 26))) ((Below.refl _ _).alloc (Nat.le_refl _) _)
  have HRB := Lib.hid hHRB
  clear hHRB
  have hHZB : HT ((w.alloc (.cells #[va, vb, vc] 26)).alloc (.cells #[.slice none 0 0, .slice none 0 0, .slice none 0 0] 26)) (w.heap.size + 1) 26 [.slice none 0 0, .slice none 0 0, .slice none 0 0] := by
   have := HT.new (w := (w.alloc (.cells #[va, vb, vc] 26))) (t := 26) (C := [.slice none 0 0, .slice none 0 0, .slice none 0 0])
   rwa [show (w.alloc (.cells #[va, vb, vc] 26)).heap.size = (w.heap.size + 1) by simp] at this
  have HZB := Lib.hid hHZB
  clear hHZB
  have hB : Below w.heap.size w ((w.alloc (.cells #[va, vb, vc] 26)).alloc (.cells #[.slice none 0 0, .slice none 0 0, .slice none 0 0] 26)) := (((Below.refl _ _).alloc (by simp <;> omega) _).alloc (by simp <;> omega) _)
  have HB := Lib.hid hB
  clear hB
  have hS : w.heap.size + 2 ≤ ((w.alloc (.cells #[va, vb, vc] 26)).alloc (.cells #[.slice none 0 0, .slice none 0 0, .slice none 0 0] 26)).heap.size := by simp <;> omega
  have HLE := Lib.hid hS
  clear hS
  go_enter Try.func31, Try.ntmps31
  go_upto_region 1 with fail
  generalize hW : ((w.alloc (.cells #[va, vb, vc] 26)).alloc (.cells #[.slice none 0 0, .slice none 0 0, .slice none 0 0] 26)) = W0 at *
  clear hW
  have HSZ1 : Hid ((Try.prog.info? 33).map (·.size) = some (#[.int .i64 who, .int .i64 1, .int .i64 need] : Array Value).size) := by show _ = _; rw [mem_sz]; rfl
  have HON1 : Hid ((#[.int .i64 who, .int .i64 1, .int .i64 need] : Array Value).all (·.oneCell') = true) := by show _ = true; simp [Value.oneCell']
  go_upto_region 2 with (first
   | (refine wpList_store_row rfl 33 (.tmp 8) (.tmp 14) rfl W0.heap.size #[.int .i64 who, .int .i64 1, .int .i64 need] rfl rfl 33 #[.int .i64 0, .int .i64 0, .int .i64 0] (heap_alloc_new _ _) HSZ1.out rfl HON1.out ?_)
   | fail)
  have hbs1 : Below W0.heap.size W0 ((W0.alloc (.cells #[.int .i64 0, .int .i64 0, .int .i64 0] 33)).setRow W0.heap.size #[.int .i64 who, .int .i64 1, .int .i64 need]) := ((Below.refl _ _).alloc (Nat.le_refl _) _).trans (setRow_below (Nat.le_refl _) _)
  have hx1 : HT ((W0.alloc (.cells #[.int .i64 0, .int .i64 0, .int .i64 0] 33)).setRow W0.heap.size #[.int .i64 who, .int .i64 1, .int .i64 need]) W0.heap.size 33 [.int .i64 who, .int .i64 1, .int .i64 need] := setRow_heap _ _ _ _ _ _ (heap_alloc_new _ _)
  have hbw1 := bgo HB.out hbs1 (Below.size HB.out)
  obtain ⟨W1, hW1⟩ : ∃ zz, zz = ((W0.alloc (.cells #[.int .i64 0, .int .i64 0, .int .i64 0] 33)).setRow W0.heap.size #[.int .i64 who, .int .i64 1, .int .i64 need]) := ⟨_, rfl⟩
  rw [← hW1] at hbs1 hx1 hbw1 ⊢
  obtain ⟨gx1, hg1⟩ : ∃ zz, zz = W0.heap.size := ⟨_, rfl⟩
  rw [← hg1] at hx1 ⊢
  have HGE1 : Hid (∀ m, m ≤ W0.heap.size → m ≤ gx1) := fun m h => by omega
  have HX1 := Lib.hid hx1
  have HBW1 := Lib.hid hbw1
  have HBS1 := Lib.hid hbs1
  clear hW1 hx1 hbw1 hbs1 hg1 HON1
  have HGHM : Hid (w.heap.size + 2 ≤ gx1) := HGE1.out _ HLE.out
  clear HBW1 HGE1
  have HRBn := Lib.hid (HRB.out.below HBS1.out)
  clear HRB
  have HRB := HRBn
  clear HRBn
  have HZBn := Lib.hid (HZB.out.below HBS1.out)
  clear HZB
  have HZB := HZBn
  clear HZBn
  have HBn := Lib.hid (bgo HB.out HBS1.out HB.out.size)
  clear HB
  have HB := HBn
  clear HBn
  have HLEn := Lib.hid (Nat.le_trans HLE.out (Below.size HBS1.out))
  clear HLE
  have HLE := HLEn
  clear HLEn
  clear HBS1
  have HM := HX1
  clear HX1 HSZ1
  have HSZr : Hid ((Try.prog.info? 26).map (·.size) = some (#[va, vb, vc] : Array Value).size) := by show _ = _; rw [rol_sz]; rfl
  have HRBx : Hid (W1.heap[w.heap.size]? = some (.cells #[va, vb, vc] 26 (0, 0))) := HRB.out
  go_wp2_with (first
   | (refine wpList_load_row rfl 26 (.tmp 3) rfl w.heap.size rfl 26 #[va, vb, vc] (0, 0) _ HRBx.out Try.underlying26 rfl HSZr.out ?_)
   | fail)
  refine (Check_any _ va vb vc R (HR.out.mono HB.out)).mono ?_
  clear HRBx
  rintro e wc ⟨rfl, hb⟩
  have HRBn := Lib.hid (HRB.out.below hb)
  clear HRB
  have HRB := HRBn
  clear HRBn
  have HZBn := Lib.hid (HZB.out.below hb)
  clear HZB
  have HZB := HZBn
  clear HZBn
  have HMn := Lib.hid (HM.out.below hb)
  clear HM
  have HM := HMn
  clear HMn
  have HBn := Lib.hid (bgo HB.out hb HB.out.size)
  clear HB
  have HB := HBn
  clear HBn
  have HLEn := Lib.hid (Nat.le_trans HLE.out (Below.size hb))
  clear HLE
  have HLE := HLEn
  clear HLEn
  clear hb
  rw [HCK.out]
  have HRBx : Hid (wc.heap[w.heap.size]? = some (.cells #[va, vb, vc] 26 (0, 0))) := HRB.out
  go_wp2_with (first
   | (refine wpList_load_row rfl 26 (.tmp 3) rfl w.heap.size rfl 26 #[va, vb, vc] (0, 0) _ HRBx.out Try.underlying26 rfl HSZr.out ?_)
   | fail)
  refine (Member_any _ va vb vc R.M who xo b (HR.out.1.mono HB.out) HXO.out HBB.out).mono ?_
  clear HRBx
  rintro e wf ⟨rfl, hb⟩
  have HRBn := Lib.hid (HRB.out.below hb)
  clear HRB
  have HRB := HRBn
  clear HRBn
  have HZBn := Lib.hid (HZB.out.below hb)
  clear HZB
  have HZB := HZBn
  clear HZBn
  have HMn := Lib.hid (HM.out.below hb)
  clear HM
  have HM := HMn
  clear HMn
  have HBn := Lib.hid (bgo HB.out hb HB.out.size)
  clear HB
  have HB := HBn
  clear HBn
  have HLEn := Lib.hid (Nat.le_trans HLE.out (Below.size hb))
  clear HLE
  have HLE := HLEn
  clear HLEn
  clear hb
  have HSZ2 : Hid ((Try.prog.info? 33).map (·.size) = some (#[.int .i64 xo.no, .int .i64 xo.state, .int .i64 xo.need] : Array Value).size) := by show _ = _; rw [mem_sz]; rfl
  have HON2 : Hid ((#[.int .i64 xo.no, .int .i64 xo.state, .int .i64 xo.need] : Array Value).all (·.oneCell') = true) := by show _ = true; simp [Value.oneCell']
  go_upto_region 4 with (first
   | (refine wpList_store_row rfl 33 (.tmp 10) (.tmp 21) rfl wf.heap.size #[.int .i64 xo.no, .int .i64 xo.state, .int .i64 xo.need] rfl rfl 33 #[.int .i64 0, .int .i64 0, .int .i64 0] (heap_alloc_new _ _) HSZ2.out rfl HON2.out ?_)
   | fail)
  have hbs2 : Below wf.heap.size wf ((wf.alloc (.cells #[.int .i64 0, .int .i64 0, .int .i64 0] 33)).setRow wf.heap.size #[.int .i64 xo.no, .int .i64 xo.state, .int .i64 xo.need]) := ((Below.refl _ _).alloc (Nat.le_refl _) _).trans (setRow_below (Nat.le_refl _) _)
  have hx2 : HT ((wf.alloc (.cells #[.int .i64 0, .int .i64 0, .int .i64 0] 33)).setRow wf.heap.size #[.int .i64 xo.no, .int .i64 xo.state, .int .i64 xo.need]) wf.heap.size 33 [.int .i64 xo.no, .int .i64 xo.state, .int .i64 xo.need] := setRow_heap _ _ _ _ _ _ (heap_alloc_new _ _)
  have hbw2 := bgo HB.out hbs2 (Below.size HB.out)
  obtain ⟨W2, hW2⟩ : ∃ zz, zz = ((wf.alloc (.cells #[.int .i64 0, .int .i64 0, .int .i64 0] 33)).setRow wf.heap.size #[.int .i64 xo.no, .int .i64 xo.state, .int .i64 xo.need]) := ⟨_, rfl⟩
  rw [← hW2] at hbs2 hx2 hbw2 ⊢
  obtain ⟨gx2, hg2⟩ : ∃ zz, zz = wf.heap.size := ⟨_, rfl⟩
  rw [← hg2] at hx2 ⊢
  have HGE2 : Hid (∀ m, m ≤ wf.heap.size → m ≤ gx2) := fun m h => by omega
  have HX2 := Lib.hid hx2
  have HBW2 := Lib.hid hbw2
  have HBS2 := Lib.hid hbs2
  clear hW2 hx2 hbw2 hbs2 hg2 HON2
  have HGHF : Hid (w.heap.size + 2 ≤ gx2) := HGE2.out _ HLE.out
  clear HBW2 HGE2
  have HRBn := Lib.hid (HRB.out.below HBS2.out)
  clear HRB
  have HRB := HRBn
  clear HRBn
  have HZBn := Lib.hid (HZB.out.below HBS2.out)
  clear HZB
  have HZB := HZBn
  clear HZBn
  have HMn := Lib.hid (HM.out.below HBS2.out)
  clear HM
  have HM := HMn
  clear HMn
  have HBn := Lib.hid (bgo HB.out HBS2.out HB.out.size)
  clear HB
  have HB := HBn
  clear HBn
  have HLEn := Lib.hid (Nat.le_trans HLE.out (Below.size HBS2.out))
  clear HLE
  have HLE := HLEn
  clear HLEn
  clear HBS2
  have HF := HX2
  clear HX2 HSZ2
  have HSZz : Hid ((Try.prog.info? 26).map (·.size) = some (#[.slice none 0 0, .slice none 0 0, .slice none 0 0] : Array Value).size) := by show _ = _; rw [rol_sz]; rfl
  have HONz : Hid ((#[.slice none 0 0, .slice none 0 0, .slice none 0 0] : Array Value).all (·.oneCell') = true) := by show _ = true; simp [Value.oneCell']
  have HZBx : Hid (W2.heap[(w.heap.size + 1)]? = some (.cells #[.slice none 0 0, .slice none 0 0, .slice none 0 0] 26 (0, 0))) := HZB.out
  go_wp2_with (first
   | (refine wpList_store_row rfl 26 (.tmp 6) (.tmp 26) rfl (w.heap.size + 1) #[.slice none 0 0, .slice none 0 0, .slice none 0 0] rfl rfl 26 #[.slice none 0 0, .slice none 0 0, .slice none 0 0] HZBx.out HSZz.out rfl HONz.out ?_)
   | fail)
  refine bodyPost_ret (results_ht rfl (HT.row HZBx.out rfl) rfl rfl Try.underlying26 rfl rol_sz) rfl ?_
  rw [HDF.out]
  exact ⟨_, _, _, _, _, _, _, _, _, rfl, OwnRoll.none _ _, HB.out.trans (setRow_below (by omega) _)⟩
end Cam
