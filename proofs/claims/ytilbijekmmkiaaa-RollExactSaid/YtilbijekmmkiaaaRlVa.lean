import Derived.Test.YtilbijekmmkiaaaRlW
import Derived.Test.YtilbijekmmkiaaaRlX
import Derived.Test.YtilbijekmmkiaaaRlR
import Derived.Test.YtilbijekmmkiaaaRlQ
/- the page: Admit. -/
namespace Cam
open Go Go.RowKit Go.Proofs
theorem MbTLim {m : MbT} (h : rightM m = true) : 1 ≤ MbT.no m ∧ MbT.no m ≤ 16 := by
 unfold rightM wB at h
 simp at h
 exact h.1.1
theorem InTLim {i : InT} (h : rightI i = true) : 1 ≤ InT.no i ∧ InT.no i ≤ 8 := by
 unfold rightI wB at h
 simp at h
 omega
theorem AsTLim {a : AsT} (h : rightA a = true) : 1 ≤ AsT.no a ∧ AsT.no a ≤ 6 := by
 unfold rightA wB at h
 simp at h
 omega
set_option maxRecDepth 100000 in
set_option maxHeartbeats 6400000 in
theorem rAdmit_any (w : World) (va vb vc : Value) (R : RollT) (who need : Int) (h : RollIn w va vb vc R) (hf : few R) :
  Calls Try.prog 32 #[.agg #[va, vb, vc], .int .i64 who, .int .i64 need] w (RetPost w (admitR R who need)) := by
 have HR := Lib.hid h
 have HFEW := Lib.hid hf
 clear h hf
 obtain ⟨xo, hxo⟩ : ∃ z, z = fdX MbT.no mZ who R.M := ⟨_, rfl⟩
 obtain ⟨b, hb⟩ : ∃ z, z = hasB MbT.no who R.M := ⟨_, rfl⟩
 have HXO := Lib.hid hxo
 have HBB := Lib.hid hb
 obtain ⟨PL, hpl⟩ : ∃ z, z = putL MbT.no (⟨who, 1, need⟩ : MbT) R.M := ⟨_, rfl⟩
 have HPL0 := Lib.hid hpl
 clear hpl
 by_cases hc : chkR R = true
 ·
  have HCK := Lib.hid hc
  by_cases hr : rightM (⟨who, 1, need⟩ : MbT) = true
  ·
   have HRI := Lib.hid hr
   by_cases hbt : b = true
   ·
    have HDF : Hid (admitR R who need = (11, RollT.nil)) := by show _ = _; unfold admitR; simp [hc, hr, ← hb, hbt]
    clear hxo hb hc hr
    have hHRB : HT (w.alloc (.cells #[va, vb, vc] 26)) w.heap.size 26 [va, vb, vc] := by
     have := HT.new (w := w) (t := 26) (C := [va, vb, vc])
     exact this
    have hHRB := hHRB.below (w' := ((w.alloc (.cells #[va, vb, vc] 26)).alloc (.cells #[.slice none 0 0, .slice none 0 0, .slice none 0 0] 26))) ((Below.refl _ _).alloc (Nat.le_refl _) _)
    have HRB := Lib.hid hHRB
    clear hHRB
    have hHZB : HT ((w.alloc (.cells #[va, vb, vc] 26)).alloc (.cells #[.slice none 0 0, .slice none 0 0, .slice none 0 0] 26)) (w.heap.size + 1) 26 [.slice none 0 0, .slice none 0 0, .slice none 0 0] := by
     have := HT.new (w := (w.alloc (.cells #[va, vb, vc] 26))) (t := 26) (C := [.slice none 0 0, .slice none 0 0, .slice none 0 0])
     rwa [show (w.alloc (.cells #[va, vb, vc] 26)).heap.size = (w.heap.size + 1) by simp] at this
    have HZB := Lib.hid hHZB
    clear hHZB
    have hB : Below w.heap.size w ((w.alloc (.cells #[va, vb, vc] 26)).alloc (.cells #[.slice none 0 0, .slice none 0 0, .slice none 0 0] 26)) := (((Below.refl _ _).alloc (by simp <;> omega) _).alloc (by simp <;> omega) _)
    have HB := Lib.hid hB
    clear hB
    have hS : w.heap.size + 2 ≤ ((w.alloc (.cells #[va, vb, vc] 26)).alloc (.cells #[.slice none 0 0, .slice none 0 0, .slice none 0 0] 26)).heap.size := by simp <;> omega
    have HLE := Lib.hid hS
    clear hS
    go_enter Try.func32, Try.ntmps32
    go_upto_region 1 with fail
    generalize hW : ((w.alloc (.cells #[va, vb, vc] 26)).alloc (.cells #[.slice none 0 0, .slice none 0 0, .slice none 0 0] 26)) = W0 at *
    clear hW
    have HSZ1 : Hid ((Try.prog.info? 33).map (·.size) = some (#[.int .i64 who, .int .i64 1, .int .i64 need] : Array Value).size) := by show _ = _; rw [mem_sz]; rfl
    have HON1 : Hid ((#[.int .i64 who, .int .i64 1, .int .i64 need] : Array Value).all (·.oneCell') = true) := by show _ = true; simp [Value.oneCell']
    go_upto_region 2 with (first
     | (refine wpList_store_row rfl 33 (.tmp 8) (.tmp 17) rfl W0.heap.size #[.int .i64 who, .int .i64 1, .int .i64 need] rfl rfl 33 #[.int .i64 0, .int .i64 0, .int .i64 0] (heap_alloc_new _ _) HSZ1.out rfl HON1.out ?_)
     | fail)
    have hbs1 : Below W0.heap.size W0 ((W0.alloc (.cells #[.int .i64 0, .int .i64 0, .int .i64 0] 33)).setRow W0.heap.size #[.int .i64 who, .int .i64 1, .int .i64 need]) := ((Below.refl _ _).alloc (Nat.le_refl _) _).trans (setRow_below (Nat.le_refl _) _)
    have hx1 : HT ((W0.alloc (.cells #[.int .i64 0, .int .i64 0, .int .i64 0] 33)).setRow W0.heap.size #[.int .i64 who, .int .i64 1, .int .i64 need]) W0.heap.size 33 [.int .i64 who, .int .i64 1, .int .i64 need] := setRow_heap _ _ _ _ _ _ (heap_alloc_new _ _)
    have hbw1 := bgo HB.out hbs1 (Below.size HB.out)
    obtain ⟨W1, hW1⟩ : ∃ zz, zz = ((W0.alloc (.cells #[.int .i64 0, .int .i64 0, .int .i64 0] 33)).setRow W0.heap.size #[.int .i64 who, .int .i64 1, .int .i64 need]) := ⟨_, rfl⟩
    rw [← hW1] at hbs1 hx1 hbw1 ⊢
    obtain ⟨gx1, hg1⟩ : ∃ zz, zz = W0.heap.size := ⟨_, rfl⟩
    rw [← hg1] at hx1 ⊢
    have HGE1 : Hid (∀ m, m ≤ W0.heap.size → m ≤ gx1) := fun m h => by omega
    have HX1 := Lib.hid hx1
    have HBW1 := Lib.hid hbw1
    have HBS1 := Lib.hid hbs1
    clear hW1 hx1 hbw1 hbs1 hg1 HON1
    have HGHM : Hid (w.heap.size + 2 ≤ gx1) := HGE1.out _ HLE.out
    clear HBW1 HGE1
    have HRBn := Lib.hid (HRB.out.below HBS1.out)
    clear HRB
    have HRB := HRBn
    clear HRBn
    have HZBn := Lib.hid (HZB.out.below HBS1.out)
    clear HZB
    have HZB := HZBn
    clear HZBn
    have HBn := Lib.hid (bgo HB.out HBS1.out HB.out.size)
    clear HB
    have HB := HBn
    clear HBn
    have HLEn := Lib.hid (Nat.le_trans HLE.out (Below.size HBS1.out))
    clear HLE
    have HLE := HLEn
    clear HLEn
    clear HBS1
    have HM := HX1
    clear HX1 HSZ1
    have HSZr : Hid ((Try.prog.info? 26).map (·.size) = some (#[va, vb, vc] : Array Value).size) := by show _ = _; rw [rol_sz]; rfl
    have HRBx : Hid (W1.heap[w.heap.size]? = some (.cells #[va, vb, vc] 26 (0, 0))) := HRB.out
    go_wp2_with (first
     | (refine wpList_load_row rfl 26 (.tmp 3) rfl w.heap.size rfl 26 #[va, vb, vc] (0, 0) _ HRBx.out Try.underlying26 rfl HSZr.out ?_)
     | fail)
    refine (rRoll_any _ va vb vc R (HR.out.mono HB.out)).mono ?_
    clear HRBx
    rintro e wc ⟨rfl, hb⟩
    have HRBn := Lib.hid (HRB.out.below hb)
    clear HRB
    have HRB := HRBn
    clear HRBn
    have HZBn := Lib.hid (HZB.out.below hb)
    clear HZB
    have HZB := HZBn
    clear HZBn
    have HMn := Lib.hid (HM.out.below hb)
    clear HM
    have HM := HMn
    clear HMn
    have HBn := Lib.hid (bgo HB.out hb HB.out.size)
    clear HB
    have HB := HBn
    clear HBn
    have HLEn := Lib.hid (Nat.le_trans HLE.out (Below.size hb))
    clear HLE
    have HLE := HLEn
    clear HLEn
    clear hb
    rw [HCK.out]
    have HSZq : Hid ((Try.prog.info? 33).map (·.size) = some (#[.int .i64 who, .int .i64 1, .int .i64 need] : Array Value).size) := by show _ = _; rw [mem_sz]; rfl
    have HONq : Hid ((#[.int .i64 who, .int .i64 1, .int .i64 need] : Array Value).all (·.oneCell') = true) := by show _ = true; simp [Value.oneCell']
    have HMx : Hid (wc.heap[gx1]? = some (.cells #[.int .i64 who, .int .i64 1, .int .i64 need] 33 (0, 0))) := HM.out
    go_wp2_with (first
     | (refine wpList_load_row rfl 33 (.tmp 8) rfl gx1 rfl 33 #[.int .i64 who, .int .i64 1, .int .i64 need] (0, 0) _ HMx.out Try.underlying33 rfl HSZq.out ?_)
     | fail)
    refine (rmember_any _ who 1 need).mono ?_
    clear HMx
    rintro e wr ⟨rfl, hb⟩
    have HRBn := Lib.hid (HRB.out.below hb)
    clear HRB
    have HRB := HRBn
    clear HRBn
    have HZBn := Lib.hid (HZB.out.below hb)
    clear HZB
    have HZB := HZBn
    clear HZBn
    have HMn := Lib.hid (HM.out.below hb)
    clear HM
    have HM := HMn
    clear HMn
    have HBn := Lib.hid (bgo HB.out hb HB.out.size)
    clear HB
    have HB := HBn
    clear HBn
    have HLEn := Lib.hid (Nat.le_trans HLE.out (Below.size hb))
    clear HLE
    have HLE := HLEn
    clear HLEn
    clear hb
    rw [HRI.out]
    have HRBx : Hid (wr.heap[w.heap.size]? = some (.cells #[va, vb, vc] 26 (0, 0))) := HRB.out
    go_wp2_with (first
     | (refine wpList_load_row rfl 26 (.tmp 3) rfl w.heap.size rfl 26 #[va, vb, vc] (0, 0) _ HRBx.out Try.underlying26 rfl HSZr.out ?_)
     | fail)
    refine (rMember_any _ va vb vc R.M who xo b (HR.out.1.mono HB.out) HXO.out HBB.out).mono ?_
    clear HRBx
    rintro e wf ⟨rfl, hb⟩
    have HRBn := Lib.hid (HRB.out.below hb)
    clear HRB
    have HRB := HRBn
    clear HRBn
    have HZBn := Lib.hid (HZB.out.below hb)
    clear HZB
    have HZB := HZBn
    clear HZBn
    have HMn := Lib.hid (HM.out.below hb)
    clear HM
    have HM := HMn
    clear HMn
    have HBn := Lib.hid (bgo HB.out hb HB.out.size)
    clear HB
    have HB := HBn
    clear HBn
    have HLEn := Lib.hid (Nat.le_trans HLE.out (Below.size hb))
    clear HLE
    have HLE := HLEn
    clear HLEn
    clear hb
    have HSZ2 : Hid ((Try.prog.info? 33).map (·.size) = some (#[.int .i64 xo.no, .int .i64 xo.state, .int .i64 xo.need] : Array Value).size) := by show _ = _; rw [mem_sz]; rfl
    have HON2 : Hid ((#[.int .i64 xo.no, .int .i64 xo.state, .int .i64 xo.need] : Array Value).all (·.oneCell') = true) := by show _ = true; simp [Value.oneCell']
    go_upto_region 7 with (first
     | (refine wpList_store_row rfl 33 (.tmp 9) (.tmp 30) rfl wf.heap.size #[.int .i64 xo.no, .int .i64 xo.state, .int .i64 xo.need] rfl rfl 33 #[.int .i64 0, .int .i64 0, .int .i64 0] (heap_alloc_new _ _) HSZ2.out rfl HON2.out ?_)
     | fail)
    have hbs2 : Below wf.heap.size wf ((wf.alloc (.cells #[.int .i64 0, .int .i64 0, .int .i64 0] 33)).setRow wf.heap.size #[.int .i64 xo.no, .int .i64 xo.state, .int .i64 xo.need]) := ((Below.refl _ _).alloc (Nat.le_refl _) _).trans (setRow_below (Nat.le_refl _) _)
    have hx2 : HT ((wf.alloc (.cells #[.int .i64 0, .int .i64 0, .int .i64 0] 33)).setRow wf.heap.size #[.int .i64 xo.no, .int .i64 xo.state, .int .i64 xo.need]) wf.heap.size 33 [.int .i64 xo.no, .int .i64 xo.state, .int .i64 xo.need] := setRow_heap _ _ _ _ _ _ (heap_alloc_new _ _)
    have hbw2 := bgo HB.out hbs2 (Below.size HB.out)
    obtain ⟨W2, hW2⟩ : ∃ zz, zz = ((wf.alloc (.cells #[.int .i64 0, .int .i64 0, .int .i64 0] 33)).setRow wf.heap.size #[.int .i64 xo.no, .int .i64 xo.state, .int .i64 xo.need]) := ⟨_, rfl⟩
    rw [← hW2] at hbs2 hx2 hbw2 ⊢
    obtain ⟨gx2, hg2⟩ : ∃ zz, zz = wf.heap.size := ⟨_, rfl⟩
    rw [← hg2] at hx2 ⊢
    have HGE2 : Hid (∀ m, m ≤ wf.heap.size → m ≤ gx2) := fun m h => by omega
    have HX2 := Lib.hid hx2
    have HBW2 := Lib.hid hbw2
    have HBS2 := Lib.hid hbs2
    clear hW2 hx2 hbw2 hbs2 hg2 HON2
    have HGHF : Hid (w.heap.size + 2 ≤ gx2) := HGE2.out _ HLE.out
    clear HBW2 HGE2
    have HRBn := Lib.hid (HRB.out.below HBS2.out)
    clear HRB
    have HRB := HRBn
    clear HRBn
    have HZBn := Lib.hid (HZB.out.below HBS2.out)
    clear HZB
    have HZB := HZBn
    clear HZBn
    have HMn := Lib.hid (HM.out.below HBS2.out)
    clear HM
    have HM := HMn
    clear HMn
    have HBn := Lib.hid (bgo HB.out HBS2.out HB.out.size)
    clear HB
    have HB := HBn
    clear HBn
    have HLEn := Lib.hid (Nat.le_trans HLE.out (Below.size HBS2.out))
    clear HLE
    have HLE := HLEn
    clear HLEn
    clear HBS2
    have HF := HX2
    clear HX2 HSZ2
    have HSZz : Hid ((Try.prog.info? 26).map (·.size) = some (#[.slice none 0 0, .slice none 0 0, .slice none 0 0] : Array Value).size) := by show _ = _; rw [rol_sz]; rfl
    have HONz : Hid ((#[.slice none 0 0, .slice none 0 0, .slice none 0 0] : Array Value).all (·.oneCell') = true) := by show _ = true; simp [Value.oneCell']
    have HZBx : Hid (W2.heap[(w.heap.size + 1)]? = some (.cells #[.slice none 0 0, .slice none 0 0, .slice none 0 0] 26 (0, 0))) := HZB.out
    go_wp2_with (first
     | (refine wpList_store_row rfl 26 (.tmp 6) (.tmp 33) rfl (w.heap.size + 1) #[.slice none 0 0, .slice none 0 0, .slice none 0 0] rfl rfl 26 #[.slice none 0 0, .slice none 0 0, .slice none 0 0] HZBx.out HSZz.out rfl HONz.out ?_)
     | fail)
    refine bodyPost_ret (results_ht rfl (HT.row HZBx.out rfl) rfl rfl Try.underlying26 rfl rol_sz) rfl ?_
    rw [HDF.out]
    exact ⟨_, _, _, _, _, _, _, _, _, rfl, OwnRoll.none _ _, HB.out.trans (setRow_below (by omega) _)⟩
   ·
    have HCHK : Hid (ChkP rightM MbT.no R.M) := by have h9 := hc; unfold chkR at h9; rw [Bool.and_eq_true, Bool.and_eq_true] at h9; exact chkB_true.1 h9.1.1
    have HLO : Hid (∀ y ∈ R.M, 1 ≤ MbT.no y ∧ MbT.no y ≤ 16) := fun y hy => MbTLim (HCHK.out.all y hy)
    have HP1 : Hid (1 ≤ MbT.no (⟨who, 1, need⟩ : MbT)) := (MbTLim hr).1
    have HPN : Hid (MbT.no (⟨who, 1, need⟩ : MbT) ≤ ((16 : Nat) : Int)) := (MbTLim hr).2
    have hb2 : b = false := by simpa using hbt
    have HBF : Hid (hasB MbT.no who R.M = false) := by show _ = _; rw [← hb]; exact hb2
    have HDF : Hid (admitR R who need = (0, { R with M := PL })) := by show _ = _; rw [HPL0.out]; unfold admitR; simp [hc, hr, ← hb, hb2]
    clear hxo hb hc hbt hr
    have hHRB : HT (w.alloc (.cells #[va, vb, vc] 26)) w.heap.size 26 [va, vb, vc] := by
     have := HT.new (w := w) (t := 26) (C := [va, vb, vc])
     exact this
    have hHRB := hHRB.below (w' := ((w.alloc (.cells #[va, vb, vc] 26)).alloc (.cells #[.slice none 0 0, .slice none 0 0, .slice none 0 0] 26))) ((Below.refl _ _).alloc (Nat.le_refl _) _)
    have HRB := Lib.hid hHRB
    clear hHRB
    have hHZB : HT ((w.alloc (.cells #[va, vb, vc] 26)).alloc (.cells #[.slice none 0 0, .slice none 0 0, .slice none 0 0] 26)) (w.heap.size + 1) 26 [.slice none 0 0, .slice none 0 0, .slice none 0 0] := by
     have := HT.new (w := (w.alloc (.cells #[va, vb, vc] 26))) (t := 26) (C := [.slice none 0 0, .slice none 0 0, .slice none 0 0])
     rwa [show (w.alloc (.cells #[va, vb, vc] 26)).heap.size = (w.heap.size + 1) by simp] at this
    have HZB := Lib.hid hHZB
    clear hHZB
    have hB : Below w.heap.size w ((w.alloc (.cells #[va, vb, vc] 26)).alloc (.cells #[.slice none 0 0, .slice none 0 0, .slice none 0 0] 26)) := (((Below.refl _ _).alloc (by simp <;> omega) _).alloc (by simp <;> omega) _)
    have HB := Lib.hid hB
    clear hB
    have hS : w.heap.size + 2 ≤ ((w.alloc (.cells #[va, vb, vc] 26)).alloc (.cells #[.slice none 0 0, .slice none 0 0, .slice none 0 0] 26)).heap.size := by simp <;> omega
    have HLE := Lib.hid hS
    clear hS
    go_enter Try.func32, Try.ntmps32
    go_upto_region 1 with fail
    generalize hW : ((w.alloc (.cells #[va, vb, vc] 26)).alloc (.cells #[.slice none 0 0, .slice none 0 0, .slice none 0 0] 26)) = W0 at *
    clear hW
    have HSZ1 : Hid ((Try.prog.info? 33).map (·.size) = some (#[.int .i64 who, .int .i64 1, .int .i64 need] : Array Value).size) := by show _ = _; rw [mem_sz]; rfl
    have HON1 : Hid ((#[.int .i64 who, .int .i64 1, .int .i64 need] : Array Value).all (·.oneCell') = true) := by show _ = true; simp [Value.oneCell']
    go_upto_region 2 with (first
     | (refine wpList_store_row rfl 33 (.tmp 8) (.tmp 17) rfl W0.heap.size #[.int .i64 who, .int .i64 1, .int .i64 need] rfl rfl 33 #[.int .i64 0, .int .i64 0, .int .i64 0] (heap_alloc_new _ _) HSZ1.out rfl HON1.out ?_)
     | fail)
    have hbs1 : Below W0.heap.size W0 ((W0.alloc (.cells #[.int .i64 0, .int .i64 0, .int .i64 0] 33)).setRow W0.heap.size #[.int .i64 who, .int .i64 1, .int .i64 need]) := ((Below.refl _ _).alloc (Nat.le_refl _) _).trans (setRow_below (Nat.le_refl _) _)
    have hx1 : HT ((W0.alloc (.cells #[.int .i64 0, .int .i64 0, .int .i64 0] 33)).setRow W0.heap.size #[.int .i64 who, .int .i64 1, .int .i64 need]) W0.heap.size 33 [.int .i64 who, .int .i64 1, .int .i64 need] := setRow_heap _ _ _ _ _ _ (heap_alloc_new _ _)
    have hbw1 := bgo HB.out hbs1 (Below.size HB.out)
    obtain ⟨W1, hW1⟩ : ∃ zz, zz = ((W0.alloc (.cells #[.int .i64 0, .int .i64 0, .int .i64 0] 33)).setRow W0.heap.size #[.int .i64 who, .int .i64 1, .int .i64 need]) := ⟨_, rfl⟩
    rw [← hW1] at hbs1 hx1 hbw1 ⊢
    obtain ⟨gx1, hg1⟩ : ∃ zz, zz = W0.heap.size := ⟨_, rfl⟩
    rw [← hg1] at hx1 ⊢
    have HGE1 : Hid (∀ m, m ≤ W0.heap.size → m ≤ gx1) := fun m h => by omega
    have HX1 := Lib.hid hx1
    have HBW1 := Lib.hid hbw1
    have HBS1 := Lib.hid hbs1
    clear hW1 hx1 hbw1 hbs1 hg1 HON1
    have HGHM : Hid (w.heap.size + 2 ≤ gx1) := HGE1.out _ HLE.out
    clear HBW1 HGE1
    have HRBn := Lib.hid (HRB.out.below HBS1.out)
    clear HRB
    have HRB := HRBn
    clear HRBn
    have HZBn := Lib.hid (HZB.out.below HBS1.out)
    clear HZB
    have HZB := HZBn
    clear HZBn
    have HBn := Lib.hid (bgo HB.out HBS1.out HB.out.size)
    clear HB
    have HB := HBn
    clear HBn
    have HLEn := Lib.hid (Nat.le_trans HLE.out (Below.size HBS1.out))
    clear HLE
    have HLE := HLEn
    clear HLEn
    clear HBS1
    have HM := HX1
    clear HX1 HSZ1
    have HSZr : Hid ((Try.prog.info? 26).map (·.size) = some (#[va, vb, vc] : Array Value).size) := by show _ = _; rw [rol_sz]; rfl
    have HRBx : Hid (W1.heap[w.heap.size]? = some (.cells #[va, vb, vc] 26 (0, 0))) := HRB.out
    go_wp2_with (first
     | (refine wpList_load_row rfl 26 (.tmp 3) rfl w.heap.size rfl 26 #[va, vb, vc] (0, 0) _ HRBx.out Try.underlying26 rfl HSZr.out ?_)
     | fail)
    refine (rRoll_any _ va vb vc R (HR.out.mono HB.out)).mono ?_
    clear HRBx
    rintro e wc ⟨rfl, hb⟩
    have HRBn := Lib.hid (HRB.out.below hb)
    clear HRB
    have HRB := HRBn
    clear HRBn
    have HZBn := Lib.hid (HZB.out.below hb)
    clear HZB
    have HZB := HZBn
    clear HZBn
    have HMn := Lib.hid (HM.out.below hb)
    clear HM
    have HM := HMn
    clear HMn
    have HBn := Lib.hid (bgo HB.out hb HB.out.size)
    clear HB
    have HB := HBn
    clear HBn
    have HLEn := Lib.hid (Nat.le_trans HLE.out (Below.size hb))
    clear HLE
    have HLE := HLEn
    clear HLEn
    clear hb
    rw [HCK.out]
    have HSZq : Hid ((Try.prog.info? 33).map (·.size) = some (#[.int .i64 who, .int .i64 1, .int .i64 need] : Array Value).size) := by show _ = _; rw [mem_sz]; rfl
    have HONq : Hid ((#[.int .i64 who, .int .i64 1, .int .i64 need] : Array Value).all (·.oneCell') = true) := by show _ = true; simp [Value.oneCell']
    have HMx : Hid (wc.heap[gx1]? = some (.cells #[.int .i64 who, .int .i64 1, .int .i64 need] 33 (0, 0))) := HM.out
    go_wp2_with (first
     | (refine wpList_load_row rfl 33 (.tmp 8) rfl gx1 rfl 33 #[.int .i64 who, .int .i64 1, .int .i64 need] (0, 0) _ HMx.out Try.underlying33 rfl HSZq.out ?_)
     | fail)
    refine (rmember_any _ who 1 need).mono ?_
    clear HMx
    rintro e wr ⟨rfl, hb⟩
    have HRBn := Lib.hid (HRB.out.below hb)
    clear HRB
    have HRB := HRBn
    clear HRBn
    have HZBn := Lib.hid (HZB.out.below hb)
    clear HZB
    have HZB := HZBn
    clear HZBn
    have HMn := Lib.hid (HM.out.below hb)
    clear HM
    have HM := HMn
    clear HMn
    have HBn := Lib.hid (bgo HB.out hb HB.out.size)
    clear HB
    have HB := HBn
    clear HBn
    have HLEn := Lib.hid (Nat.le_trans HLE.out (Below.size hb))
    clear HLE
    have HLE := HLEn
    clear HLEn
    clear hb
    rw [HRI.out]
    have HRBx : Hid (wr.heap[w.heap.size]? = some (.cells #[va, vb, vc] 26 (0, 0))) := HRB.out
    go_wp2_with (first
     | (refine wpList_load_row rfl 26 (.tmp 3) rfl w.heap.size rfl 26 #[va, vb, vc] (0, 0) _ HRBx.out Try.underlying26 rfl HSZr.out ?_)
     | fail)
    refine (rMember_any _ va vb vc R.M who xo b (HR.out.1.mono HB.out) HXO.out HBB.out).mono ?_
    clear HRBx
    rintro e wf ⟨rfl, hb⟩
    have HRBn := Lib.hid (HRB.out.below hb)
    clear HRB
    have HRB := HRBn
    clear HRBn
    have HZBn := Lib.hid (HZB.out.below hb)
    clear HZB
    have HZB := HZBn
    clear HZBn
    have HMn := Lib.hid (HM.out.below hb)
    clear HM
    have HM := HMn
    clear HMn
    have HBn := Lib.hid (bgo HB.out hb HB.out.size)
    clear HB
    have HB := HBn
    clear HBn
    have HLEn := Lib.hid (Nat.le_trans HLE.out (Below.size hb))
    clear HLE
    have HLE := HLEn
    clear HLEn
    clear hb
    have HSZ2 : Hid ((Try.prog.info? 33).map (·.size) = some (#[.int .i64 xo.no, .int .i64 xo.state, .int .i64 xo.need] : Array Value).size) := by show _ = _; rw [mem_sz]; rfl
    have HON2 : Hid ((#[.int .i64 xo.no, .int .i64 xo.state, .int .i64 xo.need] : Array Value).all (·.oneCell') = true) := by show _ = true; simp [Value.oneCell']
    go_upto_region 7 with (first
     | (refine wpList_store_row rfl 33 (.tmp 9) (.tmp 30) rfl wf.heap.size #[.int .i64 xo.no, .int .i64 xo.state, .int .i64 xo.need] rfl rfl 33 #[.int .i64 0, .int .i64 0, .int .i64 0] (heap_alloc_new _ _) HSZ2.out rfl HON2.out ?_)
     | fail)
    have hbs2 : Below wf.heap.size wf ((wf.alloc (.cells #[.int .i64 0, .int .i64 0, .int .i64 0] 33)).setRow wf.heap.size #[.int .i64 xo.no, .int .i64 xo.state, .int .i64 xo.need]) := ((Below.refl _ _).alloc (Nat.le_refl _) _).trans (setRow_below (Nat.le_refl _) _)
    have hx2 : HT ((wf.alloc (.cells #[.int .i64 0, .int .i64 0, .int .i64 0] 33)).setRow wf.heap.size #[.int .i64 xo.no, .int .i64 xo.state, .int .i64 xo.need]) wf.heap.size 33 [.int .i64 xo.no, .int .i64 xo.state, .int .i64 xo.need] := setRow_heap _ _ _ _ _ _ (heap_alloc_new _ _)
    have hbw2 := bgo HB.out hbs2 (Below.size HB.out)
    obtain ⟨W2, hW2⟩ : ∃ zz, zz = ((wf.alloc (.cells #[.int .i64 0, .int .i64 0, .int .i64 0] 33)).setRow wf.heap.size #[.int .i64 xo.no, .int .i64 xo.state, .int .i64 xo.need]) := ⟨_, rfl⟩
    rw [← hW2] at hbs2 hx2 hbw2 ⊢
    obtain ⟨gx2, hg2⟩ : ∃ zz, zz = wf.heap.size := ⟨_, rfl⟩
    rw [← hg2] at hx2 ⊢
    have HGE2 : Hid (∀ m, m ≤ wf.heap.size → m ≤ gx2) := fun m h => by omega
    have HX2 := Lib.hid hx2
    have HBW2 := Lib.hid hbw2
    have HBS2 := Lib.hid hbs2
    clear hW2 hx2 hbw2 hbs2 hg2 HON2
    have HGHF : Hid (w.heap.size + 2 ≤ gx2) := HGE2.out _ HLE.out
    clear HBW2 HGE2
    have HRBn := Lib.hid (HRB.out.below HBS2.out)
    clear HRB
    have HRB := HRBn
    clear HRBn
    have HZBn := Lib.hid (HZB.out.below HBS2.out)
    clear HZB
    have HZB := HZBn
    clear HZBn
    have HMn := Lib.hid (HM.out.below HBS2.out)
    clear HM
    have HM := HMn
    clear HMn
    have HBn := Lib.hid (bgo HB.out HBS2.out HB.out.size)
    clear HB
    have HB := HBn
    clear HBn
    have HLEn := Lib.hid (Nat.le_trans HLE.out (Below.size HBS2.out))
    clear HLE
    have HLE := HLEn
    clear HLEn
    clear HBS2
    have HF := HX2
    clear HX2 HSZ2
    have HRBx : Hid (W2.heap[w.heap.size]? = some (.cells #[va, vb, vc] 26 (0, 0))) := HRB.out
    have tw := TwinRoll_any W2 va vb vc R (HR.out.mono HB.out) HFEW.out
    go_wp2_with (first
     | (refine wpList_load_row rfl 26 (.tmp 3) rfl w.heap.size rfl 26 #[va, vb, vc] (0, 0) _ HRBx.out Try.underlying26 rfl HSZr.out ?_)
     | fail)
    refine tw.mono ?_
    clear tw HRBx
    have HLE0 := HLE
    rintro e wt ⟨aM, nM, cM, aI, nI, cI, aA, nA, cA, rfl, ho, hap, hb⟩
    have HOG : Hid (∀ q, ((Value.slice aM nM cM).ownBlock = some q ∨ (Value.slice aI nI cI).ownBlock = some q ∨ (Value.slice aA nA cA).ownBlock = some q) → w.heap.size + 2 ≤ q) := fun q hq => by
     have hs := HLE0.out
     rcases hq with hq | hq | hq
     ·
      have := OwnR.ge ho.1 q hq; omega
     ·
      have := OwnR.ge ho.2.1 q hq; omega
     ·
      have := OwnR.ge ho.2.2 q hq; omega
    have HO := Lib.hid (ho.base (base' := w.heap.size) (by have := HLE0.out; omega))
    clear ho hap HLE0
    have HRBn := Lib.hid (HRB.out.below hb)
    clear HRB
    have HRB := HRBn
    clear HRBn
    have HZBn := Lib.hid (HZB.out.below hb)
    clear HZB
    have HZB := HZBn
    clear HZBn
    have HMn := Lib.hid (HM.out.below hb)
    clear HM
    have HM := HMn
    clear HMn
    have HFn := Lib.hid (HF.out.below hb)
    clear HF
    have HF := HFn
    clear HFn
    have HBn := Lib.hid (bgo HB.out hb HB.out.size)
    clear HB
    have HB := HBn
    clear HBn
    have HLEn := Lib.hid (Nat.le_trans HLE.out (Below.size hb))
    clear HLE
    have HLE := HLEn
    clear HLEn
    clear hb
    clear HF
    have HSZg : Hid ((Try.prog.info? 26).map (·.size) = some (#[.slice aM nM cM, .slice aI nI cI, .slice aA nA cA] : Array Value).size) := by show _ = _; rw [rol_sz]; rfl
    have HONg : Hid ((#[.slice aM nM cM, .slice aI nI cI, .slice aA nA cA] : Array Value).all (·.oneCell') = true) := by show _ = true; simp [Value.oneCell']
    go_upto_region 10 with (first
     | (refine wpList_store_row rfl 26 (.tmp 11) (.tmp 35) rfl wt.heap.size #[.slice aM nM cM, .slice aI nI cI, .slice aA nA cA] rfl rfl 26 #[.slice none 0 0, .slice none 0 0, .slice none 0 0] (heap_alloc_new _ _) HSZg.out rfl HONg.out ?_)
     | fail)
    have hbsg : Below wt.heap.size wt ((wt.alloc (.cells #[.slice none 0 0, .slice none 0 0, .slice none 0 0] 26)).setRow wt.heap.size #[.slice aM nM cM, .slice aI nI cI, .slice aA nA cA]) := ((Below.refl _ _).alloc (Nat.le_refl _) _).trans (setRow_below (Nat.le_refl _) _)
    have hxg : HT ((wt.alloc (.cells #[.slice none 0 0, .slice none 0 0, .slice none 0 0] 26)).setRow wt.heap.size #[.slice aM nM cM, .slice aI nI cI, .slice aA nA cA]) wt.heap.size 26 [.slice aM nM cM, .slice aI nI cI, .slice aA nA cA] := setRow_heap _ _ _ _ _ _ (heap_alloc_new _ _)
    have hbwg := bgo HB.out hbsg (Below.size HB.out)
    obtain ⟨Wg, hWg⟩ : ∃ zz, zz = ((wt.alloc (.cells #[.slice none 0 0, .slice none 0 0, .slice none 0 0] 26)).setRow wt.heap.size #[.slice aM nM cM, .slice aI nI cI, .slice aA nA cA]) := ⟨_, rfl⟩
    rw [← hWg] at hbsg hxg hbwg ⊢
    obtain ⟨gxg, hgg⟩ : ∃ zz, zz = wt.heap.size := ⟨_, rfl⟩
    rw [← hgg] at hxg ⊢
    have HGEg : Hid (∀ m, m ≤ wt.heap.size → m ≤ gxg) := fun m h => by omega
    have HXg := Lib.hid hxg
    have HBWg := Lib.hid hbwg
    have HBSg := Lib.hid hbsg
    clear hWg hxg hbwg hbsg hgg HONg
    have HGHGB : Hid (w.heap.size + 2 ≤ gxg) := HGEg.out _ HLE.out
    have HOL : Hid (∀ q, ((Value.slice aM nM cM).ownBlock = some q ∨ (Value.slice aI nI cI).ownBlock = some q ∨ (Value.slice aA nA cA).ownBlock = some q) → q < gxg) := fun q hq => by
     have hs := HGEg.out (q + 1)
     rcases hq with hq | hq | hq
     ·
      have := OwnR.lt HO.out.1 q hq; omega
     ·
      have := OwnR.lt HO.out.2.1 q hq; omega
     ·
      have := OwnR.lt HO.out.2.2 q hq; omega
    have hPB : Hid (gx1 < gxg) := by have := HGEg.out (gx1 + 1) (by have := HM.out.lt; omega); show _ < _; omega
    clear HBWg HGEg
    have HO2 := Lib.hid (HO.out.below HBSg.out)
    clear HO
    have HO := HO2
    clear HO2
    have HPB := hPB
    clear hPB
    have HRBn := Lib.hid (HRB.out.below HBSg.out)
    clear HRB
    have HRB := HRBn
    clear HRBn
    have HZBn := Lib.hid (HZB.out.below HBSg.out)
    clear HZB
    have HZB := HZBn
    clear HZBn
    have HMn := Lib.hid (HM.out.below HBSg.out)
    clear HM
    have HM := HMn
    clear HMn
    have HBn := Lib.hid (bgo HB.out HBSg.out HB.out.size)
    clear HB
    have HB := HBn
    clear HBn
    have HLEn := Lib.hid (Nat.le_trans HLE.out (Below.size HBSg.out))
    clear HLE
    have HLE := HLEn
    clear HLEn
    clear HBSg
    have HGB := HXg
    clear HXg HSZg
    have hcg := HGB.out.cell (j := 0) rfl
    have hfg := HGB.out.frozen 0
    go_upto_region 11 with fail
    clear hcg hfg
    have hk : Kept (fun k => k = gxg) Wg (Wg.setCell ⟨gxg, 0, none⟩ (.slice none 0 0)) := (Kept.refl _ _).setCell ⟨gxg, 0, none⟩ _ rfl
    have hHGB := Lib.hid ((HGB.out.put 0 _ : HT (Wg.setCell ⟨gxg, 0, none⟩ (.slice none 0 0)) gxg 26 [.slice none 0 0, .slice aI nI cI, .slice aA nA cA]))
    have hHRB := Lib.hid (HRB.out.keptS hk (fun (e : w.heap.size = gxg) => by have := HPB.out; have := HGHGB.out; omega))
    have hHZB := Lib.hid (HZB.out.keptS hk (fun (e : (w.heap.size + 1) = gxg) => by have := HPB.out; have := HGHGB.out; omega))
    have hHM := Lib.hid (HM.out.keptS hk (fun (e : gx1 = gxg) => by have := HPB.out; have := HGHM.out; have := HGHGB.out; omega))
    have hB : Hid (Below w.heap.size w (Wg.setCell ⟨gxg, 0, none⟩ (.slice none 0 0))) := (HB.out : Below w.heap.size w Wg).trans (Kept.below hk (fun k h (e : k = gxg) => by have := HGHGB.out; omega) HB.out.size)
    have hLE : Hid (w.heap.size + 2 ≤ ((Wg.setCell ⟨gxg, 0, none⟩ (.slice none 0 0))).heap.size) := Nat.le_trans HLE.out hk.size
    clear HB HLE HRB HZB HM HGB
    have HRB := hHRB
    clear hHRB
    have HZB := hHZB
    clear hHZB
    have HM := hHM
    clear hHM
    have HGB := hHGB
    clear hHGB
    have HB := hB
    clear hB
    have HLE := hLE
    clear hLE
    have hOI := Lib.hid (OwnR.keptS HO.out.2.1 hk (fun j h1 (e : j = gxg) => by have := HOL.out j (.inr (.inl h1)); omega))
    have hOA := Lib.hid (OwnR.keptS HO.out.2.2 hk (fun j h1 (e : j = gxg) => by have := HOL.out j (.inr (.inr h1)); omega))
    clear HO
    have HOI := hOI
    have HOA := hOA
    clear hOI hOA
    clear hk
    generalize hW : (Wg.setCell ⟨gxg, 0, none⟩ (.slice none 0 0)) = Wl at *
    clear hW
    have HSRT : Hid (Srt MbT.no R.M) := HCHK.out.srt
    have HR0 : Hid (reb MbT.no (⟨who, 1, need⟩ : MbT) R.M 0 = []) := reb_zero HP1.out (fun y hy => (HLO.out y hy).1)
    have HRN : Hid (reb MbT.no (⟨who, 1, need⟩ : MbT) R.M 16 = PL) := by show _ = _; rw [HPL0.out]; exact reb_all HPN.out (fun y hy => (HLO.out y hy).2)
    have HGBL : Hid (gxg < Wl.heap.size) := HGB.out.lt
    have HWL : Hid (w.heap.size ≤ Wl.heap.size) := HB.out.size
    go_wp2_with fail
    go_loopw [12] (fun i wr => ∃ k : Nat, ∃ a5 n5 c5, k ≤ 16 ∧ i = .int .i64 ((k : Int) + 1) ∧ HT wr gxg 26 [.slice a5 n5 c5, .slice aI nI cI, .slice aA nA cA] ∧ OwnR MbT.vs 3 33 wr Wl.heap.size (.slice a5 n5 c5) (reb MbT.no (⟨who, 1, need⟩ : MbT) R.M k) ∧ Kept (fun q => q = gxg ∨ Wl.heap.size ≤ q) Wl wr) (fun i _ => 17 - (intOf i).toNat)
    case atStart => exact ⟨0, none, 0, 0, Nat.zero_le _, rfl, HGB.out, by rw [HR0.out]; exact OwnR.empty MbT.len _ _ _, Kept.refl _ _⟩
    case round =>
     obtain ⟨k, a5, n5, c5, hk, rfl, hgb, hac, hkp⟩ := hrel
     have HRBl := Lib.hid (HRB.out.keptS hkp (fun h => by have := HGBL.out; have := HGHGB.out; omega))
     have HZBl := Lib.hid (HZB.out.keptS hkp (fun h => by have := HGBL.out; have := HGHGB.out; omega))
     have HPXl := Lib.hid (HM.out.keptS hkp (fun h => by have := HGBL.out; have := HPB.out; omega))
     have HBl : Hid (Below w.heap.size w wr) := HB.out.trans (hkp.below (fun q hq h => by have := HGHGB.out; have := HWL.out; omega) HWL.out)
     have HLEl : Hid (w.heap.size + 2 ≤ wr.heap.size) := Nat.le_trans HLE.out hkp.size
     have HGBl := Lib.hid hgb
     have HAC := Lib.hid hac
     have HKP := Lib.hid hkp
     clear hgb hac hkp
     by_cases hlt : k < 16
     ·
      have HB := HBl
      have HLE := HLEl
      obtain ⟨xn, hxn⟩ : ∃ z, z = fdX MbT.no mZ ((k : Int) + 1) R.M := ⟨_, rfl⟩
      obtain ⟨bn, hbn⟩ : ∃ z, z = hasB MbT.no ((k : Int) + 1) R.M := ⟨_, rfl⟩
      have HXN := Lib.hid hxn
      have HBN := Lib.hid hbn
      by_cases heq : (k : Int) + 1 = who
      ·
       have hnb : bn = false := by rw [hbn, heq]; exact HBF.out
       have HNX : Hid (reb MbT.no (⟨who, 1, need⟩ : MbT) R.M (k + 1) = reb MbT.no (⟨who, 1, need⟩ : MbT) R.M k ++ [(⟨who, 1, need⟩ : MbT)]) := by show _ = _; rw [reb_next mZ HSRT.out, if_pos (show (k : Int) + 1 = MbT.no (⟨who, 1, need⟩ : MbT) from heq)]
       have hke : (((k : Int) + 1) == who) = true := by simpa using heq
       clear hxn hbn heq
       have HRBlx : Hid (wr.heap[w.heap.size]? = some (.cells #[va, vb, vc] 26 (0, 0))) := HRBl.out
       have hki : (k : Int) + 1 ≤ 16 := by omega
       go_wp2_with (first
        | (refine wpList_load_row rfl 26 (.tmp 3) rfl w.heap.size rfl 26 #[va, vb, vc] (0, 0) _ HRBlx.out Try.underlying26 rfl HSZr.out ?_)
        | fail)
       refine (rMember_any _ va vb vc R.M ((k : Int) + 1) xn bn (HR.out.1.mono HB.out) HXN.out HBN.out).mono ?_
       clear HRBlx
       rintro e w3 ⟨rfl, hb⟩
       have HRBln := Lib.hid (HRBl.out.below hb)
       clear HRBl
       have HRBl := HRBln
       clear HRBln
       have HGBln := Lib.hid (HGBl.out.below hb)
       clear HGBl
       have HGBl := HGBln
       clear HGBln
       have HPXln := Lib.hid (HPXl.out.below hb)
       clear HPXl
       have HPXl := HPXln
       clear HPXln
       have HBn := Lib.hid (bgo HB.out hb HB.out.size)
       clear HB
       have HB := HBn
       clear HBn
       have HLEn := Lib.hid (Nat.le_trans HLE.out (Below.size hb))
       clear HLE
       have HLE := HLEn
       clear HLEn
       have HACn := Lib.hid (HAC.out.below hb)
       clear HAC
       have HAC := HACn
       clear HACn
       have HKPn := Lib.hid (HKP.out.trans ((Kept.of_below hb).weaken (fun _ h => h.elim)) (fun _ _ h => h))
       clear HKP
       have HKP := HKPn
       clear HKPn
       clear hb
       have HSZ21 : Hid ((Try.prog.info? 33).map (·.size) = some (#[.int .i64 xn.no, .int .i64 xn.state, .int .i64 xn.need] : Array Value).size) := by show _ = _; rw [mem_sz]; rfl
       have HON21 : Hid ((#[.int .i64 xn.no, .int .i64 xn.state, .int .i64 xn.need] : Array Value).all (·.oneCell') = true) := by show _ = true; simp [Value.oneCell']
       go_upto_region 15 with (first
        | (refine wpList_store_row rfl 33 (.tmp 13) (.tmp 45) rfl w3.heap.size #[.int .i64 xn.no, .int .i64 xn.state, .int .i64 xn.need] rfl rfl 33 #[.int .i64 0, .int .i64 0, .int .i64 0] (heap_alloc_new _ _) HSZ21.out rfl HON21.out ?_)
        | fail)
       have hbs21 : Below w3.heap.size w3 ((w3.alloc (.cells #[.int .i64 0, .int .i64 0, .int .i64 0] 33)).setRow w3.heap.size #[.int .i64 xn.no, .int .i64 xn.state, .int .i64 xn.need]) := ((Below.refl _ _).alloc (Nat.le_refl _) _).trans (setRow_below (Nat.le_refl _) _)
       have hx21 : HT ((w3.alloc (.cells #[.int .i64 0, .int .i64 0, .int .i64 0] 33)).setRow w3.heap.size #[.int .i64 xn.no, .int .i64 xn.state, .int .i64 xn.need]) w3.heap.size 33 [.int .i64 xn.no, .int .i64 xn.state, .int .i64 xn.need] := setRow_heap _ _ _ _ _ _ (heap_alloc_new _ _)
       have hbw21 := bgo HB.out hbs21 (Below.size HB.out)
       obtain ⟨W21, hW21⟩ : ∃ zz, zz = ((w3.alloc (.cells #[.int .i64 0, .int .i64 0, .int .i64 0] 33)).setRow w3.heap.size #[.int .i64 xn.no, .int .i64 xn.state, .int .i64 xn.need]) := ⟨_, rfl⟩
       rw [← hW21] at hbs21 hx21 hbw21 ⊢
       obtain ⟨gx21, hg21⟩ : ∃ zz, zz = w3.heap.size := ⟨_, rfl⟩
       rw [← hg21] at hx21 ⊢
       have HGE21 : Hid (∀ m, m ≤ w3.heap.size → m ≤ gx21) := fun m h => by omega
       have HX21 := Lib.hid hx21
       have HBW21 := Lib.hid hbw21
       have HBS21 := Lib.hid hbs21
       clear hW21 hx21 hbw21 hbs21 hg21 HON21
       have HGHX : Hid (w.heap.size + 2 ≤ gx21) := HGE21.out _ HLE.out
       clear HBW21 HGE21
       have HRBln := Lib.hid (HRBl.out.below HBS21.out)
       clear HRBl
       have HRBl := HRBln
       clear HRBln
       have HGBln := Lib.hid (HGBl.out.below HBS21.out)
       clear HGBl
       have HGBl := HGBln
       clear HGBln
       have HPXln := Lib.hid (HPXl.out.below HBS21.out)
       clear HPXl
       have HPXl := HPXln
       clear HPXln
       have HBn := Lib.hid (bgo HB.out HBS21.out HB.out.size)
       clear HB
       have HB := HBn
       clear HBn
       have HLEn := Lib.hid (Nat.le_trans HLE.out (Below.size HBS21.out))
       clear HLE
       have HLE := HLEn
       clear HLEn
       have HACn := Lib.hid (HAC.out.below HBS21.out)
       clear HAC
       have HAC := HACn
       clear HACn
       have HKPn := Lib.hid (HKP.out.trans ((Kept.of_below HBS21.out).weaken (fun _ h => h.elim)) (fun _ _ h => h))
       clear HKP
       have HKP := HKPn
       clear HKPn
       clear HBS21
       have HX := HX21
       clear HX21 HSZ21
       go_upto_region 18 with fail
       have HSZy : Hid ((Try.prog.info? 33).map (·.size) = some (#[.int .i64 who, .int .i64 1, .int .i64 need] : Array Value).size) := by show _ = _; rw [mem_sz]; rfl
       have HONy : Hid ((#[.int .i64 who, .int .i64 1, .int .i64 need] : Array Value).all (·.oneCell') = true) := by show _ = true; simp [Value.oneCell']
       have HPXlx : Hid (W21.heap[gx1]? = some (.cells #[.int .i64 who, .int .i64 1, .int .i64 need] 33 (0, 0))) := HPXl.out
       have hcg := HGBl.out.cell (j := 0) rfl
       have HLW : Hid (Below W21.heap.size W21 (W21.alloc (.cells #[.int .i64 who, .int .i64 1, .int .i64 need] 33))) := (Below.refl _ _).alloc (Nat.le_refl _) _
       have HSRC : Hid (Rs MbT.vs 3 (W21.alloc (.cells #[.int .i64 who, .int .i64 1, .int .i64 need] 33)) (.slice (some ⟨W21.heap.size, 0, none⟩) 1 1) [(⟨who, 1, need⟩ : MbT)]) := Rs.one MbT.len W21 (⟨who, 1, need⟩ : MbT) 33
       have HOWN := Lib.hid (HAC.out.below HLW.out)
       have HGW := Lib.hid (HGBl.out.below HLW.out)
       have HLN : Hid (((reb MbT.no (⟨who, 1, need⟩ : MbT) R.M k).length + [(⟨who, 1, need⟩ : MbT)].length) * 24 ≤ 140737488355328) := by show _ ≤ _; have := reb_len (no := MbT.no) (x := (⟨who, 1, need⟩ : MbT)) (L := R.M) (k := k); have := HFEW.out; unfold few at this; simp; omega
       have HBA : Hid (Wl.heap.size ≤ (W21.alloc (.cells #[.int .i64 who, .int .i64 1, .int .i64 need] 33)).heap.size) := Nat.le_trans HKP.out.size HLW.out.size
       go_upto_region 13 with (first
        | (refine wpList_load_row rfl 33 (.tmp 8) rfl gx1 rfl 33 #[.int .i64 who, .int .i64 1, .int .i64 need] (0, 0) _ HPXlx.out Try.underlying33 rfl HSZy.out ?_)
        | (at_builtin; refine wpList_append_rows (v := .slice a5 n5 c5) rfl (.tmp 58) (.tmp 60) 22 rfl (L := reb MbT.no (⟨who, 1, need⟩ : MbT) R.M k) (M := [(⟨who, 1, need⟩ : MbT)]) (base := Wl.heap.size) elem_mem rfl rfl HOWN.out HSRC.out MbT.one HLN.out (by decide) HBA.out ?_; intro a7 n7 c7 w7 Hn7 ho7 hg7 hat7 hb7; have hcx := (HGW.out.belowB hb7 HGBL.out).cell (j := 0) rfl; have hfx := (HGW.out.belowB hb7 HGBL.out).frozen 0)
        | fail)
       have hk7 : Kept (fun q => q = gxg ∨ Wl.heap.size ≤ q) W21 w7 := ((Kept.of_below HLW.out).weaken (fun _ h => h.elim)).trans ((Kept.of_grown hg7).weaken (fun q hq => .inr (OwnR.ge HOWN.out q hq))) (fun _ _ h => h)
       have hk8 : Kept (fun q => q = gxg ∨ Wl.heap.size ≤ q) Wl (w7.setCell ⟨gxg, 0, none⟩ (.slice a7 n7 c7)) := (HKP.out.trans hk7 (fun _ _ h => h)).setCell ⟨gxg, 0, none⟩ _ (.inl rfl)
       have hk9 : Kept (fun q => q = gxg) w7 (w7.setCell ⟨gxg, 0, none⟩ (.slice a7 n7 c7)) := (Kept.refl _ _).setCell ⟨gxg, 0, none⟩ _ rfl
       have HGB9 : Hid (HT (w7.setCell ⟨gxg, 0, none⟩ (.slice a7 n7 c7)) gxg 26 [.slice a7 n7 c7, .slice aI nI cI, .slice aA nA cA]) := (HGW.out.belowB hb7 HGBL.out).put 0 _
       have HAC9 := Lib.hid (OwnR.keptS ho7 hk9 (fun q h1 (e : q = gxg) => by have := OwnR.ge ho7 q h1; have := HGBL.out; omega))
       have HKP9 := Lib.hid hk8
       have hk10 : Kept (fun q => q = gxg ∨ Wl.heap.size ≤ q) W21 (w7.setCell ⟨gxg, 0, none⟩ (.slice a7 n7 c7)) := hk7.setCell ⟨gxg, 0, none⟩ _ (.inl rfl)
       have HPX9 := Lib.hid (HPXl.out.keptS hk10 (fun h => by have := HGBL.out; have := HPB.out; omega))
       clear hk10 hk7 hk8 hk9 ho7 hg7 hat7 hb7 Hn7 hcx hfx hcg
       generalize hW : (w7.setCell ⟨gxg, 0, none⟩ (.slice a7 n7 c7)) = w9 at *
       clear hW
       go_wp2_with fail
       exact ⟨⟨k + 1, a7, n7, c7, by omega, by push_cast; rfl, HGB9.out, by rw [HNX.out]; exact HAC9.out, HKP9.out⟩, by simp [intOf]; omega⟩
      ·
       by_cases hbt2 : bn = true
       ·
        have hke : (((k : Int) + 1) == who) = false := by simpa using heq
        have HNX : Hid (reb MbT.no (⟨who, 1, need⟩ : MbT) R.M (k + 1) = reb MbT.no (⟨who, 1, need⟩ : MbT) R.M k ++ [xn]) := by show _ = _; rw [reb_next mZ HSRT.out, if_neg (show ¬ ((k : Int) + 1 = MbT.no (⟨who, 1, need⟩ : MbT)) from heq), ← hbn, ← hxn, if_pos hbt2]
        clear hxn hbn heq
        have HRBlx : Hid (wr.heap[w.heap.size]? = some (.cells #[va, vb, vc] 26 (0, 0))) := HRBl.out
        have hki : (k : Int) + 1 ≤ 16 := by omega
        go_wp2_with (first
         | (refine wpList_load_row rfl 26 (.tmp 3) rfl w.heap.size rfl 26 #[va, vb, vc] (0, 0) _ HRBlx.out Try.underlying26 rfl HSZr.out ?_)
         | fail)
        refine (rMember_any _ va vb vc R.M ((k : Int) + 1) xn bn (HR.out.1.mono HB.out) HXN.out HBN.out).mono ?_
        clear HRBlx
        rintro e w3 ⟨rfl, hb⟩
        have HRBln := Lib.hid (HRBl.out.below hb)
        clear HRBl
        have HRBl := HRBln
        clear HRBln
        have HGBln := Lib.hid (HGBl.out.below hb)
        clear HGBl
        have HGBl := HGBln
        clear HGBln
        have HPXln := Lib.hid (HPXl.out.below hb)
        clear HPXl
        have HPXl := HPXln
        clear HPXln
        have HBn := Lib.hid (bgo HB.out hb HB.out.size)
        clear HB
        have HB := HBn
        clear HBn
        have HLEn := Lib.hid (Nat.le_trans HLE.out (Below.size hb))
        clear HLE
        have HLE := HLEn
        clear HLEn
        have HACn := Lib.hid (HAC.out.below hb)
        clear HAC
        have HAC := HACn
        clear HACn
        have HKPn := Lib.hid (HKP.out.trans ((Kept.of_below hb).weaken (fun _ h => h.elim)) (fun _ _ h => h))
        clear HKP
        have HKP := HKPn
        clear HKPn
        clear hb
        have HSZ21 : Hid ((Try.prog.info? 33).map (·.size) = some (#[.int .i64 xn.no, .int .i64 xn.state, .int .i64 xn.need] : Array Value).size) := by show _ = _; rw [mem_sz]; rfl
        have HON21 : Hid ((#[.int .i64 xn.no, .int .i64 xn.state, .int .i64 xn.need] : Array Value).all (·.oneCell') = true) := by show _ = true; simp [Value.oneCell']
        go_upto_region 15 with (first
         | (refine wpList_store_row rfl 33 (.tmp 13) (.tmp 45) rfl w3.heap.size #[.int .i64 xn.no, .int .i64 xn.state, .int .i64 xn.need] rfl rfl 33 #[.int .i64 0, .int .i64 0, .int .i64 0] (heap_alloc_new _ _) HSZ21.out rfl HON21.out ?_)
         | fail)
        have hbs21 : Below w3.heap.size w3 ((w3.alloc (.cells #[.int .i64 0, .int .i64 0, .int .i64 0] 33)).setRow w3.heap.size #[.int .i64 xn.no, .int .i64 xn.state, .int .i64 xn.need]) := ((Below.refl _ _).alloc (Nat.le_refl _) _).trans (setRow_below (Nat.le_refl _) _)
        have hx21 : HT ((w3.alloc (.cells #[.int .i64 0, .int .i64 0, .int .i64 0] 33)).setRow w3.heap.size #[.int .i64 xn.no, .int .i64 xn.state, .int .i64 xn.need]) w3.heap.size 33 [.int .i64 xn.no, .int .i64 xn.state, .int .i64 xn.need] := setRow_heap _ _ _ _ _ _ (heap_alloc_new _ _)
        have hbw21 := bgo HB.out hbs21 (Below.size HB.out)
        obtain ⟨W21, hW21⟩ : ∃ zz, zz = ((w3.alloc (.cells #[.int .i64 0, .int .i64 0, .int .i64 0] 33)).setRow w3.heap.size #[.int .i64 xn.no, .int .i64 xn.state, .int .i64 xn.need]) := ⟨_, rfl⟩
        rw [← hW21] at hbs21 hx21 hbw21 ⊢
        obtain ⟨gx21, hg21⟩ : ∃ zz, zz = w3.heap.size := ⟨_, rfl⟩
        rw [← hg21] at hx21 ⊢
        have HGE21 : Hid (∀ m, m ≤ w3.heap.size → m ≤ gx21) := fun m h => by omega
        have HX21 := Lib.hid hx21
        have HBW21 := Lib.hid hbw21
        have HBS21 := Lib.hid hbs21
        clear hW21 hx21 hbw21 hbs21 hg21 HON21
        have HGHX : Hid (w.heap.size + 2 ≤ gx21) := HGE21.out _ HLE.out
        clear HBW21 HGE21
        have HRBln := Lib.hid (HRBl.out.below HBS21.out)
        clear HRBl
        have HRBl := HRBln
        clear HRBln
        have HGBln := Lib.hid (HGBl.out.below HBS21.out)
        clear HGBl
        have HGBl := HGBln
        clear HGBln
        have HPXln := Lib.hid (HPXl.out.below HBS21.out)
        clear HPXl
        have HPXl := HPXln
        clear HPXln
        have HBn := Lib.hid (bgo HB.out HBS21.out HB.out.size)
        clear HB
        have HB := HBn
        clear HBn
        have HLEn := Lib.hid (Nat.le_trans HLE.out (Below.size HBS21.out))
        clear HLE
        have HLE := HLEn
        clear HLEn
        have HACn := Lib.hid (HAC.out.below HBS21.out)
        clear HAC
        have HAC := HACn
        clear HACn
        have HKPn := Lib.hid (HKP.out.trans ((Kept.of_below HBS21.out).weaken (fun _ h => h.elim)) (fun _ _ h => h))
        clear HKP
        have HKP := HKPn
        clear HKPn
        clear HBS21
        have HX := HX21
        clear HX21 HSZ21
        go_upto_region 16 with fail
        have HSZy : Hid ((Try.prog.info? 33).map (·.size) = some (#[.int .i64 xn.no, .int .i64 xn.state, .int .i64 xn.need] : Array Value).size) := by show _ = _; rw [mem_sz]; rfl
        have HONy : Hid ((#[.int .i64 xn.no, .int .i64 xn.state, .int .i64 xn.need] : Array Value).all (·.oneCell') = true) := by show _ = true; simp [Value.oneCell']
        have HXx : Hid (W21.heap[gx21]? = some (.cells #[.int .i64 xn.no, .int .i64 xn.state, .int .i64 xn.need] 33 (0, 0))) := HX.out
        have hcg := HGBl.out.cell (j := 0) rfl
        have HLW : Hid (Below W21.heap.size W21 (W21.alloc (.cells #[.int .i64 xn.no, .int .i64 xn.state, .int .i64 xn.need] 33))) := (Below.refl _ _).alloc (Nat.le_refl _) _
        have HSRC : Hid (Rs MbT.vs 3 (W21.alloc (.cells #[.int .i64 xn.no, .int .i64 xn.state, .int .i64 xn.need] 33)) (.slice (some ⟨W21.heap.size, 0, none⟩) 1 1) [xn]) := Rs.one MbT.len W21 xn 33
        have HOWN := Lib.hid (HAC.out.below HLW.out)
        have HGW := Lib.hid (HGBl.out.below HLW.out)
        have HLN : Hid (((reb MbT.no (⟨who, 1, need⟩ : MbT) R.M k).length + [xn].length) * 24 ≤ 140737488355328) := by show _ ≤ _; have := reb_len (no := MbT.no) (x := (⟨who, 1, need⟩ : MbT)) (L := R.M) (k := k); have := HFEW.out; unfold few at this; simp; omega
        have HBA : Hid (Wl.heap.size ≤ (W21.alloc (.cells #[.int .i64 xn.no, .int .i64 xn.state, .int .i64 xn.need] 33)).heap.size) := Nat.le_trans HKP.out.size HLW.out.size
        go_upto_region 17 with (first
         | (refine wpList_load_row rfl 33 (.tmp 13) rfl gx21 rfl 33 #[.int .i64 xn.no, .int .i64 xn.state, .int .i64 xn.need] (0, 0) _ HXx.out Try.underlying33 rfl HSZy.out ?_)
         | (at_builtin; refine wpList_append_rows (v := .slice a5 n5 c5) rfl (.tmp 49) (.tmp 51) 22 rfl (L := reb MbT.no (⟨who, 1, need⟩ : MbT) R.M k) (M := [xn]) (base := Wl.heap.size) elem_mem rfl rfl HOWN.out HSRC.out MbT.one HLN.out (by decide) HBA.out ?_; intro a7 n7 c7 w7 Hn7 ho7 hg7 hat7 hb7; have hcx := (HGW.out.belowB hb7 HGBL.out).cell (j := 0) rfl; have hfx := (HGW.out.belowB hb7 HGBL.out).frozen 0)
         | fail)
        have hk7 : Kept (fun q => q = gxg ∨ Wl.heap.size ≤ q) W21 w7 := ((Kept.of_below HLW.out).weaken (fun _ h => h.elim)).trans ((Kept.of_grown hg7).weaken (fun q hq => .inr (OwnR.ge HOWN.out q hq))) (fun _ _ h => h)
        have hk8 : Kept (fun q => q = gxg ∨ Wl.heap.size ≤ q) Wl (w7.setCell ⟨gxg, 0, none⟩ (.slice a7 n7 c7)) := (HKP.out.trans hk7 (fun _ _ h => h)).setCell ⟨gxg, 0, none⟩ _ (.inl rfl)
        have hk9 : Kept (fun q => q = gxg) w7 (w7.setCell ⟨gxg, 0, none⟩ (.slice a7 n7 c7)) := (Kept.refl _ _).setCell ⟨gxg, 0, none⟩ _ rfl
        have HGB9 : Hid (HT (w7.setCell ⟨gxg, 0, none⟩ (.slice a7 n7 c7)) gxg 26 [.slice a7 n7 c7, .slice aI nI cI, .slice aA nA cA]) := (HGW.out.belowB hb7 HGBL.out).put 0 _
        have HAC9 := Lib.hid (OwnR.keptS ho7 hk9 (fun q h1 (e : q = gxg) => by have := OwnR.ge ho7 q h1; have := HGBL.out; omega))
        have HKP9 := Lib.hid hk8
        have hk10 : Kept (fun q => q = gxg ∨ Wl.heap.size ≤ q) W21 (w7.setCell ⟨gxg, 0, none⟩ (.slice a7 n7 c7)) := hk7.setCell ⟨gxg, 0, none⟩ _ (.inl rfl)
        have HPX9 := Lib.hid (HPXl.out.keptS hk10 (fun h => by have := HGBL.out; have := HPB.out; omega))
        clear hk10 hk7 hk8 hk9 ho7 hg7 hat7 hb7 Hn7 hcx hfx hcg
        generalize hW : (w7.setCell ⟨gxg, 0, none⟩ (.slice a7 n7 c7)) = w9 at *
        clear hW
        go_wp2_with fail
        exact ⟨⟨k + 1, a7, n7, c7, by omega, by push_cast; rfl, HGB9.out, by rw [HNX.out]; exact HAC9.out, HKP9.out⟩, by simp [intOf]; omega⟩
       ·
        have hke : (((k : Int) + 1) == who) = false := by simpa using heq
        have HNX : Hid (reb MbT.no (⟨who, 1, need⟩ : MbT) R.M (k + 1) = reb MbT.no (⟨who, 1, need⟩ : MbT) R.M k ++ []) := by show _ = _; rw [reb_next mZ HSRT.out, if_neg (show ¬ ((k : Int) + 1 = MbT.no (⟨who, 1, need⟩ : MbT)) from heq), ← hbn, if_neg hbt2]
        have hbf2 : bn = false := by simpa using hbt2
        clear hxn hbn heq hbt2
        have HRBlx : Hid (wr.heap[w.heap.size]? = some (.cells #[va, vb, vc] 26 (0, 0))) := HRBl.out
        have hki : (k : Int) + 1 ≤ 16 := by omega
        go_wp2_with (first
         | (refine wpList_load_row rfl 26 (.tmp 3) rfl w.heap.size rfl 26 #[va, vb, vc] (0, 0) _ HRBlx.out Try.underlying26 rfl HSZr.out ?_)
         | fail)
        refine (rMember_any _ va vb vc R.M ((k : Int) + 1) xn bn (HR.out.1.mono HB.out) HXN.out HBN.out).mono ?_
        clear HRBlx
        rintro e w3 ⟨rfl, hb⟩
        have HRBln := Lib.hid (HRBl.out.below hb)
        clear HRBl
        have HRBl := HRBln
        clear HRBln
        have HGBln := Lib.hid (HGBl.out.below hb)
        clear HGBl
        have HGBl := HGBln
        clear HGBln
        have HPXln := Lib.hid (HPXl.out.below hb)
        clear HPXl
        have HPXl := HPXln
        clear HPXln
        have HBn := Lib.hid (bgo HB.out hb HB.out.size)
        clear HB
        have HB := HBn
        clear HBn
        have HLEn := Lib.hid (Nat.le_trans HLE.out (Below.size hb))
        clear HLE
        have HLE := HLEn
        clear HLEn
        have HACn := Lib.hid (HAC.out.below hb)
        clear HAC
        have HAC := HACn
        clear HACn
        have HKPn := Lib.hid (HKP.out.trans ((Kept.of_below hb).weaken (fun _ h => h.elim)) (fun _ _ h => h))
        clear HKP
        have HKP := HKPn
        clear HKPn
        clear hb
        have HSZ21 : Hid ((Try.prog.info? 33).map (·.size) = some (#[.int .i64 xn.no, .int .i64 xn.state, .int .i64 xn.need] : Array Value).size) := by show _ = _; rw [mem_sz]; rfl
        have HON21 : Hid ((#[.int .i64 xn.no, .int .i64 xn.state, .int .i64 xn.need] : Array Value).all (·.oneCell') = true) := by show _ = true; simp [Value.oneCell']
        go_upto_region 15 with (first
         | (refine wpList_store_row rfl 33 (.tmp 13) (.tmp 45) rfl w3.heap.size #[.int .i64 xn.no, .int .i64 xn.state, .int .i64 xn.need] rfl rfl 33 #[.int .i64 0, .int .i64 0, .int .i64 0] (heap_alloc_new _ _) HSZ21.out rfl HON21.out ?_)
         | fail)
        have hbs21 : Below w3.heap.size w3 ((w3.alloc (.cells #[.int .i64 0, .int .i64 0, .int .i64 0] 33)).setRow w3.heap.size #[.int .i64 xn.no, .int .i64 xn.state, .int .i64 xn.need]) := ((Below.refl _ _).alloc (Nat.le_refl _) _).trans (setRow_below (Nat.le_refl _) _)
        have hx21 : HT ((w3.alloc (.cells #[.int .i64 0, .int .i64 0, .int .i64 0] 33)).setRow w3.heap.size #[.int .i64 xn.no, .int .i64 xn.state, .int .i64 xn.need]) w3.heap.size 33 [.int .i64 xn.no, .int .i64 xn.state, .int .i64 xn.need] := setRow_heap _ _ _ _ _ _ (heap_alloc_new _ _)
        have hbw21 := bgo HB.out hbs21 (Below.size HB.out)
        obtain ⟨W21, hW21⟩ : ∃ zz, zz = ((w3.alloc (.cells #[.int .i64 0, .int .i64 0, .int .i64 0] 33)).setRow w3.heap.size #[.int .i64 xn.no, .int .i64 xn.state, .int .i64 xn.need]) := ⟨_, rfl⟩
        rw [← hW21] at hbs21 hx21 hbw21 ⊢
        obtain ⟨gx21, hg21⟩ : ∃ zz, zz = w3.heap.size := ⟨_, rfl⟩
        rw [← hg21] at hx21 ⊢
        have HGE21 : Hid (∀ m, m ≤ w3.heap.size → m ≤ gx21) := fun m h => by omega
        have HX21 := Lib.hid hx21
        have HBW21 := Lib.hid hbw21
        have HBS21 := Lib.hid hbs21
        clear hW21 hx21 hbw21 hbs21 hg21 HON21
        have HGHX : Hid (w.heap.size + 2 ≤ gx21) := HGE21.out _ HLE.out
        clear HBW21 HGE21
        have HRBln := Lib.hid (HRBl.out.below HBS21.out)
        clear HRBl
        have HRBl := HRBln
        clear HRBln
        have HGBln := Lib.hid (HGBl.out.below HBS21.out)
        clear HGBl
        have HGBl := HGBln
        clear HGBln
        have HPXln := Lib.hid (HPXl.out.below HBS21.out)
        clear HPXl
        have HPXl := HPXln
        clear HPXln
        have HBn := Lib.hid (bgo HB.out HBS21.out HB.out.size)
        clear HB
        have HB := HBn
        clear HBn
        have HLEn := Lib.hid (Nat.le_trans HLE.out (Below.size HBS21.out))
        clear HLE
        have HLE := HLEn
        clear HLEn
        have HACn := Lib.hid (HAC.out.below HBS21.out)
        clear HAC
        have HAC := HACn
        clear HACn
        have HKPn := Lib.hid (HKP.out.trans ((Kept.of_below HBS21.out).weaken (fun _ h => h.elim)) (fun _ _ h => h))
        clear HKP
        have HKP := HKPn
        clear HKPn
        clear HBS21
        have HX := HX21
        clear HX21 HSZ21
        go_wp2_with fail
        exact ⟨⟨k + 1, a5, n5, c5, by omega, by push_cast; rfl, HGBl.out, by rw [HNX.out, List.append_nil]; exact HAC.out, HKP.out⟩, by simp [intOf]; omega⟩
     ·
      obtain rfl : k = 16 := by omega
      have hno : ¬ (((16 : Nat) : Int) + 1 ≤ 16) := by omega
      have HSZf : Hid ((Try.prog.info? 26).map (·.size) = some (#[.slice a5 n5 c5, .slice aI nI cI, .slice aA nA cA] : Array Value).size) := by show _ = _; rw [rol_sz]; rfl
      have HONf : Hid ((#[.slice a5 n5 c5, .slice aI nI cI, .slice aA nA cA] : Array Value).all (·.oneCell') = true) := by show _ = true; simp [Value.oneCell']
      have HGBlx : Hid (wr.heap[gxg]? = some (.cells #[.slice a5 n5 c5, .slice aI nI cI, .slice aA nA cA] 26 (0, 0))) := HGBl.out
      have HZBlx : Hid (wr.heap[(w.heap.size + 1)]? = some (.cells #[.slice none 0 0, .slice none 0 0, .slice none 0 0] 26 (0, 0))) := HZBl.out
      go_wp2_with (first
       | (refine wpList_load_row rfl 26 (.tmp 11) rfl gxg rfl 26 #[.slice a5 n5 c5, .slice aI nI cI, .slice aA nA cA] (0, 0) _ HGBlx.out Try.underlying26 rfl HSZf.out ?_)
       | (refine wpList_store_row rfl 26 (.tmp 6) (.tmp 63) rfl (w.heap.size + 1) #[.slice a5 n5 c5, .slice aI nI cI, .slice aA nA cA] rfl rfl 26 #[.slice none 0 0, .slice none 0 0, .slice none 0 0] HZBlx.out HSZf.out rfl HONf.out ?_)
       | fail)
      have hk := setRow_kept wr (w.heap.size + 1) #[.slice a5 n5 c5, .slice aI nI cI, .slice aA nA cA]
      refine bodyPost_ret (results_ht rfl (HT.row HZBlx.out rfl) rfl rfl Try.underlying26 rfl rol_sz) rfl ?_
      rw [HDF.out]
      have hacc := HAC.out
      rw [HRN.out] at hacc
      exact ⟨_, _, _, _, _, _, _, _, _, rfl, ⟨(OwnR.keptS hacc hk (fun j h1 (e : j = (w.heap.size + 1)) => by have := OwnR.ge hacc j h1; have := HZB.out.lt; omega)).base HWL.out, (OwnR.keptS (OwnR.keptS HOI.out HKP.out (fun j h1 h => by have := HOL.out j (.inr (.inl h1)); have := OwnR.lt HOI.out j h1; omega)) hk (fun j h1 (e : j = (w.heap.size + 1)) => by have := HOG.out j (.inr (.inl h1)); omega)), (OwnR.keptS (OwnR.keptS HOA.out HKP.out (fun j h1 h => by have := HOL.out j (.inr (.inr h1)); have := OwnR.lt HOA.out j h1; omega)) hk (fun j h1 (e : j = (w.heap.size + 1)) => by have := HOG.out j (.inr (.inr h1)); omega))⟩, HBl.out.trans (setRow_below (by omega) _)⟩
  ·
   have hr2 : rightM (⟨who, 1, need⟩ : MbT) = false := by simpa using hr
   have HRI := Lib.hid hr2
   have HDF : Hid (admitR R who need = (3, RollT.nil)) := by show _ = _; unfold admitR; simp [hc, hr2]
   clear hxo hb hc hr hr2
   have hHRB : HT (w.alloc (.cells #[va, vb, vc] 26)) w.heap.size 26 [va, vb, vc] := by
    have := HT.new (w := w) (t := 26) (C := [va, vb, vc])
    exact this
   have hHRB := hHRB.below (w' := ((w.alloc (.cells #[va, vb, vc] 26)).alloc (.cells #[.slice none 0 0, .slice none 0 0, .slice none 0 0] 26))) ((Below.refl _ _).alloc (Nat.le_refl _) _)
   have HRB := Lib.hid hHRB
   clear hHRB
   have hHZB : HT ((w.alloc (.cells #[va, vb, vc] 26)).alloc (.cells #[.slice none 0 0, .slice none 0 0, .slice none 0 0] 26)) (w.heap.size + 1) 26 [.slice none 0 0, .slice none 0 0, .slice none 0 0] := by
    have := HT.new (w := (w.alloc (.cells #[va, vb, vc] 26))) (t := 26) (C := [.slice none 0 0, .slice none 0 0, .slice none 0 0])
    rwa [show (w.alloc (.cells #[va, vb, vc] 26)).heap.size = (w.heap.size + 1) by simp] at this
   have HZB := Lib.hid hHZB
   clear hHZB
   have hB : Below w.heap.size w ((w.alloc (.cells #[va, vb, vc] 26)).alloc (.cells #[.slice none 0 0, .slice none 0 0, .slice none 0 0] 26)) := (((Below.refl _ _).alloc (by simp <;> omega) _).alloc (by simp <;> omega) _)
   have HB := Lib.hid hB
   clear hB
   have hS : w.heap.size + 2 ≤ ((w.alloc (.cells #[va, vb, vc] 26)).alloc (.cells #[.slice none 0 0, .slice none 0 0, .slice none 0 0] 26)).heap.size := by simp <;> omega
   have HLE := Lib.hid hS
   clear hS
   go_enter Try.func32, Try.ntmps32
   go_upto_region 1 with fail
   generalize hW : ((w.alloc (.cells #[va, vb, vc] 26)).alloc (.cells #[.slice none 0 0, .slice none 0 0, .slice none 0 0] 26)) = W0 at *
   clear hW
   have HSZ1 : Hid ((Try.prog.info? 33).map (·.size) = some (#[.int .i64 who, .int .i64 1, .int .i64 need] : Array Value).size) := by show _ = _; rw [mem_sz]; rfl
   have HON1 : Hid ((#[.int .i64 who, .int .i64 1, .int .i64 need] : Array Value).all (·.oneCell') = true) := by show _ = true; simp [Value.oneCell']
   go_upto_region 2 with (first
    | (refine wpList_store_row rfl 33 (.tmp 8) (.tmp 17) rfl W0.heap.size #[.int .i64 who, .int .i64 1, .int .i64 need] rfl rfl 33 #[.int .i64 0, .int .i64 0, .int .i64 0] (heap_alloc_new _ _) HSZ1.out rfl HON1.out ?_)
    | fail)
   have hbs1 : Below W0.heap.size W0 ((W0.alloc (.cells #[.int .i64 0, .int .i64 0, .int .i64 0] 33)).setRow W0.heap.size #[.int .i64 who, .int .i64 1, .int .i64 need]) := ((Below.refl _ _).alloc (Nat.le_refl _) _).trans (setRow_below (Nat.le_refl _) _)
   have hx1 : HT ((W0.alloc (.cells #[.int .i64 0, .int .i64 0, .int .i64 0] 33)).setRow W0.heap.size #[.int .i64 who, .int .i64 1, .int .i64 need]) W0.heap.size 33 [.int .i64 who, .int .i64 1, .int .i64 need] := setRow_heap _ _ _ _ _ _ (heap_alloc_new _ _)
   have hbw1 := bgo HB.out hbs1 (Below.size HB.out)
   obtain ⟨W1, hW1⟩ : ∃ zz, zz = ((W0.alloc (.cells #[.int .i64 0, .int .i64 0, .int .i64 0] 33)).setRow W0.heap.size #[.int .i64 who, .int .i64 1, .int .i64 need]) := ⟨_, rfl⟩
   rw [← hW1] at hbs1 hx1 hbw1 ⊢
   obtain ⟨gx1, hg1⟩ : ∃ zz, zz = W0.heap.size := ⟨_, rfl⟩
   rw [← hg1] at hx1 ⊢
   have HGE1 : Hid (∀ m, m ≤ W0.heap.size → m ≤ gx1) := fun m h => by omega
   have HX1 := Lib.hid hx1
   have HBW1 := Lib.hid hbw1
   have HBS1 := Lib.hid hbs1
   clear hW1 hx1 hbw1 hbs1 hg1 HON1
   have HGHM : Hid (w.heap.size + 2 ≤ gx1) := HGE1.out _ HLE.out
   clear HBW1 HGE1
   have HRBn := Lib.hid (HRB.out.below HBS1.out)
   clear HRB
   have HRB := HRBn
   clear HRBn
   have HZBn := Lib.hid (HZB.out.below HBS1.out)
   clear HZB
   have HZB := HZBn
   clear HZBn
   have HBn := Lib.hid (bgo HB.out HBS1.out HB.out.size)
   clear HB
   have HB := HBn
   clear HBn
   have HLEn := Lib.hid (Nat.le_trans HLE.out (Below.size HBS1.out))
   clear HLE
   have HLE := HLEn
   clear HLEn
   clear HBS1
   have HM := HX1
   clear HX1 HSZ1
   have HSZr : Hid ((Try.prog.info? 26).map (·.size) = some (#[va, vb, vc] : Array Value).size) := by show _ = _; rw [rol_sz]; rfl
   have HRBx : Hid (W1.heap[w.heap.size]? = some (.cells #[va, vb, vc] 26 (0, 0))) := HRB.out
   go_wp2_with (first
    | (refine wpList_load_row rfl 26 (.tmp 3) rfl w.heap.size rfl 26 #[va, vb, vc] (0, 0) _ HRBx.out Try.underlying26 rfl HSZr.out ?_)
    | fail)
   refine (rRoll_any _ va vb vc R (HR.out.mono HB.out)).mono ?_
   clear HRBx
   rintro e wc ⟨rfl, hb⟩
   have HRBn := Lib.hid (HRB.out.below hb)
   clear HRB
   have HRB := HRBn
   clear HRBn
   have HZBn := Lib.hid (HZB.out.below hb)
   clear HZB
   have HZB := HZBn
   clear HZBn
   have HMn := Lib.hid (HM.out.below hb)
   clear HM
   have HM := HMn
   clear HMn
   have HBn := Lib.hid (bgo HB.out hb HB.out.size)
   clear HB
   have HB := HBn
   clear HBn
   have HLEn := Lib.hid (Nat.le_trans HLE.out (Below.size hb))
   clear HLE
   have HLE := HLEn
   clear HLEn
   clear hb
   rw [HCK.out]
   have HSZq : Hid ((Try.prog.info? 33).map (·.size) = some (#[.int .i64 who, .int .i64 1, .int .i64 need] : Array Value).size) := by show _ = _; rw [mem_sz]; rfl
   have HONq : Hid ((#[.int .i64 who, .int .i64 1, .int .i64 need] : Array Value).all (·.oneCell') = true) := by show _ = true; simp [Value.oneCell']
   have HMx : Hid (wc.heap[gx1]? = some (.cells #[.int .i64 who, .int .i64 1, .int .i64 need] 33 (0, 0))) := HM.out
   go_wp2_with (first
    | (refine wpList_load_row rfl 33 (.tmp 8) rfl gx1 rfl 33 #[.int .i64 who, .int .i64 1, .int .i64 need] (0, 0) _ HMx.out Try.underlying33 rfl HSZq.out ?_)
    | fail)
   refine (rmember_any _ who 1 need).mono ?_
   clear HMx
   rintro e wr ⟨rfl, hb⟩
   have HRBn := Lib.hid (HRB.out.below hb)
   clear HRB
   have HRB := HRBn
   clear HRBn
   have HZBn := Lib.hid (HZB.out.below hb)
   clear HZB
   have HZB := HZBn
   clear HZBn
   have HMn := Lib.hid (HM.out.below hb)
   clear HM
   have HM := HMn
   clear HMn
   have HBn := Lib.hid (bgo HB.out hb HB.out.size)
   clear HB
   have HB := HBn
   clear HBn
   have HLEn := Lib.hid (Nat.le_trans HLE.out (Below.size hb))
   clear HLE
   have HLE := HLEn
   clear HLEn
   clear hb
   rw [HRI.out]
   have HSZz : Hid ((Try.prog.info? 26).map (·.size) = some (#[.slice none 0 0, .slice none 0 0, .slice none 0 0] : Array Value).size) := by show _ = _; rw [rol_sz]; rfl
   have HONz : Hid ((#[.slice none 0 0, .slice none 0 0, .slice none 0 0] : Array Value).all (·.oneCell') = true) := by show _ = true; simp [Value.oneCell']
   have HZBx : Hid (wr.heap[(w.heap.size + 1)]? = some (.cells #[.slice none 0 0, .slice none 0 0, .slice none 0 0] 26 (0, 0))) := HZB.out
   go_wp2_with (first
    | (refine wpList_store_row rfl 26 (.tmp 6) (.tmp 25) rfl (w.heap.size + 1) #[.slice none 0 0, .slice none 0 0, .slice none 0 0] rfl rfl 26 #[.slice none 0 0, .slice none 0 0, .slice none 0 0] HZBx.out HSZz.out rfl HONz.out ?_)
    | fail)
   refine bodyPost_ret (results_ht rfl (HT.row HZBx.out rfl) rfl rfl Try.underlying26 rfl rol_sz) rfl ?_
   rw [HDF.out]
   exact ⟨_, _, _, _, _, _, _, _, _, rfl, OwnRoll.none _ _, HB.out.trans (setRow_below (by omega) _)⟩
 ·
  have hc2 : chkR R = false := by simpa using hc
  have HCK := Lib.hid hc2
  have HDF : Hid (admitR R who need = (14, RollT.nil)) := by show _ = _; unfold admitR; simp [hc2]
  clear hxo hb hc hc2
  have hHRB : HT (w.alloc (.cells #[va, vb, vc] 26)) w.heap.size 26 [va, vb, vc] := by
   have := HT.new (w := w) (t := 26) (C := [va, vb, vc])
   exact this
  have hHRB := hHRB.below (w' := ((w.alloc (.cells #[va, vb, vc] 26)).alloc (.cells #[.slice none 0 0, .slice none 0 0, .slice none 0 0] 26))) ((Below.refl _ _).alloc (Nat.le_refl _) _)
  have HRB := Lib.hid hHRB
  clear hHRB
  have hHZB : HT ((w.alloc (.cells #[va, vb, vc] 26)).alloc (.cells #[.slice none 0 0, .slice none 0 0, .slice none 0 0] 26)) (w.heap.size + 1) 26 [.slice none 0 0, .slice none 0 0, .slice none 0 0] := by
   have := HT.new (w := (w.alloc (.cells #[va, vb, vc] 26))) (t := 26) (C := [.slice none 0 0, .slice none 0 0, .slice none 0 0])
   rwa [show (w.alloc (.cells #[va, vb, vc] 26)).heap.size = (w.heap.size + 1) by simp] at this
  have HZB := Lib.hid hHZB
  clear hHZB
  have hB : Below w.heap.size w ((w.alloc (.cells #[va, vb, vc] 26)).alloc (.cells #[.slice none 0 0, .slice none 0 0, .slice none 0 0] 26)) := (((Below.refl _ _).alloc (by simp <;> omega) _).alloc (by simp <;> omega) _)
  have HB := Lib.hid hB
  clear hB
  have hS : w.heap.size + 2 ≤ ((w.alloc (.cells #[va, vb, vc] 26)).alloc (.cells #[.slice none 0 0, .slice none 0 0, .slice none 0 0] 26)).heap.size := by simp <;> omega
  have HLE := Lib.hid hS
  clear hS
  go_enter Try.func32, Try.ntmps32
  go_upto_region 1 with fail
  generalize hW : ((w.alloc (.cells #[va, vb, vc] 26)).alloc (.cells #[.slice none 0 0, .slice none 0 0, .slice none 0 0] 26)) = W0 at *
  clear hW
  have HSZ1 : Hid ((Try.prog.info? 33).map (·.size) = some (#[.int .i64 who, .int .i64 1, .int .i64 need] : Array Value).size) := by show _ = _; rw [mem_sz]; rfl
  have HON1 : Hid ((#[.int .i64 who, .int .i64 1, .int .i64 need] : Array Value).all (·.oneCell') = true) := by show _ = true; simp [Value.oneCell']
  go_upto_region 2 with (first
   | (refine wpList_store_row rfl 33 (.tmp 8) (.tmp 17) rfl W0.heap.size #[.int .i64 who, .int .i64 1, .int .i64 need] rfl rfl 33 #[.int .i64 0, .int .i64 0, .int .i64 0] (heap_alloc_new _ _) HSZ1.out rfl HON1.out ?_)
   | fail)
  have hbs1 : Below W0.heap.size W0 ((W0.alloc (.cells #[.int .i64 0, .int .i64 0, .int .i64 0] 33)).setRow W0.heap.size #[.int .i64 who, .int .i64 1, .int .i64 need]) := ((Below.refl _ _).alloc (Nat.le_refl _) _).trans (setRow_below (Nat.le_refl _) _)
  have hx1 : HT ((W0.alloc (.cells #[.int .i64 0, .int .i64 0, .int .i64 0] 33)).setRow W0.heap.size #[.int .i64 who, .int .i64 1, .int .i64 need]) W0.heap.size 33 [.int .i64 who, .int .i64 1, .int .i64 need] := setRow_heap _ _ _ _ _ _ (heap_alloc_new _ _)
  have hbw1 := bgo HB.out hbs1 (Below.size HB.out)
  obtain ⟨W1, hW1⟩ : ∃ zz, zz = ((W0.alloc (.cells #[.int .i64 0, .int .i64 0, .int .i64 0] 33)).setRow W0.heap.size #[.int .i64 who, .int .i64 1, .int .i64 need]) := ⟨_, rfl⟩
  rw [← hW1] at hbs1 hx1 hbw1 ⊢
  obtain ⟨gx1, hg1⟩ : ∃ zz, zz = W0.heap.size := ⟨_, rfl⟩
  rw [← hg1] at hx1 ⊢
  have HGE1 : Hid (∀ m, m ≤ W0.heap.size → m ≤ gx1) := fun m h => by omega
  have HX1 := Lib.hid hx1
  have HBW1 := Lib.hid hbw1
  have HBS1 := Lib.hid hbs1
  clear hW1 hx1 hbw1 hbs1 hg1 HON1
  have HGHM : Hid (w.heap.size + 2 ≤ gx1) := HGE1.out _ HLE.out
  clear HBW1 HGE1
  have HRBn := Lib.hid (HRB.out.below HBS1.out)
  clear HRB
  have HRB := HRBn
  clear HRBn
  have HZBn := Lib.hid (HZB.out.below HBS1.out)
  clear HZB
  have HZB := HZBn
  clear HZBn
  have HBn := Lib.hid (bgo HB.out HBS1.out HB.out.size)
  clear HB
  have HB := HBn
  clear HBn
  have HLEn := Lib.hid (Nat.le_trans HLE.out (Below.size HBS1.out))
  clear HLE
  have HLE := HLEn
  clear HLEn
  clear HBS1
  have HM := HX1
  clear HX1 HSZ1
  have HSZr : Hid ((Try.prog.info? 26).map (·.size) = some (#[va, vb, vc] : Array Value).size) := by show _ = _; rw [rol_sz]; rfl
  have HRBx : Hid (W1.heap[w.heap.size]? = some (.cells #[va, vb, vc] 26 (0, 0))) := HRB.out
  go_wp2_with (first
   | (refine wpList_load_row rfl 26 (.tmp 3) rfl w.heap.size rfl 26 #[va, vb, vc] (0, 0) _ HRBx.out Try.underlying26 rfl HSZr.out ?_)
   | fail)
  refine (rRoll_any _ va vb vc R (HR.out.mono HB.out)).mono ?_
  clear HRBx
  rintro e wc ⟨rfl, hb⟩
  have HRBn := Lib.hid (HRB.out.below hb)
  clear HRB
  have HRB := HRBn
  clear HRBn
  have HZBn := Lib.hid (HZB.out.below hb)
  clear HZB
  have HZB := HZBn
  clear HZBn
  have HMn := Lib.hid (HM.out.below hb)
  clear HM
  have HM := HMn
  clear HMn
  have HBn := Lib.hid (bgo HB.out hb HB.out.size)
  clear HB
  have HB := HBn
  clear HBn
  have HLEn := Lib.hid (Nat.le_trans HLE.out (Below.size hb))
  clear HLE
  have HLE := HLEn
  clear HLEn
  clear hb
  rw [HCK.out]
  have HSZz : Hid ((Try.prog.info? 26).map (·.size) = some (#[.slice none 0 0, .slice none 0 0, .slice none 0 0] : Array Value).size) := by show _ = _; rw [rol_sz]; rfl
  have HONz : Hid ((#[.slice none 0 0, .slice none 0 0, .slice none 0 0] : Array Value).all (·.oneCell') = true) := by show _ = true; simp [Value.oneCell']
  have HZBx : Hid (wc.heap[(w.heap.size + 1)]? = some (.cells #[.slice none 0 0, .slice none 0 0, .slice none 0 0] 26 (0, 0))) := HZB.out
  go_wp2_with (first
   | (refine wpList_store_row rfl 26 (.tmp 6) (.tmp 21) rfl (w.heap.size + 1) #[.slice none 0 0, .slice none 0 0, .slice none 0 0] rfl rfl 26 #[.slice none 0 0, .slice none 0 0, .slice none 0 0] HZBx.out HSZz.out rfl HONz.out ?_)
   | fail)
  refine bodyPost_ret (results_ht rfl (HT.row HZBx.out rfl) rfl rfl Try.underlying26 rfl rol_sz) rfl ?_
  rw [HDF.out]
  exact ⟨_, _, _, _, _, _, _, _, _, rfl, OwnRoll.none _ _, HB.out.trans (setRow_below (by omega) _)⟩
end Cam
