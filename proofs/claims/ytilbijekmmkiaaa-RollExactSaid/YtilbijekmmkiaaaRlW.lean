import Derived.Test.YtilbijekmmkiaaaRlU
/- cambistkeep: TwinRoll. -/
namespace Cam
open Go Go.RowKit Go.Proofs
set_option maxRecDepth 100000 in
set_option maxHeartbeats 1600000 in
theorem TwinRoll_any (w : World) (va vb vc : Value) (R : RollT) (h : RollIn w va vb vc R) (hf : few R) :
  Calls Try.prog 10 #[.agg #[va, vb, vc]] w (RollPost w R) := by
 have hb0 : Below w.heap.size w (((w.alloc (.cells #[va, vb, vc] 26)).alloc (.cells #[.slice none 0 0, .slice none 0 0, .slice none 0 0] 26)).alloc (.cells #[.slice none 0 0, .slice none 0 0, .slice none 0 0] 26)) := (((Below.refl _ _).alloc (Nat.le_refl _) _).alloc (by simp <;> omega) _).alloc (by simp <;> omega) _
 have hg0 : HT (((w.alloc (.cells #[va, vb, vc] 26)).alloc (.cells #[.slice none 0 0, .slice none 0 0, .slice none 0 0] 26)).alloc (.cells #[.slice none 0 0, .slice none 0 0, .slice none 0 0] 26)) w.heap.size 26 [va, vb, vc] := ((HT.new (w := w) (t := 26) (C := [va, vb, vc])).below ((Below.refl _ _).alloc (Nat.le_refl _) (.cells #[.slice none 0 0, .slice none 0 0, .slice none 0 0] 26))).below ((Below.refl _ _).alloc (Nat.le_refl _) _)
 have hg1 : HT (((w.alloc (.cells #[va, vb, vc] 26)).alloc (.cells #[.slice none 0 0, .slice none 0 0, .slice none 0 0] 26)).alloc (.cells #[.slice none 0 0, .slice none 0 0, .slice none 0 0] 26)) (w.heap.size + 1) 26 [.slice none 0 0, .slice none 0 0, .slice none 0 0] := by
  have := HT.new (w := w.alloc (.cells #[va, vb, vc] 26)) (t := 26) (C := [.slice none 0 0, .slice none 0 0, .slice none 0 0])
  rw [show (w.alloc (.cells #[va, vb, vc] 26)).heap.size = w.heap.size + 1 by simp] at this
  exact this.below ((Below.refl _ _).alloc (Nat.le_refl _) _)
 have hg2 : HT (((w.alloc (.cells #[va, vb, vc] 26)).alloc (.cells #[.slice none 0 0, .slice none 0 0, .slice none 0 0] 26)).alloc (.cells #[.slice none 0 0, .slice none 0 0, .slice none 0 0] 26)) (w.heap.size + 2) 26 [.slice none 0 0, .slice none 0 0, .slice none 0 0] := by
  have := HT.new (w := (w.alloc (.cells #[va, vb, vc] 26)).alloc (.cells #[.slice none 0 0, .slice none 0 0, .slice none 0 0] 26)) (t := 26) (C := [.slice none 0 0, .slice none 0 0, .slice none 0 0])
  rwa [show ((w.alloc (.cells #[va, vb, vc] 26)).alloc (.cells #[.slice none 0 0, .slice none 0 0, .slice none 0 0] 26)).heap.size = w.heap.size + 2 by simp] at this
 have hsw : w.heap.size + 3 ≤ (((w.alloc (.cells #[va, vb, vc] 26)).alloc (.cells #[.slice none 0 0, .slice none 0 0, .slice none 0 0] 26)).alloc (.cells #[.slice none 0 0, .slice none 0 0, .slice none 0 0] 26)).heap.size := by simp <;> omega
 have HR := Lib.hid h
 have HFEW := Lib.hid hf
 have HB := Lib.hid hb0
 have HR0 := Lib.hid hg0
 have HZ0 := Lib.hid hg1
 have HG0 := Lib.hid hg2
 have HSW := Lib.hid hsw
 clear h hf hb0 hg0 hg1 hg2 hsw
 go_enter Try.func10, Try.ntmps10
 go_upto_region 2 with fail
 generalize hW : (((w.alloc (.cells #[va, vb, vc] 26)).alloc (.cells #[.slice none 0 0, .slice none 0 0, .slice none 0 0] 26)).alloc (.cells #[.slice none 0 0, .slice none 0 0, .slice none 0 0] 26)) = W0 at *
 clear hW
 have hcr := HR0.out.cell (j := 0) rfl
 have hcg := HG0.out.cell (j := 0) rfl
 have HS := Lib.hid (HR.out.1.mono HB.out)
 have HLE : Hid ((([] : List MbT).length + R.M.length) * 24 ≤ 140737488355328) := by show _ ≤ _; have := HFEW.out; unfold few at this; simp; omega
 go_upto_region 3 with (first
  | (at_builtin; refine wpList_append_rows (v := .slice none 0 0) rfl (.tmp 5) (.tmp 7) 22 rfl (L := []) (M := R.M) (base := W0.heap.size) elem_mem rfl rfl (OwnR.empty MbT.len _ _ _) HS.out MbT.one HLE.out (by decide) (Nat.le_refl _) ?_; intro aM nM cM w7 HnM hoM hgM hatM hbM; have hcx := (HG0.out.below hbM).cell (j := 0) rfl; have hfx := (HG0.out.below hbM).frozen 0)
  | fail)
 clear hcr hcg hcx hfx HS HLE hgM hatM HnM
 have HGEM : Hid (∀ g, (Value.slice aM nM cM).ownBlock = some g → w.heap.size + 3 ≤ g) := fun g hg => by have := OwnR.ge hoM g hg; have := HSW.out; omega
 have hk : Kept (fun k => k = w.heap.size + 2) w7 (w7.setCell ⟨w.heap.size + 2, 0, none⟩ (.slice aM nM cM)) := (Kept.refl _ _).setCell ⟨w.heap.size + 2, 0, none⟩ _ rfl
 have hR0 := Lib.hid ((HR0.out.below hbM).keptS hk (fun (e : w.heap.size = w.heap.size + 2) => by omega))
 have hZ0 := Lib.hid ((HZ0.out.below hbM).keptS hk (fun (e : w.heap.size + 1 = w.heap.size + 2) => by omega))
 have hG0 : Hid (HT (w7.setCell ⟨w.heap.size + 2, 0, none⟩ (.slice aM nM cM)) (w.heap.size + 2) 26 [.slice aM nM cM, .slice none 0 0, .slice none 0 0]) := (HG0.out.below hbM).put 0 _
 have hB : Hid (Below w.heap.size w (w7.setCell ⟨w.heap.size + 2, 0, none⟩ (.slice aM nM cM))) := (bgo HB.out hbM HB.out.size).setCell (by show w.heap.size ≤ w.heap.size + 2; omega) _
 have hSW : Hid (w.heap.size + 3 ≤ ((w7.setCell ⟨w.heap.size + 2, 0, none⟩ (.slice aM nM cM))).heap.size) := Nat.le_trans HSW.out (Nat.le_trans hbM.size hk.size)
 have hOM : Hid (OwnR MbT.vs 3 33 (w7.setCell ⟨w.heap.size + 2, 0, none⟩ (.slice aM nM cM)) w.heap.size (.slice aM nM cM) R.M) := by have := (OwnR.keptS hoM hk (fun j h1 (e : j = w.heap.size + 2) => by have := HGEM.out j h1; omega)).base HB.out.size; rwa [List.nil_append] at this
 clear HR0 HZ0 HG0 HB HSW hk hoM hbM
 have HR0 := hR0
 clear hR0
 have HZ0 := hZ0
 clear hZ0
 have HG0 := hG0
 clear hG0
 have HB := hB
 clear hB
 have HSW := hSW
 clear hSW
 have HOM := hOM
 clear hOM
 generalize hW : (w7.setCell ⟨w.heap.size + 2, 0, none⟩ (.slice aM nM cM)) = v2 at *
 clear hW
 have hcr := HR0.out.cell (j := 1) rfl
 have hcg := HG0.out.cell (j := 1) rfl
 have HS := Lib.hid (HR.out.2.1.mono HB.out)
 have HLE : Hid ((([] : List InT).length + R.I.length) * 96 ≤ 140737488355328) := by show _ ≤ _; have := HFEW.out; unfold few at this; simp; omega
 go_upto_region 4 with (first
  | (at_builtin; refine wpList_append_rows (v := .slice none 0 0) rfl (.tmp 11) (.tmp 13) 23 rfl (L := []) (M := R.I) (base := v2.heap.size) elem_ins rfl rfl (OwnR.empty InT.len _ _ _) HS.out InT.one HLE.out (by decide) (Nat.le_refl _) ?_; intro aI nI cI w8 HnI hoI hgI hatI hbI; have hcx := (HG0.out.below hbI).cell (j := 1) rfl; have hfx := (HG0.out.below hbI).frozen 1)
  | fail)
 clear hcr hcg hcx hfx HS HLE hgI hatI HnI
 have HGEI : Hid (∀ g, (Value.slice aI nI cI).ownBlock = some g → w.heap.size + 3 ≤ g) := fun g hg => by have := OwnR.ge hoI g hg; have := HSW.out; omega
 have HPMI : Hid (Apart2 (.slice aM nM cM) (.slice aI nI cI)) := fun g h1 h2 => by have := OwnR.lt HOM.out g h1; have := OwnR.ge hoI g h2; omega
 have hk : Kept (fun k => k = w.heap.size + 2) w8 (w8.setCell ⟨w.heap.size + 2, 1, none⟩ (.slice aI nI cI)) := (Kept.refl _ _).setCell ⟨w.heap.size + 2, 1, none⟩ _ rfl
 have hR0 := Lib.hid ((HR0.out.below hbI).keptS hk (fun (e : w.heap.size = w.heap.size + 2) => by omega))
 have hZ0 := Lib.hid ((HZ0.out.below hbI).keptS hk (fun (e : w.heap.size + 1 = w.heap.size + 2) => by omega))
 have hG0 : Hid (HT (w8.setCell ⟨w.heap.size + 2, 1, none⟩ (.slice aI nI cI)) (w.heap.size + 2) 26 [.slice aM nM cM, .slice aI nI cI, .slice none 0 0]) := (HG0.out.below hbI).put 1 _
 have hB : Hid (Below w.heap.size w (w8.setCell ⟨w.heap.size + 2, 1, none⟩ (.slice aI nI cI))) := (bgo HB.out hbI HB.out.size).setCell (by show w.heap.size ≤ w.heap.size + 2; omega) _
 have hSW : Hid (w.heap.size + 3 ≤ ((w8.setCell ⟨w.heap.size + 2, 1, none⟩ (.slice aI nI cI))).heap.size) := Nat.le_trans HSW.out (Nat.le_trans hbI.size hk.size)
 have hOI : Hid (OwnR InT.vs 12 38 (w8.setCell ⟨w.heap.size + 2, 1, none⟩ (.slice aI nI cI)) w.heap.size (.slice aI nI cI) R.I) := by have := (OwnR.keptS hoI hk (fun j h1 (e : j = w.heap.size + 2) => by have := HGEI.out j h1; omega)).base HB.out.size; rwa [List.nil_append] at this
 have hOM := Lib.hid (OwnR.keptS (HOM.out.below hbI) hk (fun j h1 (e : j = w.heap.size + 2) => by have := HGEM.out j h1; omega))
 clear HR0 HZ0 HG0 HB HSW hk hoI hbI HOM
 have HR0 := hR0
 clear hR0
 have HZ0 := hZ0
 clear hZ0
 have HG0 := hG0
 clear hG0
 have HB := hB
 clear hB
 have HSW := hSW
 clear hSW
 have HOM := hOM
 clear hOM
 have HOI := hOI
 clear hOI
 generalize hW : (w8.setCell ⟨w.heap.size + 2, 1, none⟩ (.slice aI nI cI)) = v3 at *
 clear hW
 have hcr := HR0.out.cell (j := 2) rfl
 have hcg := HG0.out.cell (j := 2) rfl
 have HS := Lib.hid (HR.out.2.2.mono HB.out)
 have HLE : Hid ((([] : List AsT).length + R.A.length) * 32 ≤ 140737488355328) := by show _ ≤ _; have := HFEW.out; unfold few at this; simp; omega
 go_upto_region 5 with (first
  | (at_builtin; refine wpList_append_rows (v := .slice none 0 0) rfl (.tmp 17) (.tmp 19) 24 rfl (L := []) (M := R.A) (base := v3.heap.size) elem_ass rfl rfl (OwnR.empty AsT.len _ _ _) HS.out AsT.one HLE.out (by decide) (Nat.le_refl _) ?_; intro aA nA cA w9 HnA hoA hgA hatA hbA; have hcx := (HG0.out.below hbA).cell (j := 2) rfl; have hfx := (HG0.out.below hbA).frozen 2)
  | fail)
 clear hcr hcg hcx hfx HS HLE hgA hatA HnA
 have HGEA : Hid (∀ g, (Value.slice aA nA cA).ownBlock = some g → w.heap.size + 3 ≤ g) := fun g hg => by have := OwnR.ge hoA g hg; have := HSW.out; omega
 have HPMA : Hid (Apart2 (.slice aM nM cM) (.slice aA nA cA)) := fun g h1 h2 => by have := OwnR.lt HOM.out g h1; have := OwnR.ge hoA g h2; omega
 have HPIA : Hid (Apart2 (.slice aI nI cI) (.slice aA nA cA)) := fun g h1 h2 => by have := OwnR.lt HOI.out g h1; have := OwnR.ge hoA g h2; omega
 have hk : Kept (fun k => k = w.heap.size + 2) w9 (w9.setCell ⟨w.heap.size + 2, 2, none⟩ (.slice aA nA cA)) := (Kept.refl _ _).setCell ⟨w.heap.size + 2, 2, none⟩ _ rfl
 have hR0 := Lib.hid ((HR0.out.below hbA).keptS hk (fun (e : w.heap.size = w.heap.size + 2) => by omega))
 have hZ0 := Lib.hid ((HZ0.out.below hbA).keptS hk (fun (e : w.heap.size + 1 = w.heap.size + 2) => by omega))
 have hG0 : Hid (HT (w9.setCell ⟨w.heap.size + 2, 2, none⟩ (.slice aA nA cA)) (w.heap.size + 2) 26 [.slice aM nM cM, .slice aI nI cI, .slice aA nA cA]) := (HG0.out.below hbA).put 2 _
 have hB : Hid (Below w.heap.size w (w9.setCell ⟨w.heap.size + 2, 2, none⟩ (.slice aA nA cA))) := (bgo HB.out hbA HB.out.size).setCell (by show w.heap.size ≤ w.heap.size + 2; omega) _
 have hSW : Hid (w.heap.size + 3 ≤ ((w9.setCell ⟨w.heap.size + 2, 2, none⟩ (.slice aA nA cA))).heap.size) := Nat.le_trans HSW.out (Nat.le_trans hbA.size hk.size)
 have hOA : Hid (OwnR AsT.vs 4 42 (w9.setCell ⟨w.heap.size + 2, 2, none⟩ (.slice aA nA cA)) w.heap.size (.slice aA nA cA) R.A) := by have := (OwnR.keptS hoA hk (fun j h1 (e : j = w.heap.size + 2) => by have := HGEA.out j h1; omega)).base HB.out.size; rwa [List.nil_append] at this
 have hOM := Lib.hid (OwnR.keptS (HOM.out.below hbA) hk (fun j h1 (e : j = w.heap.size + 2) => by have := HGEM.out j h1; omega))
 have hOI := Lib.hid (OwnR.keptS (HOI.out.below hbA) hk (fun j h1 (e : j = w.heap.size + 2) => by have := HGEI.out j h1; omega))
 clear HR0 HZ0 HG0 HB HSW hk hoA hbA HOM HOI
 have HR0 := hR0
 clear hR0
 have HZ0 := hZ0
 clear hZ0
 have HG0 := hG0
 clear hG0
 have HB := hB
 clear hB
 have HSW := hSW
 clear hSW
 have HOM := hOM
 clear hOM
 have HOI := hOI
 clear hOI
 have HOA := hOA
 clear hOA
 generalize hW : (w9.setCell ⟨w.heap.size + 2, 2, none⟩ (.slice aA nA cA)) = v4 at *
 clear hW
 have HX : Hid (v4.heap[w.heap.size + 2]? = some (.cells #[.slice aM nM cM, .slice aI nI cI, .slice aA nA cA] 26 (0, 0))) := HG0.out
 have HZ : Hid (v4.heap[w.heap.size + 1]? = some (.cells #[.slice none 0 0, .slice none 0 0, .slice none 0 0] 26 (0, 0))) := HZ0.out
 have HSZ : Hid ((Try.prog.info? 26).map (·.size) = some (#[.slice aM nM cM, .slice aI nI cI, .slice aA nA cA] : Array Value).size) := by show _ = _; rw [rol_sz]; rfl
 have HON : Hid ((#[.slice aM nM cM, .slice aI nI cI, .slice aA nA cA] : Array Value).all (·.oneCell') = true) := by show _ = true; simp [Value.oneCell']
 go_wp2_with (first
  | (refine wpList_load_row rfl 26 (.tmp 3) rfl (w.heap.size + 2) rfl 26 #[.slice aM nM cM, .slice aI nI cI, .slice aA nA cA] (0, 0) _ HX.out Try.underlying26 rfl HSZ.out ?_)
  | (refine wpList_store_row rfl 26 (.tmp 2) (.tmp 22) rfl (w.heap.size + 1) #[.slice aM nM cM, .slice aI nI cI, .slice aA nA cA] rfl rfl 26 #[.slice none 0 0, .slice none 0 0, .slice none 0 0] HZ.out HSZ.out rfl HON.out ?_)
  | fail)
 have hk := setRow_kept v4 (w.heap.size + 1) #[.slice aM nM cM, .slice aI nI cI, .slice aA nA cA]
 refine bodyPost_ret (results_ht1 rfl (HT.row HZ.out rfl) rfl Try.underlying26 rfl rol_sz) rfl ?_
 exact ⟨_, _, _, _, _, _, _, _, _, rfl, ⟨OwnR.keptS HOM.out hk (fun j h1 (e : j = w.heap.size + 1) => by have := HGEM.out j h1; omega), OwnR.keptS HOI.out hk (fun j h1 (e : j = w.heap.size + 1) => by have := HGEI.out j h1; omega), OwnR.keptS HOA.out hk (fun j h1 (e : j = w.heap.size + 1) => by have := HGEA.out j h1; omega)⟩, ⟨HPMI.out, HPMA.out, HPIA.out⟩, HB.out.trans (setRow_below (by omega) _)⟩
end Cam
