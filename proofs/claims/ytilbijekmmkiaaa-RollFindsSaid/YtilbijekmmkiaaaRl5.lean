import Derived.Test.YtilbijekmmkiaaaRlN
import Derived.Test.YtilbijekmmkiaaaRlQ
import Derived.Test.YtilbijekmmkiaaaRlHv
import Derived.Test.YtilbijekmmkiaaaRlK
import Derived.Test.YtilbijekmmkiaaaRlR
import Derived.Test.YtilbijekmmkiaaaRlJ
import Derived.Test.YtilbijekmmkiaaaRlL
import Derived.Test.YtilbijekmmkiaaaRlM
/- ch. 11: Heavy; RollFinds: the walk. -/
namespace Cam
open Go Go.RowKit Go.Proofs


set_option maxRecDepth 100000 in
set_option maxHeartbeats 12800000 in
theorem RollFinds_walk (W : World) (va vb vc vs : Value) (R : RollT) (no : Int) (sts : List Int) (h : RollIn W va vb vc R) (hs : Is W vs sts) :
    Calls Try.prog 3 #[.agg #[va, vb, vc], .int .i64 no, vs] W fun e w' => e = .returned (.bool true) ∧ Below W.heap.size W w' := by
  have hb0 : Below W.heap.size W (W.alloc (.cells #[va, vb, vc] 26)) := (Below.refl _ _).alloc (Nat.le_refl _) _
  have hx0 : HT (W.alloc (.cells #[va, vb, vc] 26)) W.heap.size 26 [va, vb, vc] := HT.new (w := W) (t := 26) (C := [va, vb, vc])
  obtain ⟨av1, cap1, rfl, hcap1, hm1⟩ := hs.shape
  obtain ⟨m, hmm⟩ : ∃ m, m = sts.length := ⟨_, rfl⟩
  have HMM := Lib.hid hmm
  rw [← hmm] at hs hcap1 ⊢
  have HS := Lib.hid (hs.mono hb0)
  have HRW := Lib.hid (h.mono hb0)
  have HRB := Lib.hid hx0
  have HBL := Lib.hid hb0
  clear hs h hmm hb0 hx0 hm1
  obtain ⟨hv, hhv⟩ : ∃ b, b = heavyR R := ⟨_, rfl⟩
  have HHV := Lib.hid hhv
  clear hhv
  cases hv
  case true =>
    go_enter Try.func3, Try.ntmps3
    go_upto_region 1 with fail
    generalize hW : W.alloc (.cells #[va, vb, vc] 26) = W0 at *
    clear hW
    obtain ⟨gr, hgr⟩ : ∃ g, g = W.heap.size := ⟨_, rfl⟩
    rw [← hgr] at HRB ⊢
    clear hgr
    have hh := Heavy11_any W0 va vb vc R HRW.out
    rw [← HHV.out] at hh
    have HB := HBL
    clear HBL
    have HSZr : Hid ((Try.prog.info? 26).map (·.size) = some (#[va, vb, vc] : Array Value).size) := by show _ = _; rw [rol_sz]; rfl
    have HRBx : Hid (W0.heap[gr]? = some (.cells #[va, vb, vc] 26 (0, 0))) := HRB.out
    go_wp2_with (first
      | (refine wpList_load_row rfl 26 (.tmp 3) rfl gr rfl 26 #[va, vb, vc] (0, 0) _ HRBx.out Try.underlying26 rfl HSZr.out ?_)
      | fail)
    (with_reducible refine hh.mono ?_)
    clear hh HRBx
    rintro e w1 ⟨rfl, hb⟩
    have HRBn := Lib.hid (HRB.out.below hb)
    clear HRB
    have HRB := HRBn
    clear HRBn
    have HRWn := Lib.hid (HRW.out.mono hb)
    clear HRW
    have HRW := HRWn
    clear HRWn
    have HSn := Lib.hid (HS.out.mono hb)
    clear HS
    have HS := HSn
    clear HSn
    have HBn := Lib.hid (bgo HB.out hb HB.out.size)
    clear HB
    have HB := HBn
    clear HBn
    clear hb
    go_wp2_with fail
    go_ret
    exact ⟨rfl, HB.out⟩
  case false =>
    by_cases hlm : 100 < m
    · go_enter Try.func3, Try.ntmps3
      go_upto_region 1 with fail
      generalize hW : W.alloc (.cells #[va, vb, vc] 26) = W0 at *
      clear hW
      obtain ⟨gr, hgr⟩ : ∃ g, g = W.heap.size := ⟨_, rfl⟩
      rw [← hgr] at HRB ⊢
      clear hgr
      have hh := Heavy11_any W0 va vb vc R HRW.out
      rw [← HHV.out] at hh
      have HB := HBL
      clear HBL
      have HSZr : Hid ((Try.prog.info? 26).map (·.size) = some (#[va, vb, vc] : Array Value).size) := by show _ = _; rw [rol_sz]; rfl
      have HRBx : Hid (W0.heap[gr]? = some (.cells #[va, vb, vc] 26 (0, 0))) := HRB.out
      go_wp2_with (first
        | (refine wpList_load_row rfl 26 (.tmp 3) rfl gr rfl 26 #[va, vb, vc] (0, 0) _ HRBx.out Try.underlying26 rfl HSZr.out ?_)
        | fail)
      (with_reducible refine hh.mono ?_)
      clear hh HRBx
      rintro e w1 ⟨rfl, hb⟩
      have HRBn := Lib.hid (HRB.out.below hb)
      clear HRB
      have HRB := HRBn
      clear HRBn
      have HRWn := Lib.hid (HRW.out.mono hb)
      clear HRW
      have HRW := HRWn
      clear HRWn
      have HSn := Lib.hid (HS.out.mono hb)
      clear HS
      have HS := HSn
      clear HSn
      have HBn := Lib.hid (bgo HB.out hb HB.out.size)
      clear HB
      have HB := HBn
      clear HBn
      clear hb
      go_wp2_with fail
      go_ret
      exact ⟨rfl, HB.out⟩
    · go_enter Try.func3, Try.ntmps3
      go_upto_region 1 with fail
      generalize hW : W.alloc (.cells #[va, vb, vc] 26) = W0 at *
      clear hW
      obtain ⟨gr, hgr⟩ : ∃ g, g = W.heap.size := ⟨_, rfl⟩
      rw [← hgr] at HRB ⊢
      clear hgr
      have hh := Heavy11_any W0 va vb vc R HRW.out
      rw [← HHV.out] at hh
      have HB := HBL
      clear HBL
      have HSZr : Hid ((Try.prog.info? 26).map (·.size) = some (#[va, vb, vc] : Array Value).size) := by show _ = _; rw [rol_sz]; rfl
      have HRBx : Hid (W0.heap[gr]? = some (.cells #[va, vb, vc] 26 (0, 0))) := HRB.out
      go_wp2_with (first
        | (refine wpList_load_row rfl 26 (.tmp 3) rfl gr rfl 26 #[va, vb, vc] (0, 0) _ HRBx.out Try.underlying26 rfl HSZr.out ?_)
        | fail)
      (with_reducible refine hh.mono ?_)
      clear hh HRBx
      rintro e w1 ⟨rfl, hb⟩
      have HRBn := Lib.hid (HRB.out.below hb)
      clear HRB
      have HRB := HRBn
      clear HRBn
      have HRWn := Lib.hid (HRW.out.mono hb)
      clear HRW
      have HRW := HRWn
      clear HRWn
      have HSn := Lib.hid (HS.out.mono hb)
      clear HS
      have HS := HSn
      clear HSn
      have HBn := Lib.hid (bgo HB.out hb HB.out.size)
      clear HB
      have HB := HBn
      clear HBn
      clear hb
      have HFEW : Hid (few R) := by have h9 := heavyR_few HHV.out.symm; unfold few; exact ⟨by omega, by omega, by omega⟩
      have HRBx : Hid (w1.heap[gr]? = some (.cells #[va, vb, vc] 26 (0, 0))) := HRB.out
      go_wp2_with (first
        | (refine wpList_load_row rfl 26 (.tmp 3) rfl gr rfl 26 #[va, vb, vc] (0, 0) _ HRBx.out Try.underlying26 rfl HSZr.out ?_)
        | fail)
      refine (TwinRoll_any _ _ _ _ R HRW.out HFEW.out).mono ?_
      clear HRBx
      rintro e w2 ⟨aM, nM, cM, aI, nI, cI, aA, nA, cA, rfl, ho, hap, hb⟩
      have HO := Lib.hid ho
      clear ho hap
      have HRBn := Lib.hid (HRB.out.below hb)
      clear HRB
      have HRB := HRBn
      clear HRBn
      have HRWn := Lib.hid (HRW.out.mono hb)
      clear HRW
      have HRW := HRWn
      clear HRWn
      have HSn := Lib.hid (HS.out.mono hb)
      clear HS
      have HS := HSn
      clear HSn
      have HBn := Lib.hid (bgo HB.out hb HB.out.size)
      clear HB
      have HB := HBn
      clear HBn
      clear hb
      have HSZk1 : Hid ((Try.prog.info? 26).map (·.size) = some (#[.slice aM nM cM, .slice aI nI cI, .slice aA nA cA] : Array Value).size) := by show _ = _; rw [rol_sz]; rfl
      have HONk1 : Hid ((#[.slice aM nM cM, .slice aI nI cI, .slice aA nA cA] : Array Value).all (·.oneCell') = true) := by show _ = true; simp [Value.oneCell']
      go_upto_region 4 with (first
        | (refine wpList_store_row rfl 26 (.tmp 7) (.tmp 31) rfl w2.heap.size #[.slice aM nM cM, .slice aI nI cI, .slice aA nA cA] rfl rfl 26 #[.slice none 0 0, .slice none 0 0, .slice none 0 0] (heap_alloc_new _ _) HSZk1.out rfl HONk1.out ?_)
        | fail)
      have hbsk1 : Below w2.heap.size w2 ((w2.alloc (.cells #[.slice none 0 0, .slice none 0 0, .slice none 0 0] 26)).setRow w2.heap.size #[.slice aM nM cM, .slice aI nI cI, .slice aA nA cA]) := ((Below.refl _ _).alloc (Nat.le_refl _) _).trans (setRow_below (Nat.le_refl _) _)
      have hxk1 : HT ((w2.alloc (.cells #[.slice none 0 0, .slice none 0 0, .slice none 0 0] 26)).setRow w2.heap.size #[.slice aM nM cM, .slice aI nI cI, .slice aA nA cA]) w2.heap.size 26 [.slice aM nM cM, .slice aI nI cI, .slice aA nA cA] := setRow_heap _ _ _ _ _ _ (heap_alloc_new _ _)
      have hbwk1 := bgo HB.out hbsk1 (Below.size HB.out)
      obtain ⟨Wk1, hWk1⟩ : ∃ zz, zz = ((w2.alloc (.cells #[.slice none 0 0, .slice none 0 0, .slice none 0 0] 26)).setRow w2.heap.size #[.slice aM nM cM, .slice aI nI cI, .slice aA nA cA]) := ⟨_, rfl⟩
      rw [← hWk1] at hbsk1 hxk1 hbwk1 ⊢
      obtain ⟨gxk1, hgk1⟩ : ∃ zz, zz = w2.heap.size := ⟨_, rfl⟩
      rw [← hgk1] at hxk1 ⊢
      have HGEk1 : Hid (∀ m, m ≤ w2.heap.size → m ≤ gxk1) := fun m h => by omega
      have HXk1 := Lib.hid hxk1
      have HBWk1 := Lib.hid hbwk1
      have HBSk1 := Lib.hid hbsk1
      clear hWk1 hxk1 hbwk1 hbsk1 hgk1 HONk1
      obtain ⟨gn, hgq⟩ : ∃ g, g = gxk1 := ⟨_, rfl⟩
      rw [← hgq] at HXk1 HGEk1 ⊢
      have HGgn : Hid (W.heap.size ≤ gn) := HGEk1.out _ HB.out.size
      clear hgq HBWk1 HGEk1
      have HRBn := Lib.hid (HRB.out.below HBSk1.out)
      clear HRB
      have HRB := HRBn
      clear HRBn
      have HRWn := Lib.hid (HRW.out.mono HBSk1.out)
      clear HRW
      have HRW := HRWn
      clear HRWn
      have HSn := Lib.hid (HS.out.mono HBSk1.out)
      clear HS
      have HS := HSn
      clear HSn
      have HOn := Lib.hid (HO.out.below HBSk1.out)
      clear HO
      have HO := HOn
      clear HOn
      have HBn := Lib.hid (bgo HB.out HBSk1.out HB.out.size)
      clear HB
      have HB := HBn
      clear HBn
      clear HBSk1
      have HIB := HXk1
      clear HXk1 HSZk1
      have HSZn : Hid ((Try.prog.info? 26).map (·.size) = some (#[.slice aM nM cM, .slice aI nI cI, .slice aA nA cA] : Array Value).size) := by show _ = _; rw [rol_sz]; rfl
      have HONn : Hid ((#[.slice aM nM cM, .slice aI nI cI, .slice aA nA cA] : Array Value).all (·.oneCell') = true) := by show _ = true; simp [Value.oneCell']
      obtain ⟨ck, hck⟩ : ∃ z, z = chkE R := ⟨_, rfl⟩
      obtain ⟨cb, hcb⟩ : ∃ z, z = chkR R := ⟨_, rfl⟩
      have hEb : (ck == 0) = cb := by rw [hck, hcb]; unfold chkE; cases chkR R <;> rfl
      have HCK := Lib.hid hck
      have HCB := Lib.hid hcb
      clear hck hcb
      refine wp_region_bl 6 (by kernel_rfl) ?_
      refine wpAnyU_take (i := 0) (oi := { dst := some 32, op := Op.load 26 (Operand.tmp 7), type := 26, pos := "law.go:31", after := #[], guard := none }) (v := (.agg #[.slice aM nM cM, .slice aI nI cI, .slice aA nA cA])) rfl (by kernel_rfl) (by kernel_rfl) (by kernel_rfl) (by kernel_rfl) (by kernel_rfl) (fun _ _ _ h => h) (BL.cls Wk1) ?_ ?_
      · refine Or.inl ⟨rfl, fun w hSw => ?_⟩
        exact eff_load_mid 26 (.tmp 7) rfl gn 0 rfl [.slice aM nM cM, .slice aI nI cI, .slice aA nA cA] _ (fun j v h => BL.cell hSw (HIB.out.cell (by rcases j with _ | _ | _ | j; all_goals first | exact h | (simp at h)))) Try.underlying26 rfl HSZn.out
      try simp only [Act.put, List.setIfInBounds_toArray, List.set_cons_zero, List.set_cons_succ]
      refine wpAnyU_take (i := 1) (oi := { dst := some 33, op := Op.call { callee := Callee.value (Operand.func 11), args := #[Operand.tmp 32], argTypes := #[26] }, type := 30, pos := "law.go:31", after := #[{ on := 0, ground := Ground.data }], guard := none }) (v := (.int .i64 ck)) rfl (by kernel_rfl) (by kernel_rfl) (by kernel_rfl) (by kernel_rfl) (by kernel_rfl) (fun _ _ _ h => h) (BL.cls Wk1) ?_ ?_
      · refine Or.inl ⟨rfl, fun w hSw => ?_⟩
        go_simp
        show Calls _ _ _ _ _
        rw [HCK.out]
        refine (Check_any _ _ _ _ R (HO.out.in.mono hSw)).mono ?_
        rintro e w9 ⟨rfl, hb⟩
        exact ⟨rfl, hb⟩
      try simp only [Act.put, List.setIfInBounds_toArray, List.set_cons_zero, List.set_cons_succ]
      refine wpAnyU_take (i := 2) (oi := { dst := some 34, op := Op.binOp BinOp.eql 30 (Operand.tmp 33) (Operand.const (Value.int IntKind.i64 0)) 30, type := 4, pos := "law.go:31", after := #[{ on := 1, ground := Ground.data }], guard := none }) (v := (.bool cb)) rfl (by kernel_rfl) (by kernel_rfl) (by kernel_rfl) (by kernel_rfl) (by kernel_rfl) (fun _ _ _ h => h) (BL.cls Wk1) ?_ ?_
      · refine Or.inl ⟨rfl, fun w hSw => ?_⟩
        exact EffR.same (by go_simp)
      try simp only [Act.put, List.setIfInBounds_toArray, List.set_cons_zero, List.set_cons_succ]
      refine wpAnyU_take (i := 3) (oi := { dst := some 35, op := Op.load 26 (Operand.tmp 3), type := 26, pos := "law.go:31", after := #[], guard := none }) (v := (.agg #[va, vb, vc])) rfl (by kernel_rfl) (by kernel_rfl) (by kernel_rfl) (by kernel_rfl) (by kernel_rfl) (fun _ _ _ h => h) (BL.cls Wk1) ?_ ?_
      · refine Or.inl ⟨rfl, fun w hSw => ?_⟩
        exact eff_load_mid 26 (.tmp 3) rfl gr 0 rfl [va, vb, vc] _ (fun j v h => BL.cell hSw (HRB.out.cell (by rcases j with _ | _ | _ | j; all_goals first | exact h | (simp at h)))) Try.underlying26 rfl HSZr.out
      try simp only [Act.put, List.setIfInBounds_toArray, List.set_cons_zero, List.set_cons_succ]
      refine wpAnyU_take (i := 4) (oi := { dst := some 36, op := Op.call { callee := Callee.value (Operand.func 12), args := #[Operand.tmp 35], argTypes := #[26] }, type := 4, pos := "law.go:31", after := #[{ on := 3, ground := Ground.data }, { on := 1, ground := Ground.chain }], guard := none }) (v := (.bool cb)) rfl (by kernel_rfl) (by kernel_rfl) (by kernel_rfl) (by kernel_rfl) (by kernel_rfl) (fun _ _ _ h => h) (BL.cls Wk1) ?_ ?_
      · refine Or.inl ⟨rfl, fun w hSw => ?_⟩
        go_simp
        show Calls _ _ _ _ _
        rw [HCB.out]
        refine (rRoll_any _ _ _ _ R (HRW.out.mono hSw)).mono ?_
        rintro e w9 ⟨rfl, hb⟩
        exact ⟨rfl, hb⟩
      try simp only [Act.put, List.setIfInBounds_toArray, List.set_cons_zero, List.set_cons_succ]
      refine wpAnyU_take (i := 5) (oi := { dst := some 37, op := Op.binOp BinOp.neq 4 (Operand.tmp 34) (Operand.tmp 36) 4, type := 4, pos := "law.go:31", after := #[{ on := 2, ground := Ground.data }, { on := 4, ground := Ground.data }], guard := none }) (v := (.bool false)) rfl (by kernel_rfl) (by kernel_rfl) (by kernel_rfl) (by kernel_rfl) (by kernel_rfl) (fun _ _ _ h => h) (BL.cls Wk1) ?_ ?_
      · refine Or.inl ⟨rfl, fun w hSw => ?_⟩
        exact EffR.same (by go_simp)
      try simp only [Act.put, List.setIfInBounds_toArray, List.set_cons_zero, List.set_cons_succ]
      refine wpAnyU_done (by kernel_rfl) (fun w1 hb1 => ?_) _
      have hb := hb1
      clear hb1 hEb
      have HRBn := Lib.hid (HRB.out.below hb)
      clear HRB
      have HRB := HRBn
      clear HRBn
      have HRWn := Lib.hid (HRW.out.mono hb)
      clear HRW
      have HRW := HRWn
      clear HRWn
      have HSn := Lib.hid (HS.out.mono hb)
      clear HS
      have HS := HSn
      clear HSn
      have HOn := Lib.hid (HO.out.below hb)
      clear HO
      have HO := HOn
      clear HOn
      have HIBn := Lib.hid (HIB.out.below hb)
      clear HIB
      have HIB := HIBn
      clear HIBn
      have HBn := Lib.hid (bgo HB.out hb HB.out.size)
      clear HB
      have HB := HBn
      clear HBn
      clear hb
      obtain ⟨xM, hx⟩ : ∃ z, z = fdX MbT.no mZ no R.M := ⟨_, rfl⟩
      obtain ⟨bM, hbb⟩ : ∃ z, z = hasB MbT.no no R.M := ⟨_, rfl⟩
      have HXM := Lib.hid hx
      have HBBM := Lib.hid hbb
      clear hx hbb
      have HIBx : Hid (w1.heap[gn]? = some (.cells #[.slice aM nM cM, .slice aI nI cI, .slice aA nA cA] 26 (0, 0))) := HIB.out
      go_wp2_with (first
        | (refine wpList_load_row rfl 26 (.tmp 7) rfl gn rfl 26 #[.slice aM nM cM, .slice aI nI cI, .slice aA nA cA] (0, 0) _ HIBx.out Try.underlying26 rfl HSZn.out ?_)
        | fail)
      refine (Member_any _ _ _ _ R.M no xM bM HO.out.in.1 HXM.out HBBM.out).mono ?_
      clear HIBx
      rintro e v1 ⟨rfl, hb⟩
      have HRBn := Lib.hid (HRB.out.below hb)
      clear HRB
      have HRB := HRBn
      clear HRBn
      have HRWn := Lib.hid (HRW.out.mono hb)
      clear HRW
      have HRW := HRWn
      clear HRWn
      have HSn := Lib.hid (HS.out.mono hb)
      clear HS
      have HS := HSn
      clear HSn
      have HOn := Lib.hid (HO.out.below hb)
      clear HO
      have HO := HOn
      clear HOn
      have HIBn := Lib.hid (HIB.out.below hb)
      clear HIB
      have HIB := HIBn
      clear HIBn
      have HBn := Lib.hid (bgo HB.out hb HB.out.size)
      clear HB
      have HB := HBn
      clear HBn
      clear hb
      have HSZk2 : Hid ((Try.prog.info? 33).map (·.size) = some (#[.int .i64 xM.no, .int .i64 xM.state, .int .i64 xM.need] : Array Value).size) := by show _ = _; rw [mem_sz]; rfl
      have HONk2 : Hid ((#[.int .i64 xM.no, .int .i64 xM.state, .int .i64 xM.need] : Array Value).all (·.oneCell') = true) := by show _ = true; simp [Value.oneCell']
      go_upto_region 7 with (first
        | (refine wpList_store_row rfl 33 (.tmp 8) (.tmp 42) rfl v1.heap.size #[.int .i64 xM.no, .int .i64 xM.state, .int .i64 xM.need] rfl rfl 33 #[.int .i64 0, .int .i64 0, .int .i64 0] (heap_alloc_new _ _) HSZk2.out rfl HONk2.out ?_)
        | fail)
      have hbsk2 : Below v1.heap.size v1 ((v1.alloc (.cells #[.int .i64 0, .int .i64 0, .int .i64 0] 33)).setRow v1.heap.size #[.int .i64 xM.no, .int .i64 xM.state, .int .i64 xM.need]) := ((Below.refl _ _).alloc (Nat.le_refl _) _).trans (setRow_below (Nat.le_refl _) _)
      have hxk2 : HT ((v1.alloc (.cells #[.int .i64 0, .int .i64 0, .int .i64 0] 33)).setRow v1.heap.size #[.int .i64 xM.no, .int .i64 xM.state, .int .i64 xM.need]) v1.heap.size 33 [.int .i64 xM.no, .int .i64 xM.state, .int .i64 xM.need] := setRow_heap _ _ _ _ _ _ (heap_alloc_new _ _)
      have hbwk2 := bgo HB.out hbsk2 (Below.size HB.out)
      obtain ⟨Wk2, hWk2⟩ : ∃ zz, zz = ((v1.alloc (.cells #[.int .i64 0, .int .i64 0, .int .i64 0] 33)).setRow v1.heap.size #[.int .i64 xM.no, .int .i64 xM.state, .int .i64 xM.need]) := ⟨_, rfl⟩
      rw [← hWk2] at hbsk2 hxk2 hbwk2 ⊢
      obtain ⟨gxk2, hgk2⟩ : ∃ zz, zz = v1.heap.size := ⟨_, rfl⟩
      rw [← hgk2] at hxk2 ⊢
      have HGEk2 : Hid (∀ m, m ≤ v1.heap.size → m ≤ gxk2) := fun m h => by omega
      have HXk2 := Lib.hid hxk2
      have HBWk2 := Lib.hid hbwk2
      have HBSk2 := Lib.hid hbsk2
      clear hWk2 hxk2 hbwk2 hbsk2 hgk2 HONk2
      obtain ⟨pM, hgq⟩ : ∃ g, g = gxk2 := ⟨_, rfl⟩
      rw [← hgq] at HXk2 HGEk2 ⊢
      have HGpM : Hid (W.heap.size ≤ pM) := HGEk2.out _ HB.out.size
      clear hgq HBWk2 HGEk2
      have HRBn := Lib.hid (HRB.out.below HBSk2.out)
      clear HRB
      have HRB := HRBn
      clear HRBn
      have HRWn := Lib.hid (HRW.out.mono HBSk2.out)
      clear HRW
      have HRW := HRWn
      clear HRWn
      have HSn := Lib.hid (HS.out.mono HBSk2.out)
      clear HS
      have HS := HSn
      clear HSn
      have HOn := Lib.hid (HO.out.below HBSk2.out)
      clear HO
      have HO := HOn
      clear HOn
      have HIBn := Lib.hid (HIB.out.below HBSk2.out)
      clear HIB
      have HIB := HIBn
      clear HIBn
      have HBn := Lib.hid (bgo HB.out HBSk2.out HB.out.size)
      clear HB
      have HB := HBn
      clear HBn
      clear HBSk2
      have HM1 := HXk2
      clear HXk2 HSZk2
      have HRBx : Hid (Wk2.heap[gr]? = some (.cells #[va, vb, vc] 26 (0, 0))) := HRB.out
      go_wp2_with (first
        | (refine wpList_load_row rfl 26 (.tmp 3) rfl gr rfl 26 #[va, vb, vc] (0, 0) _ HRBx.out Try.underlying26 rfl HSZr.out ?_)
        | fail)
      refine (rMember_any _ _ _ _ R.M no xM bM HRW.out.1 HXM.out HBBM.out).mono ?_
      clear HRBx
      rintro e v2 ⟨rfl, hb⟩
      have HRBn := Lib.hid (HRB.out.below hb)
      clear HRB
      have HRB := HRBn
      clear HRBn
      have HRWn := Lib.hid (HRW.out.mono hb)
      clear HRW
      have HRW := HRWn
      clear HRWn
      have HSn := Lib.hid (HS.out.mono hb)
      clear HS
      have HS := HSn
      clear HSn
      have HOn := Lib.hid (HO.out.below hb)
      clear HO
      have HO := HOn
      clear HOn
      have HIBn := Lib.hid (HIB.out.below hb)
      clear HIB
      have HIB := HIBn
      clear HIBn
      have HM1n := Lib.hid (HM1.out.below hb)
      clear HM1
      have HM1 := HM1n
      clear HM1n
      have HBn := Lib.hid (bgo HB.out hb HB.out.size)
      clear HB
      have HB := HBn
      clear HBn
      clear hb
      have HSZk3 : Hid ((Try.prog.info? 33).map (·.size) = some (#[.int .i64 xM.no, .int .i64 xM.state, .int .i64 xM.need] : Array Value).size) := by show _ = _; rw [mem_sz]; rfl
      have HONk3 : Hid ((#[.int .i64 xM.no, .int .i64 xM.state, .int .i64 xM.need] : Array Value).all (·.oneCell') = true) := by show _ = true; simp [Value.oneCell']
      go_upto_region 8 with (first
        | (refine wpList_store_row rfl 33 (.tmp 10) (.tmp 48) rfl v2.heap.size #[.int .i64 xM.no, .int .i64 xM.state, .int .i64 xM.need] rfl rfl 33 #[.int .i64 0, .int .i64 0, .int .i64 0] (heap_alloc_new _ _) HSZk3.out rfl HONk3.out ?_)
        | fail)
      have hbsk3 : Below v2.heap.size v2 ((v2.alloc (.cells #[.int .i64 0, .int .i64 0, .int .i64 0] 33)).setRow v2.heap.size #[.int .i64 xM.no, .int .i64 xM.state, .int .i64 xM.need]) := ((Below.refl _ _).alloc (Nat.le_refl _) _).trans (setRow_below (Nat.le_refl _) _)
      have hxk3 : HT ((v2.alloc (.cells #[.int .i64 0, .int .i64 0, .int .i64 0] 33)).setRow v2.heap.size #[.int .i64 xM.no, .int .i64 xM.state, .int .i64 xM.need]) v2.heap.size 33 [.int .i64 xM.no, .int .i64 xM.state, .int .i64 xM.need] := setRow_heap _ _ _ _ _ _ (heap_alloc_new _ _)
      have hbwk3 := bgo HB.out hbsk3 (Below.size HB.out)
      obtain ⟨Wk3, hWk3⟩ : ∃ zz, zz = ((v2.alloc (.cells #[.int .i64 0, .int .i64 0, .int .i64 0] 33)).setRow v2.heap.size #[.int .i64 xM.no, .int .i64 xM.state, .int .i64 xM.need]) := ⟨_, rfl⟩
      rw [← hWk3] at hbsk3 hxk3 hbwk3 ⊢
      obtain ⟨gxk3, hgk3⟩ : ∃ zz, zz = v2.heap.size := ⟨_, rfl⟩
      rw [← hgk3] at hxk3 ⊢
      have HGEk3 : Hid (∀ m, m ≤ v2.heap.size → m ≤ gxk3) := fun m h => by omega
      have HXk3 := Lib.hid hxk3
      have HBWk3 := Lib.hid hbwk3
      have HBSk3 := Lib.hid hbsk3
      clear hWk3 hxk3 hbwk3 hbsk3 hgk3 HONk3
      obtain ⟨qM, hgq⟩ : ∃ g, g = gxk3 := ⟨_, rfl⟩
      rw [← hgq] at HXk3 HGEk3 ⊢
      have HGqM : Hid (W.heap.size ≤ qM) := HGEk3.out _ HB.out.size
      clear hgq HBWk3 HGEk3
      have HRBn := Lib.hid (HRB.out.below HBSk3.out)
      clear HRB
      have HRB := HRBn
      clear HRBn
      have HRWn := Lib.hid (HRW.out.mono HBSk3.out)
      clear HRW
      have HRW := HRWn
      clear HRWn
      have HSn := Lib.hid (HS.out.mono HBSk3.out)
      clear HS
      have HS := HSn
      clear HSn
      have HOn := Lib.hid (HO.out.below HBSk3.out)
      clear HO
      have HO := HOn
      clear HOn
      have HIBn := Lib.hid (HIB.out.below HBSk3.out)
      clear HIB
      have HIB := HIBn
      clear HIBn
      have HM1n := Lib.hid (HM1.out.below HBSk3.out)
      clear HM1
      have HM1 := HM1n
      clear HM1n
      have HBn := Lib.hid (bgo HB.out HBSk3.out HB.out.size)
      clear HB
      have HB := HBn
      clear HBn
      clear HBSk3
      have HM2 := HXk3
      clear HXk3 HSZk3
      obtain ⟨xI, hx⟩ : ∃ z, z = fdX InT.no iZ no R.I := ⟨_, rfl⟩
      obtain ⟨bI, hbb⟩ : ∃ z, z = hasB InT.no no R.I := ⟨_, rfl⟩
      have HXI := Lib.hid hx
      have HBBI := Lib.hid hbb
      clear hx hbb
      have HIBx : Hid (Wk3.heap[gn]? = some (.cells #[.slice aM nM cM, .slice aI nI cI, .slice aA nA cA] 26 (0, 0))) := HIB.out
      go_wp2_with (first
        | (refine wpList_load_row rfl 26 (.tmp 7) rfl gn rfl 26 #[.slice aM nM cM, .slice aI nI cI, .slice aA nA cA] (0, 0) _ HIBx.out Try.underlying26 rfl HSZn.out ?_)
        | fail)
      refine (Inst_any _ _ _ _ R.I no xI bI HO.out.in.2.1 HXI.out HBBI.out).mono ?_
      clear HIBx
      rintro e v3 ⟨rfl, hb⟩
      have HRBn := Lib.hid (HRB.out.below hb)
      clear HRB
      have HRB := HRBn
      clear HRBn
      have HRWn := Lib.hid (HRW.out.mono hb)
      clear HRW
      have HRW := HRWn
      clear HRWn
      have HSn := Lib.hid (HS.out.mono hb)
      clear HS
      have HS := HSn
      clear HSn
      have HOn := Lib.hid (HO.out.below hb)
      clear HO
      have HO := HOn
      clear HOn
      have HIBn := Lib.hid (HIB.out.below hb)
      clear HIB
      have HIB := HIBn
      clear HIBn
      have HM1n := Lib.hid (HM1.out.below hb)
      clear HM1
      have HM1 := HM1n
      clear HM1n
      have HM2n := Lib.hid (HM2.out.below hb)
      clear HM2
      have HM2 := HM2n
      clear HM2n
      have HBn := Lib.hid (bgo HB.out hb HB.out.size)
      clear HB
      have HB := HBn
      clear HBn
      clear hb
      have HSZk4 : Hid ((Try.prog.info? 38).map (·.size) = some (#[.int .i64 xI.no, .int .i64 xI.cur, .int .i64 xI.mult, .int .i64 xI.add, .int .i64 xI.set, .int .i64 xI.price, .int .i64 xI.h0, .int .i64 xI.h1, .int .i64 xI.h2, .int .i64 xI.h3, .int .i64 xI.h4, .int .i64 xI.h5] : Array Value).size) := by show _ = _; rw [ins_sz]; rfl
      have HONk4 : Hid ((#[.int .i64 xI.no, .int .i64 xI.cur, .int .i64 xI.mult, .int .i64 xI.add, .int .i64 xI.set, .int .i64 xI.price, .int .i64 xI.h0, .int .i64 xI.h1, .int .i64 xI.h2, .int .i64 xI.h3, .int .i64 xI.h4, .int .i64 xI.h5] : Array Value).all (·.oneCell') = true) := by show _ = true; simp [Value.oneCell']
      go_upto_region 9 with (first
        | (refine wpList_store_row rfl 38 (.tmp 12) (.tmp 54) rfl v3.heap.size #[.int .i64 xI.no, .int .i64 xI.cur, .int .i64 xI.mult, .int .i64 xI.add, .int .i64 xI.set, .int .i64 xI.price, .int .i64 xI.h0, .int .i64 xI.h1, .int .i64 xI.h2, .int .i64 xI.h3, .int .i64 xI.h4, .int .i64 xI.h5] rfl rfl 38 #[.int .i64 0, .int .i64 0, .int .i64 0, .int .i64 0, .int .i64 0, .int .i64 0, .int .i64 0, .int .i64 0, .int .i64 0, .int .i64 0, .int .i64 0, .int .i64 0] (heap_alloc_new _ _) HSZk4.out rfl HONk4.out ?_)
        | fail)
      have hbsk4 : Below v3.heap.size v3 ((v3.alloc (.cells #[.int .i64 0, .int .i64 0, .int .i64 0, .int .i64 0, .int .i64 0, .int .i64 0, .int .i64 0, .int .i64 0, .int .i64 0, .int .i64 0, .int .i64 0, .int .i64 0] 38)).setRow v3.heap.size #[.int .i64 xI.no, .int .i64 xI.cur, .int .i64 xI.mult, .int .i64 xI.add, .int .i64 xI.set, .int .i64 xI.price, .int .i64 xI.h0, .int .i64 xI.h1, .int .i64 xI.h2, .int .i64 xI.h3, .int .i64 xI.h4, .int .i64 xI.h5]) := ((Below.refl _ _).alloc (Nat.le_refl _) _).trans (setRow_below (Nat.le_refl _) _)
      have hxk4 : HT ((v3.alloc (.cells #[.int .i64 0, .int .i64 0, .int .i64 0, .int .i64 0, .int .i64 0, .int .i64 0, .int .i64 0, .int .i64 0, .int .i64 0, .int .i64 0, .int .i64 0, .int .i64 0] 38)).setRow v3.heap.size #[.int .i64 xI.no, .int .i64 xI.cur, .int .i64 xI.mult, .int .i64 xI.add, .int .i64 xI.set, .int .i64 xI.price, .int .i64 xI.h0, .int .i64 xI.h1, .int .i64 xI.h2, .int .i64 xI.h3, .int .i64 xI.h4, .int .i64 xI.h5]) v3.heap.size 38 [.int .i64 xI.no, .int .i64 xI.cur, .int .i64 xI.mult, .int .i64 xI.add, .int .i64 xI.set, .int .i64 xI.price, .int .i64 xI.h0, .int .i64 xI.h1, .int .i64 xI.h2, .int .i64 xI.h3, .int .i64 xI.h4, .int .i64 xI.h5] := setRow_heap _ _ _ _ _ _ (heap_alloc_new _ _)
      have hbwk4 := bgo HB.out hbsk4 (Below.size HB.out)
      obtain ⟨Wk4, hWk4⟩ : ∃ zz, zz = ((v3.alloc (.cells #[.int .i64 0, .int .i64 0, .int .i64 0, .int .i64 0, .int .i64 0, .int .i64 0, .int .i64 0, .int .i64 0, .int .i64 0, .int .i64 0, .int .i64 0, .int .i64 0] 38)).setRow v3.heap.size #[.int .i64 xI.no, .int .i64 xI.cur, .int .i64 xI.mult, .int .i64 xI.add, .int .i64 xI.set, .int .i64 xI.price, .int .i64 xI.h0, .int .i64 xI.h1, .int .i64 xI.h2, .int .i64 xI.h3, .int .i64 xI.h4, .int .i64 xI.h5]) := ⟨_, rfl⟩
      rw [← hWk4] at hbsk4 hxk4 hbwk4 ⊢
      obtain ⟨gxk4, hgk4⟩ : ∃ zz, zz = v3.heap.size := ⟨_, rfl⟩
      rw [← hgk4] at hxk4 ⊢
      have HGEk4 : Hid (∀ m, m ≤ v3.heap.size → m ≤ gxk4) := fun m h => by omega
      have HXk4 := Lib.hid hxk4
      have HBWk4 := Lib.hid hbwk4
      have HBSk4 := Lib.hid hbsk4
      clear hWk4 hxk4 hbwk4 hbsk4 hgk4 HONk4
      obtain ⟨pI, hgq⟩ : ∃ g, g = gxk4 := ⟨_, rfl⟩
      rw [← hgq] at HXk4 HGEk4 ⊢
      have HGpI : Hid (W.heap.size ≤ pI) := HGEk4.out _ HB.out.size
      clear hgq HBWk4 HGEk4
      have HRBn := Lib.hid (HRB.out.below HBSk4.out)
      clear HRB
      have HRB := HRBn
      clear HRBn
      have HRWn := Lib.hid (HRW.out.mono HBSk4.out)
      clear HRW
      have HRW := HRWn
      clear HRWn
      have HSn := Lib.hid (HS.out.mono HBSk4.out)
      clear HS
      have HS := HSn
      clear HSn
      have HOn := Lib.hid (HO.out.below HBSk4.out)
      clear HO
      have HO := HOn
      clear HOn
      have HIBn := Lib.hid (HIB.out.below HBSk4.out)
      clear HIB
      have HIB := HIBn
      clear HIBn
      have HM1n := Lib.hid (HM1.out.below HBSk4.out)
      clear HM1
      have HM1 := HM1n
      clear HM1n
      have HM2n := Lib.hid (HM2.out.below HBSk4.out)
      clear HM2
      have HM2 := HM2n
      clear HM2n
      have HBn := Lib.hid (bgo HB.out HBSk4.out HB.out.size)
      clear HB
      have HB := HBn
      clear HBn
      clear HBSk4
      have HI1 := HXk4
      clear HXk4 HSZk4
      have HRBx : Hid (Wk4.heap[gr]? = some (.cells #[va, vb, vc] 26 (0, 0))) := HRB.out
      go_wp2_with (first
        | (refine wpList_load_row rfl 26 (.tmp 3) rfl gr rfl 26 #[va, vb, vc] (0, 0) _ HRBx.out Try.underlying26 rfl HSZr.out ?_)
        | fail)
      refine (rInst_any _ _ _ _ R.I no xI bI HRW.out.2.1 HXI.out HBBI.out).mono ?_
      clear HRBx
      rintro e v4 ⟨rfl, hb⟩
      have HRBn := Lib.hid (HRB.out.below hb)
      clear HRB
      have HRB := HRBn
      clear HRBn
      have HRWn := Lib.hid (HRW.out.mono hb)
      clear HRW
      have HRW := HRWn
      clear HRWn
      have HSn := Lib.hid (HS.out.mono hb)
      clear HS
      have HS := HSn
      clear HSn
      have HOn := Lib.hid (HO.out.below hb)
      clear HO
      have HO := HOn
      clear HOn
      have HIBn := Lib.hid (HIB.out.below hb)
      clear HIB
      have HIB := HIBn
      clear HIBn
      have HM1n := Lib.hid (HM1.out.below hb)
      clear HM1
      have HM1 := HM1n
      clear HM1n
      have HM2n := Lib.hid (HM2.out.below hb)
      clear HM2
      have HM2 := HM2n
      clear HM2n
      have HI1n := Lib.hid (HI1.out.below hb)
      clear HI1
      have HI1 := HI1n
      clear HI1n
      have HBn := Lib.hid (bgo HB.out hb HB.out.size)
      clear HB
      have HB := HBn
      clear HBn
      clear hb
      have HSZk5 : Hid ((Try.prog.info? 38).map (·.size) = some (#[.int .i64 xI.no, .int .i64 xI.cur, .int .i64 xI.mult, .int .i64 xI.add, .int .i64 xI.set, .int .i64 xI.price, .int .i64 xI.h0, .int .i64 xI.h1, .int .i64 xI.h2, .int .i64 xI.h3, .int .i64 xI.h4, .int .i64 xI.h5] : Array Value).size) := by show _ = _; rw [ins_sz]; rfl
      have HONk5 : Hid ((#[.int .i64 xI.no, .int .i64 xI.cur, .int .i64 xI.mult, .int .i64 xI.add, .int .i64 xI.set, .int .i64 xI.price, .int .i64 xI.h0, .int .i64 xI.h1, .int .i64 xI.h2, .int .i64 xI.h3, .int .i64 xI.h4, .int .i64 xI.h5] : Array Value).all (·.oneCell') = true) := by show _ = true; simp [Value.oneCell']
      go_upto_region 10 with (first
        | (refine wpList_store_row rfl 38 (.tmp 14) (.tmp 60) rfl v4.heap.size #[.int .i64 xI.no, .int .i64 xI.cur, .int .i64 xI.mult, .int .i64 xI.add, .int .i64 xI.set, .int .i64 xI.price, .int .i64 xI.h0, .int .i64 xI.h1, .int .i64 xI.h2, .int .i64 xI.h3, .int .i64 xI.h4, .int .i64 xI.h5] rfl rfl 38 #[.int .i64 0, .int .i64 0, .int .i64 0, .int .i64 0, .int .i64 0, .int .i64 0, .int .i64 0, .int .i64 0, .int .i64 0, .int .i64 0, .int .i64 0, .int .i64 0] (heap_alloc_new _ _) HSZk5.out rfl HONk5.out ?_)
        | fail)
      have hbsk5 : Below v4.heap.size v4 ((v4.alloc (.cells #[.int .i64 0, .int .i64 0, .int .i64 0, .int .i64 0, .int .i64 0, .int .i64 0, .int .i64 0, .int .i64 0, .int .i64 0, .int .i64 0, .int .i64 0, .int .i64 0] 38)).setRow v4.heap.size #[.int .i64 xI.no, .int .i64 xI.cur, .int .i64 xI.mult, .int .i64 xI.add, .int .i64 xI.set, .int .i64 xI.price, .int .i64 xI.h0, .int .i64 xI.h1, .int .i64 xI.h2, .int .i64 xI.h3, .int .i64 xI.h4, .int .i64 xI.h5]) := ((Below.refl _ _).alloc (Nat.le_refl _) _).trans (setRow_below (Nat.le_refl _) _)
      have hxk5 : HT ((v4.alloc (.cells #[.int .i64 0, .int .i64 0, .int .i64 0, .int .i64 0, .int .i64 0, .int .i64 0, .int .i64 0, .int .i64 0, .int .i64 0, .int .i64 0, .int .i64 0, .int .i64 0] 38)).setRow v4.heap.size #[.int .i64 xI.no, .int .i64 xI.cur, .int .i64 xI.mult, .int .i64 xI.add, .int .i64 xI.set, .int .i64 xI.price, .int .i64 xI.h0, .int .i64 xI.h1, .int .i64 xI.h2, .int .i64 xI.h3, .int .i64 xI.h4, .int .i64 xI.h5]) v4.heap.size 38 [.int .i64 xI.no, .int .i64 xI.cur, .int .i64 xI.mult, .int .i64 xI.add, .int .i64 xI.set, .int .i64 xI.price, .int .i64 xI.h0, .int .i64 xI.h1, .int .i64 xI.h2, .int .i64 xI.h3, .int .i64 xI.h4, .int .i64 xI.h5] := setRow_heap _ _ _ _ _ _ (heap_alloc_new _ _)
      have hbwk5 := bgo HB.out hbsk5 (Below.size HB.out)
      obtain ⟨Wk5, hWk5⟩ : ∃ zz, zz = ((v4.alloc (.cells #[.int .i64 0, .int .i64 0, .int .i64 0, .int .i64 0, .int .i64 0, .int .i64 0, .int .i64 0, .int .i64 0, .int .i64 0, .int .i64 0, .int .i64 0, .int .i64 0] 38)).setRow v4.heap.size #[.int .i64 xI.no, .int .i64 xI.cur, .int .i64 xI.mult, .int .i64 xI.add, .int .i64 xI.set, .int .i64 xI.price, .int .i64 xI.h0, .int .i64 xI.h1, .int .i64 xI.h2, .int .i64 xI.h3, .int .i64 xI.h4, .int .i64 xI.h5]) := ⟨_, rfl⟩
      rw [← hWk5] at hbsk5 hxk5 hbwk5 ⊢
      obtain ⟨gxk5, hgk5⟩ : ∃ zz, zz = v4.heap.size := ⟨_, rfl⟩
      rw [← hgk5] at hxk5 ⊢
      have HGEk5 : Hid (∀ m, m ≤ v4.heap.size → m ≤ gxk5) := fun m h => by omega
      have HXk5 := Lib.hid hxk5
      have HBWk5 := Lib.hid hbwk5
      have HBSk5 := Lib.hid hbsk5
      clear hWk5 hxk5 hbwk5 hbsk5 hgk5 HONk5
      obtain ⟨qI, hgq⟩ : ∃ g, g = gxk5 := ⟨_, rfl⟩
      rw [← hgq] at HXk5 HGEk5 ⊢
      have HGqI : Hid (W.heap.size ≤ qI) := HGEk5.out _ HB.out.size
      clear hgq HBWk5 HGEk5
      have HRBn := Lib.hid (HRB.out.below HBSk5.out)
      clear HRB
      have HRB := HRBn
      clear HRBn
      have HRWn := Lib.hid (HRW.out.mono HBSk5.out)
      clear HRW
      have HRW := HRWn
      clear HRWn
      have HSn := Lib.hid (HS.out.mono HBSk5.out)
      clear HS
      have HS := HSn
      clear HSn
      have HOn := Lib.hid (HO.out.below HBSk5.out)
      clear HO
      have HO := HOn
      clear HOn
      have HIBn := Lib.hid (HIB.out.below HBSk5.out)
      clear HIB
      have HIB := HIBn
      clear HIBn
      have HM1n := Lib.hid (HM1.out.below HBSk5.out)
      clear HM1
      have HM1 := HM1n
      clear HM1n
      have HM2n := Lib.hid (HM2.out.below HBSk5.out)
      clear HM2
      have HM2 := HM2n
      clear HM2n
      have HI1n := Lib.hid (HI1.out.below HBSk5.out)
      clear HI1
      have HI1 := HI1n
      clear HI1n
      have HBn := Lib.hid (bgo HB.out HBSk5.out HB.out.size)
      clear HB
      have HB := HBn
      clear HBn
      clear HBSk5
      have HI2 := HXk5
      clear HXk5 HSZk5
      obtain ⟨xA, hx⟩ : ∃ z, z = fdX AsT.no aZ no R.A := ⟨_, rfl⟩
      obtain ⟨bA, hbb⟩ : ∃ z, z = hasB AsT.no no R.A := ⟨_, rfl⟩
      have HXA := Lib.hid hx
      have HBBA := Lib.hid hbb
      clear hx hbb
      have HIBx : Hid (Wk5.heap[gn]? = some (.cells #[.slice aM nM cM, .slice aI nI cI, .slice aA nA cA] 26 (0, 0))) := HIB.out
      go_wp2_with (first
        | (refine wpList_load_row rfl 26 (.tmp 7) rfl gn rfl 26 #[.slice aM nM cM, .slice aI nI cI, .slice aA nA cA] (0, 0) _ HIBx.out Try.underlying26 rfl HSZn.out ?_)
        | fail)
      refine (Asset_any _ _ _ _ R.A no xA bA HO.out.in.2.2 HXA.out HBBA.out).mono ?_
      clear HIBx
      rintro e v5 ⟨rfl, hb⟩
      have HRBn := Lib.hid (HRB.out.below hb)
      clear HRB
      have HRB := HRBn
      clear HRBn
      have HRWn := Lib.hid (HRW.out.mono hb)
      clear HRW
      have HRW := HRWn
      clear HRWn
      have HSn := Lib.hid (HS.out.mono hb)
      clear HS
      have HS := HSn
      clear HSn
      have HOn := Lib.hid (HO.out.below hb)
      clear HO
      have HO := HOn
      clear HOn
      have HIBn := Lib.hid (HIB.out.below hb)
      clear HIB
      have HIB := HIBn
      clear HIBn
      have HM1n := Lib.hid (HM1.out.below hb)
      clear HM1
      have HM1 := HM1n
      clear HM1n
      have HM2n := Lib.hid (HM2.out.below hb)
      clear HM2
      have HM2 := HM2n
      clear HM2n
      have HI1n := Lib.hid (HI1.out.below hb)
      clear HI1
      have HI1 := HI1n
      clear HI1n
      have HI2n := Lib.hid (HI2.out.below hb)
      clear HI2
      have HI2 := HI2n
      clear HI2n
      have HBn := Lib.hid (bgo HB.out hb HB.out.size)
      clear HB
      have HB := HBn
      clear HBn
      clear hb
      have HSZk6 : Hid ((Try.prog.info? 42).map (·.size) = some (#[.int .i64 xA.no, .int .i64 xA.cur, .int .i64 xA.price, .int .i64 xA.cut] : Array Value).size) := by show _ = _; rw [ass_sz]; rfl
      have HONk6 : Hid ((#[.int .i64 xA.no, .int .i64 xA.cur, .int .i64 xA.price, .int .i64 xA.cut] : Array Value).all (·.oneCell') = true) := by show _ = true; simp [Value.oneCell']
      go_upto_region 11 with (first
        | (refine wpList_store_row rfl 42 (.tmp 16) (.tmp 66) rfl v5.heap.size #[.int .i64 xA.no, .int .i64 xA.cur, .int .i64 xA.price, .int .i64 xA.cut] rfl rfl 42 #[.int .i64 0, .int .i64 0, .int .i64 0, .int .i64 0] (heap_alloc_new _ _) HSZk6.out rfl HONk6.out ?_)
        | fail)
      have hbsk6 : Below v5.heap.size v5 ((v5.alloc (.cells #[.int .i64 0, .int .i64 0, .int .i64 0, .int .i64 0] 42)).setRow v5.heap.size #[.int .i64 xA.no, .int .i64 xA.cur, .int .i64 xA.price, .int .i64 xA.cut]) := ((Below.refl _ _).alloc (Nat.le_refl _) _).trans (setRow_below (Nat.le_refl _) _)
      have hxk6 : HT ((v5.alloc (.cells #[.int .i64 0, .int .i64 0, .int .i64 0, .int .i64 0] 42)).setRow v5.heap.size #[.int .i64 xA.no, .int .i64 xA.cur, .int .i64 xA.price, .int .i64 xA.cut]) v5.heap.size 42 [.int .i64 xA.no, .int .i64 xA.cur, .int .i64 xA.price, .int .i64 xA.cut] := setRow_heap _ _ _ _ _ _ (heap_alloc_new _ _)
      have hbwk6 := bgo HB.out hbsk6 (Below.size HB.out)
      obtain ⟨Wk6, hWk6⟩ : ∃ zz, zz = ((v5.alloc (.cells #[.int .i64 0, .int .i64 0, .int .i64 0, .int .i64 0] 42)).setRow v5.heap.size #[.int .i64 xA.no, .int .i64 xA.cur, .int .i64 xA.price, .int .i64 xA.cut]) := ⟨_, rfl⟩
      rw [← hWk6] at hbsk6 hxk6 hbwk6 ⊢
      obtain ⟨gxk6, hgk6⟩ : ∃ zz, zz = v5.heap.size := ⟨_, rfl⟩
      rw [← hgk6] at hxk6 ⊢
      have HGEk6 : Hid (∀ m, m ≤ v5.heap.size → m ≤ gxk6) := fun m h => by omega
      have HXk6 := Lib.hid hxk6
      have HBWk6 := Lib.hid hbwk6
      have HBSk6 := Lib.hid hbsk6
      clear hWk6 hxk6 hbwk6 hbsk6 hgk6 HONk6
      obtain ⟨pA, hgq⟩ : ∃ g, g = gxk6 := ⟨_, rfl⟩
      rw [← hgq] at HXk6 HGEk6 ⊢
      have HGpA : Hid (W.heap.size ≤ pA) := HGEk6.out _ HB.out.size
      clear hgq HBWk6 HGEk6
      have HRBn := Lib.hid (HRB.out.below HBSk6.out)
      clear HRB
      have HRB := HRBn
      clear HRBn
      have HRWn := Lib.hid (HRW.out.mono HBSk6.out)
      clear HRW
      have HRW := HRWn
      clear HRWn
      have HSn := Lib.hid (HS.out.mono HBSk6.out)
      clear HS
      have HS := HSn
      clear HSn
      have HOn := Lib.hid (HO.out.below HBSk6.out)
      clear HO
      have HO := HOn
      clear HOn
      have HIBn := Lib.hid (HIB.out.below HBSk6.out)
      clear HIB
      have HIB := HIBn
      clear HIBn
      have HM1n := Lib.hid (HM1.out.below HBSk6.out)
      clear HM1
      have HM1 := HM1n
      clear HM1n
      have HM2n := Lib.hid (HM2.out.below HBSk6.out)
      clear HM2
      have HM2 := HM2n
      clear HM2n
      have HI1n := Lib.hid (HI1.out.below HBSk6.out)
      clear HI1
      have HI1 := HI1n
      clear HI1n
      have HI2n := Lib.hid (HI2.out.below HBSk6.out)
      clear HI2
      have HI2 := HI2n
      clear HI2n
      have HBn := Lib.hid (bgo HB.out HBSk6.out HB.out.size)
      clear HB
      have HB := HBn
      clear HBn
      clear HBSk6
      have HA1 := HXk6
      clear HXk6 HSZk6
      have HRBx : Hid (Wk6.heap[gr]? = some (.cells #[va, vb, vc] 26 (0, 0))) := HRB.out
      go_wp2_with (first
        | (refine wpList_load_row rfl 26 (.tmp 3) rfl gr rfl 26 #[va, vb, vc] (0, 0) _ HRBx.out Try.underlying26 rfl HSZr.out ?_)
        | fail)
      refine (rHeld_any _ _ _ _ R.A no xA bA HRW.out.2.2 HXA.out HBBA.out).mono ?_
      clear HRBx
      rintro e v6 ⟨rfl, hb⟩
      have HRBn := Lib.hid (HRB.out.below hb)
      clear HRB
      have HRB := HRBn
      clear HRBn
      have HRWn := Lib.hid (HRW.out.mono hb)
      clear HRW
      have HRW := HRWn
      clear HRWn
      have HSn := Lib.hid (HS.out.mono hb)
      clear HS
      have HS := HSn
      clear HSn
      have HOn := Lib.hid (HO.out.below hb)
      clear HO
      have HO := HOn
      clear HOn
      have HIBn := Lib.hid (HIB.out.below hb)
      clear HIB
      have HIB := HIBn
      clear HIBn
      have HM1n := Lib.hid (HM1.out.below hb)
      clear HM1
      have HM1 := HM1n
      clear HM1n
      have HM2n := Lib.hid (HM2.out.below hb)
      clear HM2
      have HM2 := HM2n
      clear HM2n
      have HI1n := Lib.hid (HI1.out.below hb)
      clear HI1
      have HI1 := HI1n
      clear HI1n
      have HI2n := Lib.hid (HI2.out.below hb)
      clear HI2
      have HI2 := HI2n
      clear HI2n
      have HA1n := Lib.hid (HA1.out.below hb)
      clear HA1
      have HA1 := HA1n
      clear HA1n
      have HBn := Lib.hid (bgo HB.out hb HB.out.size)
      clear HB
      have HB := HBn
      clear HBn
      clear hb
      have HSZk7 : Hid ((Try.prog.info? 42).map (·.size) = some (#[.int .i64 xA.no, .int .i64 xA.cur, .int .i64 xA.price, .int .i64 xA.cut] : Array Value).size) := by show _ = _; rw [ass_sz]; rfl
      have HONk7 : Hid ((#[.int .i64 xA.no, .int .i64 xA.cur, .int .i64 xA.price, .int .i64 xA.cut] : Array Value).all (·.oneCell') = true) := by show _ = true; simp [Value.oneCell']
      go_upto_region 12 with (first
        | (refine wpList_store_row rfl 42 (.tmp 18) (.tmp 72) rfl v6.heap.size #[.int .i64 xA.no, .int .i64 xA.cur, .int .i64 xA.price, .int .i64 xA.cut] rfl rfl 42 #[.int .i64 0, .int .i64 0, .int .i64 0, .int .i64 0] (heap_alloc_new _ _) HSZk7.out rfl HONk7.out ?_)
        | fail)
      have hbsk7 : Below v6.heap.size v6 ((v6.alloc (.cells #[.int .i64 0, .int .i64 0, .int .i64 0, .int .i64 0] 42)).setRow v6.heap.size #[.int .i64 xA.no, .int .i64 xA.cur, .int .i64 xA.price, .int .i64 xA.cut]) := ((Below.refl _ _).alloc (Nat.le_refl _) _).trans (setRow_below (Nat.le_refl _) _)
      have hxk7 : HT ((v6.alloc (.cells #[.int .i64 0, .int .i64 0, .int .i64 0, .int .i64 0] 42)).setRow v6.heap.size #[.int .i64 xA.no, .int .i64 xA.cur, .int .i64 xA.price, .int .i64 xA.cut]) v6.heap.size 42 [.int .i64 xA.no, .int .i64 xA.cur, .int .i64 xA.price, .int .i64 xA.cut] := setRow_heap _ _ _ _ _ _ (heap_alloc_new _ _)
      have hbwk7 := bgo HB.out hbsk7 (Below.size HB.out)
      obtain ⟨Wk7, hWk7⟩ : ∃ zz, zz = ((v6.alloc (.cells #[.int .i64 0, .int .i64 0, .int .i64 0, .int .i64 0] 42)).setRow v6.heap.size #[.int .i64 xA.no, .int .i64 xA.cur, .int .i64 xA.price, .int .i64 xA.cut]) := ⟨_, rfl⟩
      rw [← hWk7] at hbsk7 hxk7 hbwk7 ⊢
      obtain ⟨gxk7, hgk7⟩ : ∃ zz, zz = v6.heap.size := ⟨_, rfl⟩
      rw [← hgk7] at hxk7 ⊢
      have HGEk7 : Hid (∀ m, m ≤ v6.heap.size → m ≤ gxk7) := fun m h => by omega
      have HXk7 := Lib.hid hxk7
      have HBWk7 := Lib.hid hbwk7
      have HBSk7 := Lib.hid hbsk7
      clear hWk7 hxk7 hbwk7 hbsk7 hgk7 HONk7
      obtain ⟨qA, hgq⟩ : ∃ g, g = gxk7 := ⟨_, rfl⟩
      rw [← hgq] at HXk7 HGEk7 ⊢
      have HGqA : Hid (W.heap.size ≤ qA) := HGEk7.out _ HB.out.size
      clear hgq HBWk7 HGEk7
      have HRBn := Lib.hid (HRB.out.below HBSk7.out)
      clear HRB
      have HRB := HRBn
      clear HRBn
      have HRWn := Lib.hid (HRW.out.mono HBSk7.out)
      clear HRW
      have HRW := HRWn
      clear HRWn
      have HSn := Lib.hid (HS.out.mono HBSk7.out)
      clear HS
      have HS := HSn
      clear HSn
      have HOn := Lib.hid (HO.out.below HBSk7.out)
      clear HO
      have HO := HOn
      clear HOn
      have HIBn := Lib.hid (HIB.out.below HBSk7.out)
      clear HIB
      have HIB := HIBn
      clear HIBn
      have HM1n := Lib.hid (HM1.out.below HBSk7.out)
      clear HM1
      have HM1 := HM1n
      clear HM1n
      have HM2n := Lib.hid (HM2.out.below HBSk7.out)
      clear HM2
      have HM2 := HM2n
      clear HM2n
      have HI1n := Lib.hid (HI1.out.below HBSk7.out)
      clear HI1
      have HI1 := HI1n
      clear HI1n
      have HI2n := Lib.hid (HI2.out.below HBSk7.out)
      clear HI2
      have HI2 := HI2n
      clear HI2n
      have HA1n := Lib.hid (HA1.out.below HBSk7.out)
      clear HA1
      have HA1 := HA1n
      clear HA1n
      have HBn := Lib.hid (bgo HB.out HBSk7.out HB.out.size)
      clear HB
      have HB := HBn
      clear HBn
      clear HBSk7
      have HA2 := HXk7
      clear HXk7 HSZk7
      have hb1 : Below Wk7.heap.size Wk7 (Wk7.alloc (.cells #[.int .i64 xM.no, .int .i64 xM.state, .int .i64 xM.need] 33)) := (Below.refl _ _).alloc (Nat.le_refl _) _
      have hb2 : Below Wk7.heap.size Wk7 ((Wk7.alloc (.cells #[.int .i64 xM.no, .int .i64 xM.state, .int .i64 xM.need] 33)).alloc (.cells #[.int .i64 xM.no, .int .i64 xM.state, .int .i64 xM.need] 33)) := hb1.alloc hb1.size _
      have HL1 : Hid (Rs MbT.vs 3 ((Wk7.alloc (.cells #[.int .i64 xM.no, .int .i64 xM.state, .int .i64 xM.need] 33)).alloc (.cells #[.int .i64 xM.no, .int .i64 xM.state, .int .i64 xM.need] 33)) (.slice (some ⟨Wk7.heap.size, 0, none⟩) 1 1) [xM]) := (Rs.one MbT.len Wk7 xM 33).alloc _
      have HL2 : Hid (Rs MbT.vs 3 ((Wk7.alloc (.cells #[.int .i64 xM.no, .int .i64 xM.state, .int .i64 xM.need] 33)).alloc (.cells #[.int .i64 xM.no, .int .i64 xM.state, .int .i64 xM.need] 33)) (.slice (some ⟨Wk7.heap.size + 1, 0, none⟩) 1 1) [xM]) := by
        have h9 := Rs.one MbT.len (Wk7.alloc (.cells #[.int .i64 xM.no, .int .i64 xM.state, .int .i64 xM.need] 33)) xM 33
        rw [show (Wk7.alloc (.cells #[.int .i64 xM.no, .int .i64 xM.state, .int .i64 xM.need] 33)).heap.size = Wk7.heap.size + 1 by simp] at h9
        exact h9
      have km := KMembers_same ((Wk7.alloc (.cells #[.int .i64 xM.no, .int .i64 xM.state, .int .i64 xM.need] 33)).alloc (.cells #[.int .i64 xM.no, .int .i64 xM.state, .int .i64 xM.need] 33)) _ _ [xM] HL1.out HL2.out
      have HM1x : Hid (Wk7.heap[pM]? = some (.cells #[.int .i64 xM.no, .int .i64 xM.state, .int .i64 xM.need] 33 (0, 0))) := HM1.out
      have HM2x : Hid ((Wk7.alloc (.cells #[.int .i64 xM.no, .int .i64 xM.state, .int .i64 xM.need] 33)).heap[qM]? = some (.cells #[.int .i64 xM.no, .int .i64 xM.state, .int .i64 xM.need] 33 (0, 0))) := HM2.out.below hb1
      have HB12 := Lib.hid hb2
      clear hb1 hb2
      have HSZm : Hid ((Try.prog.info? 33).map (·.size) = some (#[.int .i64 xM.no, .int .i64 xM.state, .int .i64 xM.need] : Array Value).size) := by show _ = _; rw [mem_sz]; rfl
      have HONm : Hid ((#[.int .i64 xM.no, .int .i64 xM.state, .int .i64 xM.need] : Array Value).all (·.oneCell') = true) := by show _ = true; simp [Value.oneCell']
      go_wp2_with (first
        | (refine wpList_load_row rfl 33 (.tmp 8) rfl pM rfl 33 #[.int .i64 xM.no, .int .i64 xM.state, .int .i64 xM.need] (0, 0) _ HM1x.out Try.underlying33 rfl HSZm.out ?_)
        | (refine wpList_load_row rfl 33 (.tmp 10) rfl qM rfl 33 #[.int .i64 xM.no, .int .i64 xM.state, .int .i64 xM.need] (0, 0) _ HM2x.out Try.underlying33 rfl HSZm.out ?_)
        | fail)
      (with_reducible refine km.mono ?_)
      clear km HM1x HM2x HL1 HL2
      rintro e x1 ⟨rfl, hb⟩
      have HB6 := Lib.hid (HB12.out.next hb)
      clear hb HB12
      have HRBn := Lib.hid (HRB.out.below HB6.out)
      clear HRB
      have HRB := HRBn
      clear HRBn
      have HRWn := Lib.hid (HRW.out.mono HB6.out)
      clear HRW
      have HRW := HRWn
      clear HRWn
      have HSn := Lib.hid (HS.out.mono HB6.out)
      clear HS
      have HS := HSn
      clear HSn
      have HOn := Lib.hid (HO.out.below HB6.out)
      clear HO
      have HO := HOn
      clear HOn
      have HIBn := Lib.hid (HIB.out.below HB6.out)
      clear HIB
      have HIB := HIBn
      clear HIBn
      have HM1n := Lib.hid (HM1.out.below HB6.out)
      clear HM1
      have HM1 := HM1n
      clear HM1n
      have HM2n := Lib.hid (HM2.out.below HB6.out)
      clear HM2
      have HM2 := HM2n
      clear HM2n
      have HI1n := Lib.hid (HI1.out.below HB6.out)
      clear HI1
      have HI1 := HI1n
      clear HI1n
      have HI2n := Lib.hid (HI2.out.below HB6.out)
      clear HI2
      have HI2 := HI2n
      clear HI2n
      have HA1n := Lib.hid (HA1.out.below HB6.out)
      clear HA1
      have HA1 := HA1n
      clear HA1n
      have HA2n := Lib.hid (HA2.out.below HB6.out)
      clear HA2
      have HA2 := HA2n
      clear HA2n
      have HBn := Lib.hid (bgo HB.out HB6.out HB.out.size)
      clear HB
      have HB := HBn
      clear HBn
      clear HB6
      have HSZqI : Hid ((Try.prog.info? 38).map (·.size) = some (#[.int .i64 xI.no, .int .i64 xI.cur, .int .i64 xI.mult, .int .i64 xI.add, .int .i64 xI.set, .int .i64 xI.price, .int .i64 xI.h0, .int .i64 xI.h1, .int .i64 xI.h2, .int .i64 xI.h3, .int .i64 xI.h4, .int .i64 xI.h5] : Array Value).size) := by show _ = _; rw [ins_sz]; rfl
      have HONqI : Hid ((#[.int .i64 xI.no, .int .i64 xI.cur, .int .i64 xI.mult, .int .i64 xI.add, .int .i64 xI.set, .int .i64 xI.price, .int .i64 xI.h0, .int .i64 xI.h1, .int .i64 xI.h2, .int .i64 xI.h3, .int .i64 xI.h4, .int .i64 xI.h5] : Array Value).all (·.oneCell') = true) := by show _ = true; simp [Value.oneCell']
      have HI1x : Hid (x1.heap[pI]? = some (.cells #[.int .i64 xI.no, .int .i64 xI.cur, .int .i64 xI.mult, .int .i64 xI.add, .int .i64 xI.set, .int .i64 xI.price, .int .i64 xI.h0, .int .i64 xI.h1, .int .i64 xI.h2, .int .i64 xI.h3, .int .i64 xI.h4, .int .i64 xI.h5] 38 (0, 0))) := HI1.out
      have HI2x : Hid (x1.heap[qI]? = some (.cells #[.int .i64 xI.no, .int .i64 xI.cur, .int .i64 xI.mult, .int .i64 xI.add, .int .i64 xI.set, .int .i64 xI.price, .int .i64 xI.h0, .int .i64 xI.h1, .int .i64 xI.h2, .int .i64 xI.h3, .int .i64 xI.h4, .int .i64 xI.h5] 38 (0, 0))) := HI2.out
      go_wp2_with (first
        | (refine wpList_load_row_w (by first | rfl | simp [Region.wanted, yielded]) 38 (.tmp 12) rfl pI rfl 38 #[.int .i64 xI.no, .int .i64 xI.cur, .int .i64 xI.mult, .int .i64 xI.add, .int .i64 xI.set, .int .i64 xI.price, .int .i64 xI.h0, .int .i64 xI.h1, .int .i64 xI.h2, .int .i64 xI.h3, .int .i64 xI.h4, .int .i64 xI.h5] (0, 0) _ HI1x.out Try.underlying38 rfl HSZqI.out ?_)
        | (refine wpList_load_row_w (by first | rfl | simp [Region.wanted, yielded]) 38 (.tmp 14) rfl qI rfl 38 #[.int .i64 xI.no, .int .i64 xI.cur, .int .i64 xI.mult, .int .i64 xI.add, .int .i64 xI.set, .int .i64 xI.price, .int .i64 xI.h0, .int .i64 xI.h1, .int .i64 xI.h2, .int .i64 xI.h3, .int .i64 xI.h4, .int .i64 xI.h5] (0, 0) _ HI2x.out Try.underlying38 rfl HSZqI.out ?_)
        | fail)
      refine (KInst_same _ _ _ _ _ _ _ _ _ _ _ _ _).mono ?_
      clear HI1x HI2x
      rintro e x2 ⟨rfl, hb⟩
      have HRBn := Lib.hid (HRB.out.below hb)
      clear HRB
      have HRB := HRBn
      clear HRBn
      have HRWn := Lib.hid (HRW.out.mono hb)
      clear HRW
      have HRW := HRWn
      clear HRWn
      have HSn := Lib.hid (HS.out.mono hb)
      clear HS
      have HS := HSn
      clear HSn
      have HOn := Lib.hid (HO.out.below hb)
      clear HO
      have HO := HOn
      clear HOn
      have HIBn := Lib.hid (HIB.out.below hb)
      clear HIB
      have HIB := HIBn
      clear HIBn
      have HM1n := Lib.hid (HM1.out.below hb)
      clear HM1
      have HM1 := HM1n
      clear HM1n
      have HM2n := Lib.hid (HM2.out.below hb)
      clear HM2
      have HM2 := HM2n
      clear HM2n
      have HI1n := Lib.hid (HI1.out.below hb)
      clear HI1
      have HI1 := HI1n
      clear HI1n
      have HI2n := Lib.hid (HI2.out.below hb)
      clear HI2
      have HI2 := HI2n
      clear HI2n
      have HA1n := Lib.hid (HA1.out.below hb)
      clear HA1
      have HA1 := HA1n
      clear HA1n
      have HA2n := Lib.hid (HA2.out.below hb)
      clear HA2
      have HA2 := HA2n
      clear HA2n
      have HBn := Lib.hid (bgo HB.out hb HB.out.size)
      clear HB
      have HB := HBn
      clear HBn
      clear hb
      have HSZqA : Hid ((Try.prog.info? 42).map (·.size) = some (#[.int .i64 xA.no, .int .i64 xA.cur, .int .i64 xA.price, .int .i64 xA.cut] : Array Value).size) := by show _ = _; rw [ass_sz]; rfl
      have HONqA : Hid ((#[.int .i64 xA.no, .int .i64 xA.cur, .int .i64 xA.price, .int .i64 xA.cut] : Array Value).all (·.oneCell') = true) := by show _ = true; simp [Value.oneCell']
      have HA1x : Hid (x2.heap[pA]? = some (.cells #[.int .i64 xA.no, .int .i64 xA.cur, .int .i64 xA.price, .int .i64 xA.cut] 42 (0, 0))) := HA1.out
      have HA2x : Hid (x2.heap[qA]? = some (.cells #[.int .i64 xA.no, .int .i64 xA.cur, .int .i64 xA.price, .int .i64 xA.cut] 42 (0, 0))) := HA2.out
      go_wp2_with (first
        | (refine wpList_load_row_w (by first | rfl | simp [Region.wanted, yielded]) 42 (.tmp 16) rfl pA rfl 42 #[.int .i64 xA.no, .int .i64 xA.cur, .int .i64 xA.price, .int .i64 xA.cut] (0, 0) _ HA1x.out Try.underlying42 rfl HSZqA.out ?_)
        | (refine wpList_load_row_w (by first | rfl | simp [Region.wanted, yielded]) 42 (.tmp 18) rfl qA rfl 42 #[.int .i64 xA.no, .int .i64 xA.cur, .int .i64 xA.price, .int .i64 xA.cut] (0, 0) _ HA2x.out Try.underlying42 rfl HSZqA.out ?_)
        | fail)
      refine (KAsset_same _ _ _ _ _).mono ?_
      clear HA1x HA2x
      rintro e x3 ⟨rfl, hb⟩
      have HRBn := Lib.hid (HRB.out.below hb)
      clear HRB
      have HRB := HRBn
      clear HRBn
      have HRWn := Lib.hid (HRW.out.mono hb)
      clear HRW
      have HRW := HRWn
      clear HRWn
      have HSn := Lib.hid (HS.out.mono hb)
      clear HS
      have HS := HSn
      clear HSn
      have HOn := Lib.hid (HO.out.below hb)
      clear HO
      have HO := HOn
      clear HOn
      have HIBn := Lib.hid (HIB.out.below hb)
      clear HIB
      have HIB := HIBn
      clear HIBn
      have HM1n := Lib.hid (HM1.out.below hb)
      clear HM1
      have HM1 := HM1n
      clear HM1n
      have HM2n := Lib.hid (HM2.out.below hb)
      clear HM2
      have HM2 := HM2n
      clear HM2n
      have HI1n := Lib.hid (HI1.out.below hb)
      clear HI1
      have HI1 := HI1n
      clear HI1n
      have HI2n := Lib.hid (HI2.out.below hb)
      clear HI2
      have HI2 := HI2n
      clear HI2n
      have HA1n := Lib.hid (HA1.out.below hb)
      clear HA1
      have HA1 := HA1n
      clear HA1n
      have HA2n := Lib.hid (HA2.out.below hb)
      clear HA2
      have HA2 := HA2n
      clear HA2n
      have HBn := Lib.hid (bgo HB.out hb HB.out.size)
      clear HB
      have HB := HBn
      clear HBn
      clear hb
      clear HM1
      clear HM2
      clear HI1
      clear HI2
      clear HA1
      clear HA2
      have HRB_t := HRB
      have HRW_t := HRW
      have HS_t := HS
      have HO_t := HO
      have HIB_t := HIB
      have HB_t := HB
      have HRt : Hid (Below x3.heap.size x3 x3) := Below.refl _ _
      have HIBx : Hid (x3.heap[gn]? = some (.cells #[.slice aM nM cM, .slice aI nI cI, .slice aA nA cA] 26 (0, 0))) := HIB.out
      go_wp2_with (first
        | (refine wpList_load_row rfl 26 (.tmp 7) rfl gn rfl 26 #[.slice aM nM cM, .slice aI nI cI, .slice aA nA cA] (0, 0) _ HIBx.out Try.underlying26 rfl HSZn.out ?_)
        | fail)
      refine (Turn_any _ _ _ _ R HO.out.in HFEW.out).mono ?_
      clear HIBx
      rintro e y1 ⟨aM3, nM3, cM3, aI3, nI3, cI3, aA3, nA3, cA3, rfl, ho, hap, hb⟩
      have HOT := Lib.hid ho
      clear ho hap
      have HRBn := Lib.hid (HRB.out.below hb)
      clear HRB
      have HRB := HRBn
      clear HRBn
      have HRWn := Lib.hid (HRW.out.mono hb)
      clear HRW
      have HRW := HRWn
      clear HRWn
      have HSn := Lib.hid (HS.out.mono hb)
      clear HS
      have HS := HSn
      clear HSn
      have HOn := Lib.hid (HO.out.below hb)
      clear HO
      have HO := HOn
      clear HOn
      have HIBn := Lib.hid (HIB.out.below hb)
      clear HIB
      have HIB := HIBn
      clear HIBn
      have HBn := Lib.hid (bgo HB.out hb HB.out.size)
      clear HB
      have HB := HBn
      clear HBn
      have HRtn := Lib.hid (bgo HRt.out hb HRt.out.size)
      clear HRt
      have HRt := HRtn
      clear HRtn
      clear hb
      have HSZk8 : Hid ((Try.prog.info? 26).map (·.size) = some (#[.slice aM3 nM3 cM3, .slice aI3 nI3 cI3, .slice aA3 nA3 cA3] : Array Value).size) := by show _ = _; rw [rol_sz]; rfl
      have HONk8 : Hid ((#[.slice aM3 nM3 cM3, .slice aI3 nI3 cI3, .slice aA3 nA3 cA3] : Array Value).all (·.oneCell') = true) := by show _ = true; simp [Value.oneCell']
      go_upto_region 15 with (first
        | (refine wpList_store_row rfl 26 (.tmp 20) (.tmp 108) rfl y1.heap.size #[.slice aM3 nM3 cM3, .slice aI3 nI3 cI3, .slice aA3 nA3 cA3] rfl rfl 26 #[.slice none 0 0, .slice none 0 0, .slice none 0 0] (heap_alloc_new _ _) HSZk8.out rfl HONk8.out ?_)
        | fail)
      have hbsk8 : Below y1.heap.size y1 ((y1.alloc (.cells #[.slice none 0 0, .slice none 0 0, .slice none 0 0] 26)).setRow y1.heap.size #[.slice aM3 nM3 cM3, .slice aI3 nI3 cI3, .slice aA3 nA3 cA3]) := ((Below.refl _ _).alloc (Nat.le_refl _) _).trans (setRow_below (Nat.le_refl _) _)
      have hxk8 : HT ((y1.alloc (.cells #[.slice none 0 0, .slice none 0 0, .slice none 0 0] 26)).setRow y1.heap.size #[.slice aM3 nM3 cM3, .slice aI3 nI3 cI3, .slice aA3 nA3 cA3]) y1.heap.size 26 [.slice aM3 nM3 cM3, .slice aI3 nI3 cI3, .slice aA3 nA3 cA3] := setRow_heap _ _ _ _ _ _ (heap_alloc_new _ _)
      have hbwk8 := bgo HB.out hbsk8 (Below.size HB.out)
      obtain ⟨Wk8, hWk8⟩ : ∃ zz, zz = ((y1.alloc (.cells #[.slice none 0 0, .slice none 0 0, .slice none 0 0] 26)).setRow y1.heap.size #[.slice aM3 nM3 cM3, .slice aI3 nI3 cI3, .slice aA3 nA3 cA3]) := ⟨_, rfl⟩
      rw [← hWk8] at hbsk8 hxk8 hbwk8 ⊢
      obtain ⟨gxk8, hgk8⟩ : ∃ zz, zz = y1.heap.size := ⟨_, rfl⟩
      rw [← hgk8] at hxk8 ⊢
      have HGEk8 : Hid (∀ m, m ≤ y1.heap.size → m ≤ gxk8) := fun m h => by omega
      have HXk8 := Lib.hid hxk8
      have HBWk8 := Lib.hid hbwk8
      have HBSk8 := Lib.hid hbsk8
      clear hWk8 hxk8 hbwk8 hbsk8 hgk8 HONk8
      obtain ⟨gt, hgq⟩ : ∃ g, g = gxk8 := ⟨_, rfl⟩
      rw [← hgq] at HXk8 HGEk8 ⊢
      have HGgt : Hid (W.heap.size ≤ gt) := HGEk8.out _ HB.out.size
      clear hgq HBWk8 HGEk8
      have HRBn := Lib.hid (HRB.out.below HBSk8.out)
      clear HRB
      have HRB := HRBn
      clear HRBn
      have HRWn := Lib.hid (HRW.out.mono HBSk8.out)
      clear HRW
      have HRW := HRWn
      clear HRWn
      have HSn := Lib.hid (HS.out.mono HBSk8.out)
      clear HS
      have HS := HSn
      clear HSn
      have HOn := Lib.hid (HO.out.below HBSk8.out)
      clear HO
      have HO := HOn
      clear HOn
      have HIBn := Lib.hid (HIB.out.below HBSk8.out)
      clear HIB
      have HIB := HIBn
      clear HIBn
      have HOTn := Lib.hid (HOT.out.below HBSk8.out)
      clear HOT
      have HOT := HOTn
      clear HOTn
      have HBn := Lib.hid (bgo HB.out HBSk8.out HB.out.size)
      clear HB
      have HB := HBn
      clear HBn
      have HRtn := Lib.hid (bgo HRt.out HBSk8.out HRt.out.size)
      clear HRt
      have HRt := HRtn
      clear HRtn
      clear HBSk8
      have HTB := HXk8
      clear HXk8 HSZk8
      have HSZt : Hid ((Try.prog.info? 26).map (·.size) = some (#[.slice aM3 nM3 cM3, .slice aI3 nI3 cI3, .slice aA3 nA3 cA3] : Array Value).size) := by show _ = _; rw [rol_sz]; rfl
      have HONt : Hid ((#[.slice aM3 nM3 cM3, .slice aI3 nI3 cI3, .slice aA3 nA3 cA3] : Array Value).all (·.oneCell') = true) := by show _ = true; simp [Value.oneCell']
      refine wp_region_bl 5 (by kernel_rfl) ?_
      refine wpAnyU_take (i := 0) (oi := { dst := some 109, op := Op.load 26 (Operand.tmp 20), type := 26, pos := "law.go:44", after := #[], guard := none }) (v := (.agg #[.slice aM3 nM3 cM3, .slice aI3 nI3 cI3, .slice aA3 nA3 cA3])) rfl (by kernel_rfl) (by kernel_rfl) (by kernel_rfl) (by kernel_rfl) (by kernel_rfl) (fun _ _ _ h => h) (BL.cls Wk8) ?_ ?_
      · refine Or.inl ⟨rfl, fun w hSw => ?_⟩
        exact eff_load_mid 26 (.tmp 20) rfl gt 0 rfl [.slice aM3 nM3 cM3, .slice aI3 nI3 cI3, .slice aA3 nA3 cA3] _ (fun j v h => BL.cell hSw (HTB.out.cell (by rcases j with _ | _ | _ | j; all_goals first | exact h | (simp at h)))) Try.underlying26 rfl HSZt.out
      try simp only [Act.put, List.setIfInBounds_toArray, List.set_cons_zero, List.set_cons_succ]
      refine wpAnyU_take (i := 1) (oi := { dst := some 110, op := Op.load 26 (Operand.tmp 3), type := 26, pos := "law.go:44", after := #[], guard := none }) (v := (.agg #[va, vb, vc])) rfl (by kernel_rfl) (by kernel_rfl) (by kernel_rfl) (by kernel_rfl) (by kernel_rfl) (fun _ _ _ h => h) (BL.cls Wk8) ?_ ?_
      · refine Or.inl ⟨rfl, fun w hSw => ?_⟩
        exact eff_load_mid 26 (.tmp 3) rfl gr 0 rfl [va, vb, vc] _ (fun j v h => BL.cell hSw (HRB.out.cell (by rcases j with _ | _ | _ | j; all_goals first | exact h | (simp at h)))) Try.underlying26 rfl HSZr.out
      try simp only [Act.put, List.setIfInBounds_toArray, List.set_cons_zero, List.set_cons_succ]
      refine wpAnyU_ready (rs := [2]) (by kernel_rfl) (by simp) ?_
      refine AllReadyU.cons (o := { dst := some 111, op := Op.call { callee := Callee.value (Operand.func 24), args := #[Operand.tmp 110], argTypes := #[26] }, type := 26, pos := "law.go:44", after := #[{ on := 1, ground := Ground.data }], guard := none }) rfl (fun wA2 hA2 K hK => ?_) AllReadyU.nil
      go_simp
      refine (rTurn_any wA2 _ _ _ R (HRW.out.mono hA2) HFEW.out).mono ?_
      rintro e wn8 ⟨aM4, nM4, cM4, aI4, nI4, cI4, aA4, nA4, cA4, rfl, ho, hap, hbn⟩
      clear hap
      refine hK.out _ _ (fun x => BL Wk8 x ∧ OwnRoll x Wk8.heap.size (.slice aM4 nM4 cM4) (.slice aI4 nI4 cI4) (.slice aA4 nA4 cA4) (turnR R)) (Cls.and (BL.cls Wk8) (fun _ _ h hb => OwnRoll.below h hb)) ⟨Below.next hA2 hbn, ho.base (Below.size hA2)⟩ ?_
      clear hK K
      try simp only [Act.put, List.setIfInBounds_toArray, List.set_cons_zero, List.set_cons_succ]
      refine wpAnyU_ready (rs := [3]) (by kernel_rfl) (by simp) ?_
      refine AllReadyU.cons (o := { dst := some 112, op := Op.call { callee := Callee.value (Operand.func 23), args := #[Operand.tmp 109, Operand.tmp 111], argTypes := #[26, 26] }, type := 4, pos := "law.go:44", after := #[{ on := 0, ground := Ground.data }, { on := 2, ground := Ground.data }, { on := 2, ground := Ground.chain }], guard := none }) rfl (fun wA3 hA3 K hK => ?_) AllReadyU.nil
      go_simp
      refine (KRoll_same _ _ _ _ _ _ _ (turnR R).M (turnR R).I (turnR R).A (HOT.out.in.mono hA3.1).1 hA3.2.in.1 (HOT.out.in.mono hA3.1).2.1 hA3.2.in.2.1 (HOT.out.in.mono hA3.1).2.2 hA3.2.in.2.2).mono ?_
      rintro e wn10 ⟨rfl, hbn⟩
      refine hK.out _ _ (BL Wk8) (BL.cls Wk8) (Below.next hA3.1 hbn) ?_
      clear hK K
      try simp only [Act.put, List.setIfInBounds_toArray, List.set_cons_zero, List.set_cons_succ]
      refine wpAnyU_take (i := 4) (oi := { dst := some 21, op := Op.assign (Operand.tmp 112), type := 4, pos := "law.go:44", after := #[{ on := 3, ground := Ground.data }, { on := 3, ground := Ground.chain }, { on := 0, ground := Ground.phase }, { on := 1, ground := Ground.phase }, { on := 2, ground := Ground.phase }, { on := 3, ground := Ground.phase }], guard := none }) (v := (.bool true)) rfl (by kernel_rfl) (by kernel_rfl) (by kernel_rfl) (by kernel_rfl) (by kernel_rfl) (fun _ _ _ h => h) (BL.cls Wk8) ?_ ?_
      · refine Or.inl ⟨rfl, fun w hSw => ?_⟩
        exact EffR.same (by go_simp)
      try simp only [Act.put, List.setIfInBounds_toArray, List.set_cons_zero, List.set_cons_succ]
      refine wpAnyU_done (by kernel_rfl) (fun w1 hb1 => ?_) _
      have hb := hb1
      clear hb1
      have HRBn := Lib.hid (HRB.out.below hb)
      clear HRB
      have HRB := HRBn
      clear HRBn
      have HRWn := Lib.hid (HRW.out.mono hb)
      clear HRW
      have HRW := HRWn
      clear HRWn
      have HSn := Lib.hid (HS.out.mono hb)
      clear HS
      have HS := HSn
      clear HSn
      have HOn := Lib.hid (HO.out.below hb)
      clear HO
      have HO := HOn
      clear HOn
      have HIBn := Lib.hid (HIB.out.below hb)
      clear HIB
      have HIB := HIBn
      clear HIBn
      have HOTn := Lib.hid (HOT.out.below hb)
      clear HOT
      have HOT := HOTn
      clear HOTn
      have HTBn := Lib.hid (HTB.out.below hb)
      clear HTB
      have HTB := HTBn
      clear HTBn
      have HBn := Lib.hid (bgo HB.out hb HB.out.size)
      clear HB
      have HB := HBn
      clear HBn
      have HRtn := Lib.hid (bgo HRt.out hb HRt.out.size)
      clear HRt
      have HRt := HRtn
      clear HRtn
      clear hb
      have HTBx : Hid (w1.heap[gt]? = some (.cells #[.slice aM3 nM3 cM3, .slice aI3 nI3 cI3, .slice aA3 nA3 cA3] 26 (0, 0))) := HTB.out
      have hFT : few (turnR R) := by have h9 := HFEW.out; unfold few at h9 ⊢; unfold turnR; simpa using h9
      have HFT := Lib.hid hFT
      clear hFT
      go_wp2_with (first
        | (refine wpList_load_row rfl 26 (.tmp 20) rfl gt rfl 26 #[.slice aM3 nM3 cM3, .slice aI3 nI3 cI3, .slice aA3 nA3 cA3] (0, 0) _ HTBx.out Try.underlying26 rfl HSZt.out ?_)
        | fail)
      refine (SpoilRoll_any _ x3.heap.size _ _ _ _ HOT.out HFT.out HRt.out.size).mono ?_
      clear HTBx
      rintro e z1 ⟨rfl, hb⟩
      have HRn := Lib.hid (HRt.out.trans hb)
      clear HRt HB HRB HRW HS HO HIB HOT HTB
      have HRB := Lib.hid (HRB_t.out.below HRn.out)
      have HRW := Lib.hid (HRW_t.out.mono HRn.out)
      have HS := Lib.hid (HS_t.out.mono HRn.out)
      have HO := Lib.hid (HO_t.out.below HRn.out)
      have HIB := Lib.hid (HIB_t.out.below HRn.out)
      have HB := Lib.hid (HB_t.out.trans (HRn.out.mono HB_t.out.size))
      clear HRn HB_t HRB_t HRW_t HS_t HO_t HIB_t
      clear hb
      have HRB_l := HRB
      have HRW_l := HRW
      have HS_l := HS
      have HO_l := HO
      have HIB_l := HIB
      have HB_l := HB
      have HRl : Hid (Below z1.heap.size z1 z1) := Below.refl _ _
      have HIBx : Hid (z1.heap[gn]? = some (.cells #[.slice aM nM cM, .slice aI nI cI, .slice aA nA cA] 26 (0, 0))) := HIB.out
      go_wp2_with (first
        | (refine wpList_load_row rfl 26 (.tmp 7) rfl gn rfl 26 #[.slice aM nM cM, .slice aI nI cI, .slice aA nA cA] (0, 0) _ HIBx.out Try.underlying26 rfl HSZn.out ?_)
        | fail)
      refine (Those_any _ _ _ _ _ R sts HO.out.in HFEW.out HS.out).mono ?_
      clear HIBx
      rintro e y2 ⟨aL, nL, cL, rfl, ho, hb⟩
      have HOL := Lib.hid ho
      clear ho
      have HRBn := Lib.hid (HRB.out.below hb)
      clear HRB
      have HRB := HRBn
      clear HRBn
      have HRWn := Lib.hid (HRW.out.mono hb)
      clear HRW
      have HRW := HRWn
      clear HRWn
      have HSn := Lib.hid (HS.out.mono hb)
      clear HS
      have HS := HSn
      clear HSn
      have HOn := Lib.hid (HO.out.below hb)
      clear HO
      have HO := HOn
      clear HOn
      have HIBn := Lib.hid (HIB.out.below hb)
      clear HIB
      have HIB := HIBn
      clear HIBn
      have HBn := Lib.hid (bgo HB.out hb HB.out.size)
      clear HB
      have HB := HBn
      clear HBn
      have HRln := Lib.hid (bgo HRl.out hb HRl.out.size)
      clear HRl
      have HRl := HRln
      clear HRln
      clear hb
      have HRBx : Hid (y2.heap[gr]? = some (.cells #[va, vb, vc] 26 (0, 0))) := HRB.out
      go_wp2_with (first
        | (refine wpList_load_row_w (by first | rfl | simp [Region.wanted, yielded]) 26 (.tmp 3) rfl gr rfl 26 #[va, vb, vc] (0, 0) _ HRBx.out Try.underlying26 rfl HSZr.out ?_)
        | fail)
      refine (rThose_any _ _ _ _ _ R sts HRW.out HFEW.out HS.out (by rw [← HMM.out]; omega)).mono ?_
      clear HRBx
      rintro e y3 ⟨aN, nN, cN, rfl, ho, hb⟩
      have HON := Lib.hid ho
      clear ho
      have HRBn := Lib.hid (HRB.out.below hb)
      clear HRB
      have HRB := HRBn
      clear HRBn
      have HRWn := Lib.hid (HRW.out.mono hb)
      clear HRW
      have HRW := HRWn
      clear HRWn
      have HSn := Lib.hid (HS.out.mono hb)
      clear HS
      have HS := HSn
      clear HSn
      have HOn := Lib.hid (HO.out.below hb)
      clear HO
      have HO := HOn
      clear HOn
      have HIBn := Lib.hid (HIB.out.below hb)
      clear HIB
      have HIB := HIBn
      clear HIBn
      have HOLn := Lib.hid (HOL.out.below hb)
      clear HOL
      have HOL := HOLn
      clear HOLn
      have HBn := Lib.hid (bgo HB.out hb HB.out.size)
      clear HB
      have HB := HBn
      clear HBn
      have HRln := Lib.hid (bgo HRl.out hb HRl.out.size)
      clear HRl
      have HRl := HRln
      clear HRln
      clear hb
      go_wp2_with fail
      refine (KInts_same _ _ _ (thoseR R sts) HOL.out.is HON.out.is).mono ?_
      rintro e y4 ⟨rfl, hb⟩
      have HRBn := Lib.hid (HRB.out.below hb)
      clear HRB
      have HRB := HRBn
      clear HRBn
      have HRWn := Lib.hid (HRW.out.mono hb)
      clear HRW
      have HRW := HRWn
      clear HRWn
      have HSn := Lib.hid (HS.out.mono hb)
      clear HS
      have HS := HSn
      clear HSn
      have HOn := Lib.hid (HO.out.below hb)
      clear HO
      have HO := HOn
      clear HOn
      have HIBn := Lib.hid (HIB.out.below hb)
      clear HIB
      have HIB := HIBn
      clear HIBn
      have HOLn := Lib.hid (HOL.out.below hb)
      clear HOL
      have HOL := HOLn
      clear HOLn
      have HONn := Lib.hid (HON.out.below hb)
      clear HON
      have HON := HONn
      clear HONn
      have HBn := Lib.hid (bgo HB.out hb HB.out.size)
      clear HB
      have HB := HBn
      clear HBn
      have HRln := Lib.hid (bgo HRl.out hb HRl.out.size)
      clear HRl
      have HRl := HRln
      clear HRln
      clear hb
      have hle : (thoseR R sts).length ≤ 100000 := by have h9 := HFEW.out; unfold few at h9; have := List.length_filter_le (fun m : MbT => inB sts m.state) R.M; unfold thoseR; rw [List.length_map]; omega
      go_wp2_with fail
      refine (Spoil_any _ z1.heap.size _ _ HOL.out hle HRl.out.size).mono ?_
      rintro e z2 ⟨rfl, hb⟩
      have HRn := Lib.hid (HRl.out.trans hb)
      clear HRl HB HRB HRW HS HO HIB HOL HON
      have HRB := Lib.hid (HRB_l.out.below HRn.out)
      have HRW := Lib.hid (HRW_l.out.mono HRn.out)
      have HS := Lib.hid (HS_l.out.mono HRn.out)
      have HO := Lib.hid (HO_l.out.below HRn.out)
      have HIB := Lib.hid (HIB_l.out.below HRn.out)
      have HB := Lib.hid (HB_l.out.trans (HRn.out.mono HB_l.out.size))
      clear HRn HB_l HRB_l HRW_l HS_l HO_l HIB_l
      clear hb hle
      have HIBx : Hid (z2.heap[gn]? = some (.cells #[.slice aM nM cM, .slice aI nI cI, .slice aA nA cA] 26 (0, 0))) := HIB.out
      have HRBx : Hid (z2.heap[gr]? = some (.cells #[va, vb, vc] 26 (0, 0))) := HRB.out
      go_wp2_with (first
        | (refine wpList_load_row_w (by first | rfl | simp [Region.wanted, yielded]) 26 (.tmp 7) rfl gn rfl 26 #[.slice aM nM cM, .slice aI nI cI, .slice aA nA cA] (0, 0) _ HIBx.out Try.underlying26 rfl HSZn.out ?_)
        | (refine wpList_load_row_w (by first | rfl | simp [Region.wanted, yielded]) 26 (.tmp 3) rfl gr rfl 26 #[va, vb, vc] (0, 0) _ HRBx.out Try.underlying26 rfl HSZr.out ?_)
        | fail)
      refine (KRoll_same _ _ _ _ _ _ _ R.M R.I R.A HO.out.in.1 HRW.out.1 HO.out.in.2.1 HRW.out.2.1 HO.out.in.2.2 HRW.out.2.2).mono ?_
      clear HIBx HRBx
      rintro e z3 ⟨rfl, hb⟩
      have HRBn := Lib.hid (HRB.out.below hb)
      clear HRB
      have HRB := HRBn
      clear HRBn
      have HRWn := Lib.hid (HRW.out.mono hb)
      clear HRW
      have HRW := HRWn
      clear HRWn
      have HSn := Lib.hid (HS.out.mono hb)
      clear HS
      have HS := HSn
      clear HSn
      have HOn := Lib.hid (HO.out.below hb)
      clear HO
      have HO := HOn
      clear HOn
      have HIBn := Lib.hid (HIB.out.below hb)
      clear HIB
      have HIB := HIBn
      clear HIBn
      have HBn := Lib.hid (bgo HB.out hb HB.out.size)
      clear HB
      have HB := HBn
      clear HBn
      clear hb
      go_wp2_with fail
      refine (wakes11_any z3).mono ?_
      rintro e wz ⟨rfl, hb⟩
      go_wp2_with fail
      go_ret
      exact ⟨rfl, bgo HB.out hb HB.out.size⟩

end Cam
