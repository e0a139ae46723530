import Derived.Test.YtilbijekmmkiaaaRlW
/- the page: Turn. -/
namespace Cam
open Go Go.RowKit Go.Proofs

set_option maxRecDepth 100000 in
set_option maxHeartbeats 1600000 in
theorem rTurn_any (w : World) (va vb vc : Value) (R : RollT) (h : RollIn w va vb vc R) (hf : few R) :
    Calls Try.prog 24 #[.agg #[va, vb, vc]] w (RollPost w (turnR R)) := by
  have hb0 : Below w.heap.size w ((w.alloc (.cells #[va, vb, vc] 26)).alloc (.cells #[.slice none 0 0, .slice none 0 0, .slice none 0 0] 26)) := ((Below.refl _ _).alloc (Nat.le_refl _) _).alloc (by simp) _
  have hg0 : HT ((w.alloc (.cells #[va, vb, vc] 26)).alloc (.cells #[.slice none 0 0, .slice none 0 0, .slice none 0 0] 26)) w.heap.size 26 [va, vb, vc] := (HT.new (w := w) (t := 26) (C := [va, vb, vc])).below ((Below.refl _ _).alloc (Nat.le_refl _) _)
  have hg1 : HT ((w.alloc (.cells #[va, vb, vc] 26)).alloc (.cells #[.slice none 0 0, .slice none 0 0, .slice none 0 0] 26)) (w.heap.size + 1) 26 [.slice none 0 0, .slice none 0 0, .slice none 0 0] := by
    have := HT.new (w := w.alloc (.cells #[va, vb, vc] 26)) (t := 26) (C := [.slice none 0 0, .slice none 0 0, .slice none 0 0])
    rwa [show (w.alloc (.cells #[va, vb, vc] 26)).heap.size = w.heap.size + 1 by simp] at this
  have hsw : ((w.alloc (.cells #[va, vb, vc] 26)).alloc (.cells #[.slice none 0 0, .slice none 0 0, .slice none 0 0] 26)).heap.size = w.heap.size + 2 := by simp
  have HR := Lib.hid h
  have HFEW := Lib.hid hf
  have HB := Lib.hid hb0
  have HR0 := Lib.hid hg0
  have HZ0 := Lib.hid hg1
  have HSW := Lib.hid hsw
  clear h hf hb0 hg0 hg1 hsw
  go_enter Try.func24, Try.ntmps24
  go_upto_region 1 with fail
  generalize hW : ((w.alloc (.cells #[va, vb, vc] 26)).alloc (.cells #[.slice none 0 0, .slice none 0 0, .slice none 0 0] 26)) = W0 at *
  clear hW
  have HSZr : Hid ((Try.prog.info? 26).map (·.size) = some (#[va, vb, vc] : Array Value).size) := by show _ = _; rw [rol_sz]; rfl
  have HR0x : Hid (W0.heap[w.heap.size]? = some (.cells #[va, vb, vc] 26 (0, 0))) := HR0.out
  have tw := TwinRoll_any W0 va vb vc R (HR.out.mono HB.out) HFEW.out
  go_wp2_with (first
    | (refine wpList_load_row rfl 26 (.tmp 1) rfl w.heap.size rfl 26 #[va, vb, vc] (0, 0) _ HR0x.out Try.underlying26 rfl HSZr.out ?_)
    | fail)
  (with_reducible refine tw.mono ?_)
  clear tw HR0x
  rintro e wt ⟨aM, nM, cM, aI, n, cI, aA, nA, cA, rfl, ho, hap, hb⟩
  have HAP := Lib.hid hap
  obtain ⟨a9, c9, e9, _⟩ := ho.2.1.rs.shape
  simp only [Value.slice.injEq] at e9
  obtain ⟨h1, hn, h2⟩ := e9
  clear h1 h2
  have HN := Lib.hid hn
  clear hn
  have hZ1 := HZ0.out.below hb
  have hB1 : Below w.heap.size w wt := bgo HB.out hb HB.out.size
  have HOt := Lib.hid (ho.base (base' := w.heap.size + 2) (by have := HSW.out; omega))
  have HZ1 := Lib.hid hZ1
  have HB1 := Lib.hid hB1
  clear ho hap hb hZ1 hB1 HR0 HZ0 HB
  have HSZb : Hid ((Try.prog.info? 26).map (·.size) = some (#[.slice aM nM cM, .slice aI n cI, .slice aA nA cA] : Array Value).size) := by show _ = _; rw [rol_sz]; rfl
  have HONb : Hid ((#[.slice aM nM cM, .slice aI n cI, .slice aA nA cA] : Array Value).all (·.oneCell') = true) := by show _ = true; simp [Value.oneCell']
  go_upto_region 2 with (first
    | (refine wpList_store_row rfl 26 (.tmp 3) (.tmp 6) rfl wt.heap.size #[.slice aM nM cM, .slice aI n cI, .slice aA nA cA] rfl rfl 26 #[.slice none 0 0, .slice none 0 0, .slice none 0 0] (heap_alloc_new _ _) HSZb.out rfl HONb.out ?_)
    | fail)
  have hbsb : Below wt.heap.size wt ((wt.alloc (.cells #[.slice none 0 0, .slice none 0 0, .slice none 0 0] 26)).setRow wt.heap.size #[.slice aM nM cM, .slice aI n cI, .slice aA nA cA]) := ((Below.refl _ _).alloc (Nat.le_refl _) _).trans (setRow_below (Nat.le_refl _) _)
  have hxb : HT ((wt.alloc (.cells #[.slice none 0 0, .slice none 0 0, .slice none 0 0] 26)).setRow wt.heap.size #[.slice aM nM cM, .slice aI n cI, .slice aA nA cA]) wt.heap.size 26 [.slice aM nM cM, .slice aI n cI, .slice aA nA cA] := setRow_heap _ _ _ _ _ _ (heap_alloc_new _ _)
  have hbwb := bgo HB1.out hbsb (Below.size HB1.out)
  obtain ⟨wu, hWb⟩ : ∃ zz, zz = ((wt.alloc (.cells #[.slice none 0 0, .slice none 0 0, .slice none 0 0] 26)).setRow wt.heap.size #[.slice aM nM cM, .slice aI n cI, .slice aA nA cA]) := ⟨_, rfl⟩
  rw [← hWb] at hbsb hxb hbwb ⊢
  obtain ⟨gxb, hgb⟩ : ∃ zz, zz = wt.heap.size := ⟨_, rfl⟩
  rw [← hgb] at hxb ⊢
  have HGEb : Hid (∀ m, m ≤ wt.heap.size → m ≤ gxb) := fun m h => by omega
  have HXb := Lib.hid hxb
  have HBWb := Lib.hid hbwb
  have HBSb := Lib.hid hbsb
  clear hWb hxb hbwb hbsb hgb HONb
  obtain ⟨g0, hg0⟩ : ∃ z, z = gxb := ⟨_, rfl⟩
  rw [← hg0] at HXb HGEb ⊢
  obtain ⟨gz, hgz⟩ : ∃ z, z = w.heap.size + 1 := ⟨_, rfl⟩
  have HGZ : Hid (w.heap.size ≤ gz) := by show _ ≤ _; omega
  have HRB := HXb
  have HZB : Hid (HT wu gz 26 [.slice none 0 0, .slice none 0 0, .slice none 0 0]) := by have h9 := HZ1.out.below HBSb.out; rwa [← hgz] at h9
  have HO := Lib.hid ((HOt.out.below HBSb.out).base (base' := w.heap.size) (by omega))
  have HB := HBWb
  have HOFF : Hid (∀ g, ((Value.slice aM nM cM).ownBlock = some g ∨ (Value.slice aI n cI).ownBlock = some g ∨ (Value.slice aA nA cA).ownBlock = some g) → g ≠ g0 ∧ g ≠ gz ∧ w.heap.size ≤ g) := by
    intro g hg
    have hs : w.heap.size + 2 ≤ g ∧ g < wt.heap.size := by
      rcases hg with hg | hg | hg
      · exact ⟨OwnR.ge HOt.out.1 g hg, OwnR.lt HOt.out.1 g hg⟩
      · exact ⟨OwnR.ge HOt.out.2.1 g hg, OwnR.lt HOt.out.2.1 g hg⟩
      · exact ⟨OwnR.ge HOt.out.2.2 g hg, OwnR.lt HOt.out.2.2 g hg⟩
    have := HGEb.out (g + 1) hs.2
    omega
  clear HXb HBWb HGEb HBSb HZ1 HB1 HOt HSZb
  rw [show (w.heap.size + 1) = gz from hgz.symm]
  clear hg0 hgz
  have hcr := HRB.out.cell (j := 1) rfl
  go_wp2_with fail
  clear hcr
  go_loopw [4] (fun i wr => ∃ k : Nat, k ≤ n ∧ i = .int .i64 k ∧ HT wr g0 26 [.slice aM nM cM, .slice aI n cI, .slice aA nA cA] ∧ HT wr gz 26 [.slice none 0 0, .slice none 0 0, .slice none 0 0] ∧ OwnR MbT.vs 3 33 wr w.heap.size (.slice aM nM cM) R.M ∧ OwnR InT.vs 12 38 wr w.heap.size (.slice aI n cI) (tk R.I k) ∧ OwnR AsT.vs 4 42 wr w.heap.size (.slice aA nA cA) R.A ∧ Below w.heap.size w wr) (fun i _ => n - (intOf i).toNat)
  case atStart => exact ⟨0, Nat.zero_le _, rfl, HRB.out, HZB.out, HO.out.1, HO.out.2.1, HO.out.2.2, HB.out⟩
  case round =>
    obtain ⟨k, hk, rfl, hrb, hzb, hom, hoi, hoa, hbel⟩ := hrel
    have HRB := Lib.hid hrb
    have HZB := Lib.hid hzb
    have HOM := Lib.hid hom
    have HOI := Lib.hid hoi
    have HOA := Lib.hid hoa
    have HBL := Lib.hid hbel
    clear hrb hzb hom hoi hoa hbel
    have hcr := HRB.out.cell (j := 1) rfl
    by_cases hlt : k < n
    · have hkL : k < R.I.length := by have := HN.out; omega
      obtain ⟨c, hc⟩ : ∃ c, c = R.I[k] := ⟨_, rfl⟩
      obtain ⟨ba, rfl, hba, hbs⟩ := HOI.out.some_of (by omega)
      have HKL : Hid (k < (tk R.I k).length) := by show _ < _; rw [tk_len]; exact hkL
      have HCT : Hid (c = (tk R.I k)[k]'HKL.out) := by show _ = _; rw [tk_at hkL]; exact hc
      have HNE : Hid (ba ≠ g0 ∧ ba ≠ gz ∧ w.heap.size ≤ ba) := HOFF.out ba (.inr (.inl rfl))
      have HV4 : Hid ((InT.vs ((tk R.I k)[k]'HKL.out))[4]? = some (.int .i64 c.set)) := by show _ = _; rw [← HCT.out]; rfl
      have HV5 : Hid ((InT.vs ((tk R.I k)[k]'HKL.out))[5]? = some (.int .i64 c.price)) := by show _ = _; rw [← HCT.out]; rfl
      have hk0 : (0 : Int) ≤ k := by omega
      have hk1 : (k : Int) < n := by omega
      have hcs := (OwnR.cellAt HOI.out HKL.out HV4.out).1
      have HC := Lib.hid hc
      clear hc hba hbs
      by_cases h0 : c.set = 0
      · have HNX : Hid (tk R.I (k + 1) = tk R.I k) := tk_same hkL (by rw [← HC.out]; exact h0)
        have h0b : (c.set != 0) = false := by simpa using h0
        clear h0
        go_wp2_with fail
        exact ⟨⟨k + 1, by omega, by push_cast; rfl, HRB.out, HZB.out, HOM.out, by rw [HNX.out]; exact HOI.out, HOA.out, HBL.out⟩, by simp [intOf]; omega⟩
      · have HNX := Lib.hid (tk_next hkL)
        have h0b : (c.set != 0) = true := by simpa using h0
        obtain ⟨c5, hc5⟩ : ∃ z : InT, z = { c with price := c.set } := ⟨_, rfl⟩
        obtain ⟨c6, hc6⟩ : ∃ z : InT, z = { c with price := c.set, set := 0 } := ⟨_, rfl⟩
        have HC5 := Lib.hid hc5
        have HC6 := Lib.hid hc6
        have HCK5 : Hid (InT.vs c5 = (InT.vs ((tk R.I k)[k]'HKL.out)).set 5 (.int .i64 c.set)) := by show _ = _; rw [← HCT.out, hc5]; rfl
        have HC6T : Hid (c6 = turn1 R.I[k]) := by show _ = _; rw [← HC.out, hc6]; unfold turn1; rw [if_neg h0]
        have HCL : Hid (Cls (fun x => x.cell? ⟨g0, 1, none⟩ = some (.slice (some ⟨ba, 0, none⟩) n cI) ∧ x.cell? ⟨ba, k * 12 + 4, none⟩ = some (.int .i64 c.set)) (BL wr)) := ⟨fun x hx => ⟨BL.cell hx (HRB.out.cell (j := 1) rfl), BL.cell hx (OwnR.cellAt HOI.out HKL.out HV4.out).1⟩, fun _ _ h hb => Below.next h hb⟩
        clear h0 hc5 hc6
        go_wp2_with fail
        clear hcr hcs
        refine wp_region_uni (S0 := (fun x => x.cell? ⟨g0, 1, none⟩ = some (.slice (some ⟨ba, 0, none⟩) n cI) ∧ x.cell? ⟨ba, k * 12 + 4, none⟩ = some (.int .i64 c.set))) (S := BL wr) 11 (by kernel_rfl) (Below.refl _ _).drew ?_
        refine wpAnyU_take (i := 0) (oi := { dst := some 21, op := Op.fieldAddr 26 (Operand.tmp 3) 1, type := 0, pos := "ref.go:196", after := #[], guard := none }) (v := (.pointer (some ⟨g0, 1, none⟩))) rfl (by kernel_rfl) (by kernel_rfl) (by kernel_rfl) (by kernel_rfl) (by kernel_rfl) (fun _ _ _ h => h) HCL.out ?_ ?_
        · refine Or.inl ⟨rfl, fun w hSw => ?_⟩
          exact EffR.same (by go_simp)
        try simp only [Act.put, List.setIfInBounds_toArray, List.set_cons_zero, List.set_cons_succ]
        refine wpAnyU_take (i := 1) (oi := { dst := some 22, op := Op.load 23 (Operand.tmp 21), type := 23, pos := "ref.go:196", after := #[{ on := 0, ground := Ground.data }], guard := none }) (v := (.slice (some ⟨ba, 0, none⟩) n cI)) rfl (by kernel_rfl) (by kernel_rfl) (by kernel_rfl) (by kernel_rfl) (by kernel_rfl) (fun _ _ _ h => h) HCL.out ?_ ?_
        · refine Or.inl ⟨rfl, fun w hSw => ?_⟩
          have e0 := hSw.1
          exact EffR.same (by go_simp)
        try simp only [Act.put, List.setIfInBounds_toArray, List.set_cons_zero, List.set_cons_succ]
        refine wpAnyU_take (i := 2) (oi := { dst := some 23, op := Op.move (Operand.tmp 4), type := 3, pos := "ref.go:196", after := #[], guard := none }) (v := (.int .i64 (k : Int))) rfl (by kernel_rfl) (by kernel_rfl) (by kernel_rfl) (by kernel_rfl) (by kernel_rfl) (fun _ _ _ h => h) HCL.out ?_ ?_
        · refine Or.inl ⟨rfl, fun w hSw => ?_⟩
          exact EffR.same (by go_simp)
        try simp only [Act.put, List.setIfInBounds_toArray, List.set_cons_zero, List.set_cons_succ]
        refine wpAnyU_take (i := 3) (oi := { dst := some 24, op := Op.fieldAddr 26 (Operand.tmp 3) 1, type := 0, pos := "ref.go:196", after := #[], guard := none }) (v := (.pointer (some ⟨g0, 1, none⟩))) rfl (by kernel_rfl) (by kernel_rfl) (by kernel_rfl) (by kernel_rfl) (by kernel_rfl) (fun _ _ _ h => h) HCL.out ?_ ?_
        · refine Or.inl ⟨rfl, fun w hSw => ?_⟩
          exact EffR.same (by go_simp)
        try simp only [Act.put, List.setIfInBounds_toArray, List.set_cons_zero, List.set_cons_succ]
        refine wpAnyU_take (i := 4) (oi := { dst := some 25, op := Op.load 23 (Operand.tmp 24), type := 23, pos := "ref.go:196", after := #[{ on := 3, ground := Ground.data }], guard := none }) (v := (.slice (some ⟨ba, 0, none⟩) n cI)) rfl (by kernel_rfl) (by kernel_rfl) (by kernel_rfl) (by kernel_rfl) (by kernel_rfl) (fun _ _ _ h => h) HCL.out ?_ ?_
        · refine Or.inl ⟨rfl, fun w hSw => ?_⟩
          have e0 := hSw.1
          exact EffR.same (by go_simp)
        try simp only [Act.put, List.setIfInBounds_toArray, List.set_cons_zero, List.set_cons_succ]
        refine wpAnyU_take (i := 5) (oi := { dst := some 26, op := Op.move (Operand.tmp 4), type := 3, pos := "ref.go:196", after := #[], guard := none }) (v := (.int .i64 (k : Int))) rfl (by kernel_rfl) (by kernel_rfl) (by kernel_rfl) (by kernel_rfl) (by kernel_rfl) (fun _ _ _ h => h) HCL.out ?_ ?_
        · refine Or.inl ⟨rfl, fun w hSw => ?_⟩
          exact EffR.same (by go_simp)
        try simp only [Act.put, List.setIfInBounds_toArray, List.set_cons_zero, List.set_cons_succ]
        refine wpAnyU_take (i := 6) (oi := { dst := some 27, op := Op.indexAddr 23 (Operand.tmp 25) (Operand.tmp 26), type := 0, pos := "ref.go:196", after := #[{ on := 4, ground := Ground.data }, { on := 5, ground := Ground.data }], guard := none }) (v := (.pointer (some ⟨ba, k * 12, none⟩))) rfl (by kernel_rfl) (by kernel_rfl) (by kernel_rfl) (by kernel_rfl) (by kernel_rfl) (fun _ _ _ h => h) HCL.out ?_ ?_
        · refine Or.inl ⟨rfl, fun w hSw => ?_⟩
          exact EffR.same (by go_simp)
        try simp only [Act.put, List.setIfInBounds_toArray, List.set_cons_zero, List.set_cons_succ]
        refine wpAnyU_take (i := 7) (oi := { dst := some 28, op := Op.fieldAddr 38 (Operand.tmp 27) 4, type := 0, pos := "ref.go:196", after := #[{ on := 6, ground := Ground.data }], guard := none }) (v := (.pointer (some ⟨ba, k * 12 + 4, none⟩))) rfl (by kernel_rfl) (by kernel_rfl) (by kernel_rfl) (by kernel_rfl) (by kernel_rfl) (fun _ _ _ h => h) HCL.out ?_ ?_
        · refine Or.inl ⟨rfl, fun w hSw => ?_⟩
          exact EffR.same (by go_simp)
        try simp only [Act.put, List.setIfInBounds_toArray, List.set_cons_zero, List.set_cons_succ]
        refine wpAnyU_take (i := 8) (oi := { dst := some 29, op := Op.load 3 (Operand.tmp 28), type := 3, pos := "ref.go:196", after := #[{ on := 7, ground := Ground.data }], guard := none }) (v := (.int .i64 c.set)) rfl (by kernel_rfl) (by kernel_rfl) (by kernel_rfl) (by kernel_rfl) (by kernel_rfl) (fun _ _ _ h => h) HCL.out ?_ ?_
        · refine Or.inl ⟨rfl, fun w hSw => ?_⟩
          have e0 := hSw.2
          exact EffR.same (by go_simp)
        try simp only [Act.put, List.setIfInBounds_toArray, List.set_cons_zero, List.set_cons_succ]
        refine wpAnyU_take (i := 9) (oi := { dst := some 30, op := Op.indexAddr 23 (Operand.tmp 22) (Operand.tmp 23), type := 0, pos := "ref.go:196", after := #[{ on := 1, ground := Ground.data }, { on := 2, ground := Ground.data }, { on := 0, ground := Ground.phase }, { on := 1, ground := Ground.phase }, { on := 2, ground := Ground.phase }, { on := 3, ground := Ground.phase }, { on := 4, ground := Ground.phase }, { on := 5, ground := Ground.phase }, { on := 6, ground := Ground.phase }, { on := 7, ground := Ground.phase }, { on := 8, ground := Ground.phase }], guard := none }) (v := (.pointer (some ⟨ba, k * 12, none⟩))) rfl (by kernel_rfl) (by kernel_rfl) (by kernel_rfl) (by kernel_rfl) (by kernel_rfl) (fun _ _ _ h => h) HCL.out ?_ ?_
        · refine Or.inl ⟨rfl, fun w hSw => ?_⟩
          exact EffR.same (by go_simp)
        try simp only [Act.put, List.setIfInBounds_toArray, List.set_cons_zero, List.set_cons_succ]
        refine wpAnyU_take (i := 10) (oi := { dst := some 31, op := Op.fieldAddr 38 (Operand.tmp 30) 5, type := 0, pos := "ref.go:196", after := #[{ on := 9, ground := Ground.data }, { on := 0, ground := Ground.phase }, { on := 1, ground := Ground.phase }, { on := 2, ground := Ground.phase }, { on := 3, ground := Ground.phase }, { on := 4, ground := Ground.phase }, { on := 5, ground := Ground.phase }, { on := 6, ground := Ground.phase }, { on := 7, ground := Ground.phase }, { on := 8, ground := Ground.phase }], guard := none }) (v := (.pointer (some ⟨ba, k * 12 + 5, none⟩))) rfl (by kernel_rfl) (by kernel_rfl) (by kernel_rfl) (by kernel_rfl) (by kernel_rfl) (fun _ _ _ h => h) HCL.out ?_ ?_
        · refine Or.inl ⟨rfl, fun w hSw => ?_⟩
          exact EffR.same (by go_simp)
        try simp only [Act.put, List.setIfInBounds_toArray, List.set_cons_zero, List.set_cons_succ]
        refine wpAnyU_last (o := { dst := none, op := Op.store 3 (Operand.tmp 31) (Operand.tmp 29), type := 0, pos := "ref.go:196", after := #[{ on := 10, ground := Ground.data }, { on := 8, ground := Ground.data }, { on := 0, ground := Ground.phase }, { on := 1, ground := Ground.phase }, { on := 2, ground := Ground.phase }, { on := 3, ground := Ground.phase }, { on := 4, ground := Ground.phase }, { on := 5, ground := Ground.phase }, { on := 6, ground := Ground.phase }, { on := 7, ground := Ground.phase }, { on := 8, ground := Ground.phase }], guard := none }) (by kernel_rfl) (by kernel_rfl) rfl (fun w1 hb1 K hK => ?_)
        have hcz := OwnR.cellAt (HOI.out.below hb1) HKL.out HV5.out
        obtain ⟨hc5, hf5⟩ := hcz
        have ho1 := OwnR.put1 (HOI.out.below hb1) HKL.out (j := 5) (by decide) (.int .i64 c.set) c5 HCK5.out
        have HO8 := Lib.hid ho1
        clear ho1
        go_simp
        have hk8 : Kept (fun k => k = ba) wr (w1.setCell ⟨ba, k * 12 + 5, none⟩ (.int .i64 c.set)) := ((Kept.of_below hb1).weaken (fun _ h => h.elim)).setCell ⟨ba, k * 12 + 5, none⟩ _ rfl
        have HK8 := Lib.hid hk8
        have HRB8 := Lib.hid (HRB.out.keptS hk8 (fun (e : g0 = ba) => HNE.out.1 e.symm))
        obtain ⟨w8, hw8⟩ : ∃ zz, zz = w1.setCell ⟨ba, k * 12 + 5, none⟩ (.int .i64 c.set) := ⟨_, rfl⟩
        rw [← hw8] at HO8 HRB8 HK8 ⊢
        clear hk8 hw8 hb1
        refine hK.out _ _ ?_
        clear hK K
        try simp only [Act.put]
        have hl2 : k < ((tk R.I k).set k c5).length := by rw [List.length_set]; exact HKL.out
        have e5 : ((tk R.I k).set k c5)[k] = c5 := by simp
        have hcz := OwnR.cellAt HO8.out hl2 (j := 4) (v := .int .i64 c.set) (by rw [e5, HC5.out]; rfl)
        obtain ⟨hc4, hf4⟩ := hcz
        have hcr8 := HRB8.out.cell (j := 1) rfl
        have ho3 := OwnR.put1 HO8.out hl2 (j := 4) (by decide) (.int .i64 0) c6 (by rw [e5, HC5.out, HC6.out]; rfl)
        rw [List.set_set] at ho3
        have HO9 := Lib.hid ho3
        clear ho3 e5
        have hk9 : Kept (fun k => k = ba) wr (w8.setCell ⟨ba, k * 12 + 4, none⟩ (.int .i64 0)) := HK8.out.setCell ⟨ba, k * 12 + 4, none⟩ _ rfl
        have HRB9 := Lib.hid (HRB.out.keptS hk9 (fun (e : g0 = ba) => HNE.out.1 e.symm))
        have HZB9 := Lib.hid (HZB.out.keptS hk9 (fun (e : gz = ba) => HNE.out.2.1 e.symm))
        have HOM9 := Lib.hid (OwnR.keptS HOM.out hk9 (fun g h (e : g = ba) => HAP.out.1 g h (by rw [e]; rfl)))
        have HOA9 := Lib.hid (OwnR.keptS HOA.out hk9 (fun g h (e : g = ba) => HAP.out.2.2 g (by rw [e]; rfl) h))
        have HBL9 : Hid (Below w.heap.size w (w8.setCell ⟨ba, k * 12 + 4, none⟩ (.int .i64 0))) := HBL.out.trans (hk9.below (fun q hq (e : q = ba) => by have := HNE.out.2.2; omega) HBL.out.size)
        clear hk9
        go_wp2_with fail
        exact ⟨⟨k + 1, by omega, by push_cast; rfl, HRB9.out, HZB9.out, HOM9.out, by rw [HNX.out, ← HC6T.out]; exact HO9.out, HOA9.out, HBL9.out⟩, by simp [intOf]; omega⟩
    · obtain rfl : k = n := by omega
      have HX : Hid (wr.heap[g0]? = some (.cells #[.slice aM nM cM, .slice aI k cI, .slice aA nA cA] 26 (0, 0))) := HRB.out
      have HZ : Hid (wr.heap[gz]? = some (.cells #[.slice none 0 0, .slice none 0 0, .slice none 0 0] 26 (0, 0))) := HZB.out
      have HTK : Hid (tk R.I k = R.I.map turn1) := by show _ = _; have e := HN.out; rw [show k = R.I.length from e]; exact tk_all _
      have HSZ : Hid ((Try.prog.info? 26).map (·.size) = some (#[.slice aM nM cM, .slice aI k cI, .slice aA nA cA] : Array Value).size) := by show _ = _; rw [rol_sz]; rfl
      have HON : Hid ((#[.slice aM nM cM, .slice aI k cI, .slice aA nA cA] : Array Value).all (·.oneCell') = true) := by show _ = true; simp [Value.oneCell']
      go_wp2_with (first
        | (refine wpList_load_row rfl 26 (.tmp 3) rfl g0 rfl 26 #[.slice aM nM cM, .slice aI k cI, .slice aA nA cA] (0, 0) _ HX.out Try.underlying26 rfl HSZ.out ?_)
        | (refine wpList_store_row rfl 26 (.tmp 2) (.tmp 37) rfl gz #[.slice aM nM cM, .slice aI k cI, .slice aA nA cA] rfl rfl 26 #[.slice none 0 0, .slice none 0 0, .slice none 0 0] HZ.out HSZ.out rfl HON.out ?_)
        | fail)
      have hk9 := setRow_kept wr gz #[.slice aM nM cM, .slice aI k cI, .slice aA nA cA]
      refine bodyPost_ret (results_ht1 rfl (HT.row HZ.out rfl) rfl Try.underlying26 rfl rol_sz) rfl ?_
      have hI := HOI.out
      rw [HTK.out] at hI
      exact ⟨_, _, _, _, _, _, _, _, _, rfl, ⟨OwnR.keptS HOM.out hk9 (fun j h1 (e : j = gz) => (HOFF.out j (.inl h1)).2.1 e), OwnR.keptS hI hk9 (fun j h1 (e : j = gz) => (HOFF.out j (.inr (.inl h1))).2.1 e), OwnR.keptS HOA.out hk9 (fun j h1 (e : j = gz) => (HOFF.out j (.inr (.inr h1))).2.1 e)⟩, HAP.out, HBL.out.trans (setRow_below HGZ.out _)⟩
end Cam
