import Derived.Test.YtgeclnjkkjmbaaaWrY
/- cambistkeep: Dues, Falls. -/
namespace Cam
open Go Go.RowKit Go.Proofs

theorem bgoS {w wr w1 : World} (h : Below w.heap.size w wr) (h2 : BL wr w1) : Below w.heap.size w w1 := h.trans (h2.mono h.size)

theorem DT.ints_inj {a b : DT} : a.ints = b.ints ↔ a = b := by
  cases a
  cases b
  simp [DT.ints]
set_option maxRecDepth 100000 in
set_option maxHeartbeats 3200000 in
theorem KDues_any (w : World) (va vb : Value) (la lb : List DT) (ha : Rs DT.vs 3 w va la) (hb : Rs DT.vs 3 w vb lb) :
    Calls Try.prog 38 #[va, vb] w fun e w' => e = .returned (.bool (decide (la = lb))) ∧ Below w.heap.size w w' := by
  obtain ⟨aa, capa, rfl, hcapa, hma⟩ := ha.shape
  obtain ⟨ab, capb, rfl, hcapb, hmb⟩ := hb.shape
  by_cases hl : la.length = lb.length
  · have hl' : ((la.length : Int) != (lb.length : Int)) = false := by rw [hl]; simp
    have Hl := Lib.hid hl
    have HSZ : Hid ((Try.prog.info? 127).map (·.size) = some 3) := by show _ = _; kernel_rfl
    clear hl
    go_enter Try.func38, Try.ntmps38
    go_wp2_with fail
    go_loopw [5] (fun i wr => ∃ k : Nat, k ≤ la.length ∧ i = .int .i64 k ∧ Hid (la.take k = lb.take k) ∧ Below w.heap.size w wr) (fun i _ => la.length - (intOf i).toNat)
    case atStart => exact ⟨0, Nat.zero_le _, rfl, rfl, Below.refl _ _⟩
    case round =>
      obtain ⟨k, hk, rfl, Heq, hbel⟩ := hrel
      have HBL := Lib.hid hbel
      by_cases hlt : k < la.length
      · have hlt2 : k < lb.length := by rw [← Hl.out]; exact hlt
        obtain ⟨ba, offa, rfl, _, hca⟩ := (ha.mono hbel).at (by omega) (by decide)
        obtain ⟨bb, offb, rfl, _, hcb⟩ := (hb.mono hbel).at (by omega) (by decide)
        have HCA : Hid (∀ j v, [.int .i64 la[k].who, .int .i64 la[k].cur, .int .i64 la[k].amt][j]? = some v → wr.cell? ⟨ba, offa + k * 3 + j, none⟩ = some v) := fun j v h => hca k hlt j v h
        have HCB : Hid (∀ j v, [.int .i64 lb[k].who, .int .i64 lb[k].cur, .int .i64 lb[k].amt][j]? = some v → wr.cell? ⟨bb, offb + k * 3 + j, none⟩ = some v) := fun j v h => hcb k hlt2 j v h
        have hk0 : (0 : Int) ≤ k := by omega
        have hk1 : (k : Int) < la.length := by omega
        have hk2 : (k : Int) < lb.length := by omega
        clear hca hcb hbel
        go_wp2_with fail
        by_cases hne : la[k] = lb[k]
        · have HNE : Hid (decide ([la[k].who, la[k].cur, la[k].amt] = [lb[k].who, lb[k].cur, lb[k].amt]) = true) := by show _ = true; rw [decide_eq_true_iff]; exact DT.ints_inj.2 hne
          have HNX : Hid (la.take (k + 1) = lb.take (k + 1)) := by show _ = _; rw [List.take_succ_eq_append_getElem hlt, List.take_succ_eq_append_getElem hlt2, Heq.out, hne]
          clear hne
          refine wp_region_bl 10 (by kernel_rfl) ?_
          refine wpAnyU_take (i := 0) (oi := { dst := some 17, op := Op.move (Operand.tmp 0), type := 38, pos := "keep.go:90", after := #[], guard := none }) (v := (.slice (some ⟨ba, offa, none⟩) la.length capa)) rfl (by kernel_rfl) (by kernel_rfl) (by kernel_rfl) (by kernel_rfl) (by kernel_rfl) (fun _ _ _ h => h) (BL.cls wr) ?_ ?_
          · refine Or.inl ⟨rfl, fun w hSw => ?_⟩
            exact EffR.same (by go_simp)
          try simp only [Act.put, List.setIfInBounds_toArray, List.set_cons_zero, List.set_cons_succ]
          refine wpAnyU_take (i := 1) (oi := { dst := some 18, op := Op.move (Operand.tmp 5), type := 3, pos := "keep.go:90", after := #[], guard := none }) (v := (.int .i64 (k : Int))) rfl (by kernel_rfl) (by kernel_rfl) (by kernel_rfl) (by kernel_rfl) (by kernel_rfl) (fun _ _ _ h => h) (BL.cls wr) ?_ ?_
          · refine Or.inl ⟨rfl, fun w hSw => ?_⟩
            exact EffR.same (by go_simp)
          try simp only [Act.put, List.setIfInBounds_toArray, List.set_cons_zero, List.set_cons_succ]
          refine wpAnyU_take (i := 2) (oi := { dst := some 19, op := Op.indexAddr 38 (Operand.tmp 17) (Operand.tmp 18), type := 0, pos := "keep.go:90", after := #[{ on := 0, ground := Ground.data }, { on := 1, ground := Ground.data }], guard := none }) (v := (.pointer (some ⟨ba, offa + k * 3, none⟩))) rfl (by kernel_rfl) (by kernel_rfl) (by kernel_rfl) (by kernel_rfl) (by kernel_rfl) (fun _ _ _ h => h) (BL.cls wr) ?_ ?_
          · refine Or.inl ⟨rfl, fun w hSw => ?_⟩
            exact EffR.same (by go_simp)
          try simp only [Act.put, List.setIfInBounds_toArray, List.set_cons_zero, List.set_cons_succ]
          refine wpAnyU_take (i := 3) (oi := { dst := some 20, op := Op.load 127 (Operand.tmp 19), type := 127, pos := "keep.go:90", after := #[{ on := 2, ground := Ground.data }], guard := none }) (v := (.agg #[.int .i64 la[k].who, .int .i64 la[k].cur, .int .i64 la[k].amt])) rfl (by kernel_rfl) (by kernel_rfl) (by kernel_rfl) (by kernel_rfl) (by kernel_rfl) (fun _ _ _ h => h) (BL.cls wr) ?_ ?_
          · refine Or.inl ⟨rfl, fun w hSw => ?_⟩
            exact eff_load_mid 127 (.tmp 19) rfl ba (offa + k * 3) rfl [.int .i64 la[k].who, .int .i64 la[k].cur, .int .i64 la[k].amt] _ (fun j v h => BL.cell hSw (HCA.out j v h)) Try.underlying127 rfl HSZ.out
          try simp only [Act.put, List.setIfInBounds_toArray, List.set_cons_zero, List.set_cons_succ]
          refine wpAnyU_take (i := 4) (oi := { dst := some 21, op := Op.move (Operand.tmp 1), type := 38, pos := "keep.go:90", after := #[], guard := none }) (v := (.slice (some ⟨bb, offb, none⟩) lb.length capb)) rfl (by kernel_rfl) (by kernel_rfl) (by kernel_rfl) (by kernel_rfl) (by kernel_rfl) (fun _ _ _ h => h) (BL.cls wr) ?_ ?_
          · refine Or.inl ⟨rfl, fun w hSw => ?_⟩
            exact EffR.same (by go_simp)
          try simp only [Act.put, List.setIfInBounds_toArray, List.set_cons_zero, List.set_cons_succ]
          refine wpAnyU_take (i := 5) (oi := { dst := some 22, op := Op.move (Operand.tmp 5), type := 3, pos := "keep.go:90", after := #[], guard := none }) (v := (.int .i64 (k : Int))) rfl (by kernel_rfl) (by kernel_rfl) (by kernel_rfl) (by kernel_rfl) (by kernel_rfl) (fun _ _ _ h => h) (BL.cls wr) ?_ ?_
          · refine Or.inl ⟨rfl, fun w hSw => ?_⟩
            exact EffR.same (by go_simp)
          try simp only [Act.put, List.setIfInBounds_toArray, List.set_cons_zero, List.set_cons_succ]
          refine wpAnyU_take (i := 6) (oi := { dst := some 23, op := Op.indexAddr 38 (Operand.tmp 21) (Operand.tmp 22), type := 0, pos := "keep.go:90", after := #[{ on := 4, ground := Ground.data }, { on := 5, ground := Ground.data }], guard := none }) (v := (.pointer (some ⟨bb, offb + k * 3, none⟩))) rfl (by kernel_rfl) (by kernel_rfl) (by kernel_rfl) (by kernel_rfl) (by kernel_rfl) (fun _ _ _ h => h) (BL.cls wr) ?_ ?_
          · refine Or.inl ⟨rfl, fun w hSw => ?_⟩
            exact EffR.same (by go_simp)
          try simp only [Act.put, List.setIfInBounds_toArray, List.set_cons_zero, List.set_cons_succ]
          refine wpAnyU_take (i := 7) (oi := { dst := some 24, op := Op.load 127 (Operand.tmp 23), type := 127, pos := "keep.go:90", after := #[{ on := 6, ground := Ground.data }], guard := none }) (v := (.agg #[.int .i64 lb[k].who, .int .i64 lb[k].cur, .int .i64 lb[k].amt])) rfl (by kernel_rfl) (by kernel_rfl) (by kernel_rfl) (by kernel_rfl) (by kernel_rfl) (fun _ _ _ h => h) (BL.cls wr) ?_ ?_
          · refine Or.inl ⟨rfl, fun w hSw => ?_⟩
            exact eff_load_mid 127 (.tmp 23) rfl bb (offb + k * 3) rfl [.int .i64 lb[k].who, .int .i64 lb[k].cur, .int .i64 lb[k].amt] _ (fun j v h => BL.cell hSw (HCB.out j v h)) Try.underlying127 rfl HSZ.out
          try simp only [Act.put, List.setIfInBounds_toArray, List.set_cons_zero, List.set_cons_succ]
          refine wpAnyU_take (i := 8) (oi := { dst := some 25, op := Op.call { callee := Callee.value (Operand.func 59), args := #[Operand.tmp 20, Operand.tmp 24], argTypes := #[127, 127] }, type := 4, pos := "keep.go:90", after := #[{ on := 3, ground := Ground.data }, { on := 7, ground := Ground.data }], guard := none }) (v := (.bool true)) rfl (by kernel_rfl) (by kernel_rfl) (by kernel_rfl) (by kernel_rfl) (by kernel_rfl) (fun _ _ _ h => h) (BL.cls wr) ?_ ?_
          · refine Or.inl ⟨rfl, fun w hSw => ?_⟩
            go_simp
            show Calls _ _ _ _ _
            refine (KDue_any _ la[k].who la[k].cur la[k].amt lb[k].who lb[k].cur lb[k].amt).mono ?_
            rintro e w1 ⟨rfl, hb⟩
            exact ⟨by rw [HNE.out], hb⟩
          try simp only [Act.put, List.setIfInBounds_toArray, List.set_cons_zero, List.set_cons_succ]
          refine wpAnyU_take (i := 9) (oi := { dst := some 26, op := Op.unOp UnOp.not 4 (Operand.tmp 25), type := 4, pos := "keep.go:90", after := #[{ on := 8, ground := Ground.data }], guard := none }) (v := (.bool false)) rfl (by kernel_rfl) (by kernel_rfl) (by kernel_rfl) (by kernel_rfl) (by kernel_rfl) (fun _ _ _ h => h) (BL.cls wr) ?_ ?_
          · refine Or.inl ⟨rfl, fun w hSw => ?_⟩
            exact EffR.same (by go_simp)
          try simp only [Act.put, List.setIfInBounds_toArray, List.set_cons_zero, List.set_cons_succ]
          refine wpAnyU_done (by kernel_rfl) (fun w1 hb1 => ?_) _
          go_wp2_with fail
          exact ⟨⟨k + 1, by omega, by push_cast; rfl, HNX.out, bgoS HBL.out hb1⟩, by simp [intOf]; omega⟩
        · have HNE : Hid (decide ([la[k].who, la[k].cur, la[k].amt] = [lb[k].who, lb[k].cur, lb[k].amt]) = false) := by show _ = false; rw [decide_eq_false_iff_not]; exact fun h => hne (DT.ints_inj.1 h)
          have HNL : Hid (la ≠ lb) := fun e => hne (by simp [e])
          clear hne
          refine wp_region_bl 10 (by kernel_rfl) ?_
          refine wpAnyU_take (i := 0) (oi := { dst := some 17, op := Op.move (Operand.tmp 0), type := 38, pos := "keep.go:90", after := #[], guard := none }) (v := (.slice (some ⟨ba, offa, none⟩) la.length capa)) rfl (by kernel_rfl) (by kernel_rfl) (by kernel_rfl) (by kernel_rfl) (by kernel_rfl) (fun _ _ _ h => h) (BL.cls wr) ?_ ?_
          · refine Or.inl ⟨rfl, fun w hSw => ?_⟩
            exact EffR.same (by go_simp)
          try simp only [Act.put, List.setIfInBounds_toArray, List.set_cons_zero, List.set_cons_succ]
          refine wpAnyU_take (i := 1) (oi := { dst := some 18, op := Op.move (Operand.tmp 5), type := 3, pos := "keep.go:90", after := #[], guard := none }) (v := (.int .i64 (k : Int))) rfl (by kernel_rfl) (by kernel_rfl) (by kernel_rfl) (by kernel_rfl) (by kernel_rfl) (fun _ _ _ h => h) (BL.cls wr) ?_ ?_
          · refine Or.inl ⟨rfl, fun w hSw => ?_⟩
            exact EffR.same (by go_simp)
          try simp only [Act.put, List.setIfInBounds_toArray, List.set_cons_zero, List.set_cons_succ]
          refine wpAnyU_take (i := 2) (oi := { dst := some 19, op := Op.indexAddr 38 (Operand.tmp 17) (Operand.tmp 18), type := 0, pos := "keep.go:90", after := #[{ on := 0, ground := Ground.data }, { on := 1, ground := Ground.data }], guard := none }) (v := (.pointer (some ⟨ba, offa + k * 3, none⟩))) rfl (by kernel_rfl) (by kernel_rfl) (by kernel_rfl) (by kernel_rfl) (by kernel_rfl) (fun _ _ _ h => h) (BL.cls wr) ?_ ?_
          · refine Or.inl ⟨rfl, fun w hSw => ?_⟩
            exact EffR.same (by go_simp)
          try simp only [Act.put, List.setIfInBounds_toArray, List.set_cons_zero, List.set_cons_succ]
          refine wpAnyU_take (i := 3) (oi := { dst := some 20, op := Op.load 127 (Operand.tmp 19), type := 127, pos := "keep.go:90", after := #[{ on := 2, ground := Ground.data }], guard := none }) (v := (.agg #[.int .i64 la[k].who, .int .i64 la[k].cur, .int .i64 la[k].amt])) rfl (by kernel_rfl) (by kernel_rfl) (by kernel_rfl) (by kernel_rfl) (by kernel_rfl) (fun _ _ _ h => h) (BL.cls wr) ?_ ?_
          · refine Or.inl ⟨rfl, fun w hSw => ?_⟩
            exact eff_load_mid 127 (.tmp 19) rfl ba (offa + k * 3) rfl [.int .i64 la[k].who, .int .i64 la[k].cur, .int .i64 la[k].amt] _ (fun j v h => BL.cell hSw (HCA.out j v h)) Try.underlying127 rfl HSZ.out
          try simp only [Act.put, List.setIfInBounds_toArray, List.set_cons_zero, List.set_cons_succ]
          refine wpAnyU_take (i := 4) (oi := { dst := some 21, op := Op.move (Operand.tmp 1), type := 38, pos := "keep.go:90", after := #[], guard := none }) (v := (.slice (some ⟨bb, offb, none⟩) lb.length capb)) rfl (by kernel_rfl) (by kernel_rfl) (by kernel_rfl) (by kernel_rfl) (by kernel_rfl) (fun _ _ _ h => h) (BL.cls wr) ?_ ?_
          · refine Or.inl ⟨rfl, fun w hSw => ?_⟩
            exact EffR.same (by go_simp)
          try simp only [Act.put, List.setIfInBounds_toArray, List.set_cons_zero, List.set_cons_succ]
          refine wpAnyU_take (i := 5) (oi := { dst := some 22, op := Op.move (Operand.tmp 5), type := 3, pos := "keep.go:90", after := #[], guard := none }) (v := (.int .i64 (k : Int))) rfl (by kernel_rfl) (by kernel_rfl) (by kernel_rfl) (by kernel_rfl) (by kernel_rfl) (fun _ _ _ h => h) (BL.cls wr) ?_ ?_
          · refine Or.inl ⟨rfl, fun w hSw => ?_⟩
            exact EffR.same (by go_simp)
          try simp only [Act.put, List.setIfInBounds_toArray, List.set_cons_zero, List.set_cons_succ]
          refine wpAnyU_take (i := 6) (oi := { dst := some 23, op := Op.indexAddr 38 (Operand.tmp 21) (Operand.tmp 22), type := 0, pos := "keep.go:90", after := #[{ on := 4, ground := Ground.data }, { on := 5, ground := Ground.data }], guard := none }) (v := (.pointer (some ⟨bb, offb + k * 3, none⟩))) rfl (by kernel_rfl) (by kernel_rfl) (by kernel_rfl) (by kernel_rfl) (by kernel_rfl) (fun _ _ _ h => h) (BL.cls wr) ?_ ?_
          · refine Or.inl ⟨rfl, fun w hSw => ?_⟩
            exact EffR.same (by go_simp)
          try simp only [Act.put, List.setIfInBounds_toArray, List.set_cons_zero, List.set_cons_succ]
          refine wpAnyU_take (i := 7) (oi := { dst := some 24, op := Op.load 127 (Operand.tmp 23), type := 127, pos := "keep.go:90", after := #[{ on := 6, ground := Ground.data }], guard := none }) (v := (.agg #[.int .i64 lb[k].who, .int .i64 lb[k].cur, .int .i64 lb[k].amt])) rfl (by kernel_rfl) (by kernel_rfl) (by kernel_rfl) (by kernel_rfl) (by kernel_rfl) (fun _ _ _ h => h) (BL.cls wr) ?_ ?_
          · refine Or.inl ⟨rfl, fun w hSw => ?_⟩
            exact eff_load_mid 127 (.tmp 23) rfl bb (offb + k * 3) rfl [.int .i64 lb[k].who, .int .i64 lb[k].cur, .int .i64 lb[k].amt] _ (fun j v h => BL.cell hSw (HCB.out j v h)) Try.underlying127 rfl HSZ.out
          try simp only [Act.put, List.setIfInBounds_toArray, List.set_cons_zero, List.set_cons_succ]
          refine wpAnyU_take (i := 8) (oi := { dst := some 25, op := Op.call { callee := Callee.value (Operand.func 59), args := #[Operand.tmp 20, Operand.tmp 24], argTypes := #[127, 127] }, type := 4, pos := "keep.go:90", after := #[{ on := 3, ground := Ground.data }, { on := 7, ground := Ground.data }], guard := none }) (v := (.bool false)) rfl (by kernel_rfl) (by kernel_rfl) (by kernel_rfl) (by kernel_rfl) (by kernel_rfl) (fun _ _ _ h => h) (BL.cls wr) ?_ ?_
          · refine Or.inl ⟨rfl, fun w hSw => ?_⟩
            go_simp
            show Calls _ _ _ _ _
            refine (KDue_any _ la[k].who la[k].cur la[k].amt lb[k].who lb[k].cur lb[k].amt).mono ?_
            rintro e w1 ⟨rfl, hb⟩
            exact ⟨by rw [HNE.out], hb⟩
          try simp only [Act.put, List.setIfInBounds_toArray, List.set_cons_zero, List.set_cons_succ]
          refine wpAnyU_take (i := 9) (oi := { dst := some 26, op := Op.unOp UnOp.not 4 (Operand.tmp 25), type := 4, pos := "keep.go:90", after := #[{ on := 8, ground := Ground.data }], guard := none }) (v := (.bool true)) rfl (by kernel_rfl) (by kernel_rfl) (by kernel_rfl) (by kernel_rfl) (by kernel_rfl) (fun _ _ _ h => h) (BL.cls wr) ?_ ?_
          · refine Or.inl ⟨rfl, fun w hSw => ?_⟩
            exact EffR.same (by go_simp)
          try simp only [Act.put, List.setIfInBounds_toArray, List.set_cons_zero, List.set_cons_succ]
          refine wpAnyU_done (by kernel_rfl) (fun w1 hb1 => ?_) _
          go_wp2_with fail
          go_ret
          exact ⟨by rw [decide_eq_false HNL.out]; rfl, bgoS HBL.out hb1⟩
      · have HALL : Hid (la = lb) := by
          have := Heq.out
          rwa [List.take_of_length_le (by omega), List.take_of_length_le (by rw [← Hl.out]; omega)] at this
        go_wp2_with fail
        go_ret
        exact ⟨by rw [decide_eq_true HALL.out]; rfl, HBL.out⟩
  · have hl' : ((la.length : Int) != (lb.length : Int)) = true := by rw [bne_iff_ne]; omega
    have hne : la ≠ lb := fun e => hl (by rw [e])
    have HNE := Lib.hid hne
    clear hne
    go_enter Try.func38, Try.ntmps38
    go_wp2_with fail
    go_ret
    exact ⟨by rw [decide_eq_false HNE.out]; rfl, Below.refl _ _⟩

theorem FT.ints_inj {a b : FT} : a.ints = b.ints ↔ a = b := by
  cases a
  cases b
  simp [FT.ints]
set_option maxRecDepth 100000 in
set_option maxHeartbeats 3200000 in
theorem KFalls_any (w : World) (va vb : Value) (la lb : List FT) (ha : Rs FT.vs 8 w va la) (hb : Rs FT.vs 8 w vb lb) :
    Calls Try.prog 39 #[va, vb] w fun e w' => e = .returned (.bool (decide (la = lb))) ∧ Below w.heap.size w w' := by
  obtain ⟨aa, capa, rfl, hcapa, hma⟩ := ha.shape
  obtain ⟨ab, capb, rfl, hcapb, hmb⟩ := hb.shape
  by_cases hl : la.length = lb.length
  · have hl' : ((la.length : Int) != (lb.length : Int)) = false := by rw [hl]; simp
    have Hl := Lib.hid hl
    have HSZ : Hid ((Try.prog.info? 132).map (·.size) = some 8) := by show _ = _; kernel_rfl
    clear hl
    go_enter Try.func39, Try.ntmps39
    go_wp2_with fail
    go_loopw [5] (fun i wr => ∃ k : Nat, k ≤ la.length ∧ i = .int .i64 k ∧ Hid (la.take k = lb.take k) ∧ Below w.heap.size w wr) (fun i _ => la.length - (intOf i).toNat)
    case atStart => exact ⟨0, Nat.zero_le _, rfl, rfl, Below.refl _ _⟩
    case round =>
      obtain ⟨k, hk, rfl, Heq, hbel⟩ := hrel
      have HBL := Lib.hid hbel
      by_cases hlt : k < la.length
      · have hlt2 : k < lb.length := by rw [← Hl.out]; exact hlt
        obtain ⟨ba, offa, rfl, _, hca⟩ := (ha.mono hbel).at (by omega) (by decide)
        obtain ⟨bb, offb, rfl, _, hcb⟩ := (hb.mono hbel).at (by omega) (by decide)
        have HCA : Hid (∀ j v, [.int .i64 la[k].cur, .int .i64 la[k].loss, .int .i64 la[k].p0, .int .i64 la[k].p1, .int .i64 la[k].p2, .int .i64 la[k].p3, .int .i64 la[k].p4, .int .i64 la[k].rest][j]? = some v → wr.cell? ⟨ba, offa + k * 8 + j, none⟩ = some v) := fun j v h => hca k hlt j v h
        have HCB : Hid (∀ j v, [.int .i64 lb[k].cur, .int .i64 lb[k].loss, .int .i64 lb[k].p0, .int .i64 lb[k].p1, .int .i64 lb[k].p2, .int .i64 lb[k].p3, .int .i64 lb[k].p4, .int .i64 lb[k].rest][j]? = some v → wr.cell? ⟨bb, offb + k * 8 + j, none⟩ = some v) := fun j v h => hcb k hlt2 j v h
        have hk0 : (0 : Int) ≤ k := by omega
        have hk1 : (k : Int) < la.length := by omega
        have hk2 : (k : Int) < lb.length := by omega
        clear hca hcb hbel
        go_wp2_with fail
        by_cases hne : la[k] = lb[k]
        · have HNE : Hid (decide ([la[k].cur, la[k].loss, la[k].p0, la[k].p1, la[k].p2, la[k].p3, la[k].p4, la[k].rest] = [lb[k].cur, lb[k].loss, lb[k].p0, lb[k].p1, lb[k].p2, lb[k].p3, lb[k].p4, lb[k].rest]) = true) := by show _ = true; rw [decide_eq_true_iff]; exact FT.ints_inj.2 hne
          have HNX : Hid (la.take (k + 1) = lb.take (k + 1)) := by show _ = _; rw [List.take_succ_eq_append_getElem hlt, List.take_succ_eq_append_getElem hlt2, Heq.out, hne]
          clear hne
          refine wp_region_bl 10 (by kernel_rfl) ?_
          refine wpAnyU_take (i := 0) (oi := { dst := some 17, op := Op.move (Operand.tmp 0), type := 39, pos := "keep.go:255", after := #[], guard := none }) (v := (.slice (some ⟨ba, offa, none⟩) la.length capa)) rfl (by kernel_rfl) (by kernel_rfl) (by kernel_rfl) (by kernel_rfl) (by kernel_rfl) (fun _ _ _ h => h) (BL.cls wr) ?_ ?_
          · refine Or.inl ⟨rfl, fun w hSw => ?_⟩
            exact EffR.same (by go_simp)
          try simp only [Act.put, List.setIfInBounds_toArray, List.set_cons_zero, List.set_cons_succ]
          refine wpAnyU_take (i := 1) (oi := { dst := some 18, op := Op.move (Operand.tmp 5), type := 3, pos := "keep.go:255", after := #[], guard := none }) (v := (.int .i64 (k : Int))) rfl (by kernel_rfl) (by kernel_rfl) (by kernel_rfl) (by kernel_rfl) (by kernel_rfl) (fun _ _ _ h => h) (BL.cls wr) ?_ ?_
          · refine Or.inl ⟨rfl, fun w hSw => ?_⟩
            exact EffR.same (by go_simp)
          try simp only [Act.put, List.setIfInBounds_toArray, List.set_cons_zero, List.set_cons_succ]
          refine wpAnyU_take (i := 2) (oi := { dst := some 19, op := Op.indexAddr 39 (Operand.tmp 17) (Operand.tmp 18), type := 0, pos := "keep.go:255", after := #[{ on := 0, ground := Ground.data }, { on := 1, ground := Ground.data }], guard := none }) (v := (.pointer (some ⟨ba, offa + k * 8, none⟩))) rfl (by kernel_rfl) (by kernel_rfl) (by kernel_rfl) (by kernel_rfl) (by kernel_rfl) (fun _ _ _ h => h) (BL.cls wr) ?_ ?_
          · refine Or.inl ⟨rfl, fun w hSw => ?_⟩
            exact EffR.same (by go_simp)
          try simp only [Act.put, List.setIfInBounds_toArray, List.set_cons_zero, List.set_cons_succ]
          refine wpAnyU_take (i := 3) (oi := { dst := some 20, op := Op.load 132 (Operand.tmp 19), type := 132, pos := "keep.go:255", after := #[{ on := 2, ground := Ground.data }], guard := none }) (v := (.agg #[.int .i64 la[k].cur, .int .i64 la[k].loss, .int .i64 la[k].p0, .int .i64 la[k].p1, .int .i64 la[k].p2, .int .i64 la[k].p3, .int .i64 la[k].p4, .int .i64 la[k].rest])) rfl (by kernel_rfl) (by kernel_rfl) (by kernel_rfl) (by kernel_rfl) (by kernel_rfl) (fun _ _ _ h => h) (BL.cls wr) ?_ ?_
          · refine Or.inl ⟨rfl, fun w hSw => ?_⟩
            exact eff_load_mid 132 (.tmp 19) rfl ba (offa + k * 8) rfl [.int .i64 la[k].cur, .int .i64 la[k].loss, .int .i64 la[k].p0, .int .i64 la[k].p1, .int .i64 la[k].p2, .int .i64 la[k].p3, .int .i64 la[k].p4, .int .i64 la[k].rest] _ (fun j v h => BL.cell hSw (HCA.out j v h)) Try.underlying132 rfl HSZ.out
          try simp only [Act.put, List.setIfInBounds_toArray, List.set_cons_zero, List.set_cons_succ]
          refine wpAnyU_take (i := 4) (oi := { dst := some 21, op := Op.move (Operand.tmp 1), type := 39, pos := "keep.go:255", after := #[], guard := none }) (v := (.slice (some ⟨bb, offb, none⟩) lb.length capb)) rfl (by kernel_rfl) (by kernel_rfl) (by kernel_rfl) (by kernel_rfl) (by kernel_rfl) (fun _ _ _ h => h) (BL.cls wr) ?_ ?_
          · refine Or.inl ⟨rfl, fun w hSw => ?_⟩
            exact EffR.same (by go_simp)
          try simp only [Act.put, List.setIfInBounds_toArray, List.set_cons_zero, List.set_cons_succ]
          refine wpAnyU_take (i := 5) (oi := { dst := some 22, op := Op.move (Operand.tmp 5), type := 3, pos := "keep.go:255", after := #[], guard := none }) (v := (.int .i64 (k : Int))) rfl (by kernel_rfl) (by kernel_rfl) (by kernel_rfl) (by kernel_rfl) (by kernel_rfl) (fun _ _ _ h => h) (BL.cls wr) ?_ ?_
          · refine Or.inl ⟨rfl, fun w hSw => ?_⟩
            exact EffR.same (by go_simp)
          try simp only [Act.put, List.setIfInBounds_toArray, List.set_cons_zero, List.set_cons_succ]
          refine wpAnyU_take (i := 6) (oi := { dst := some 23, op := Op.indexAddr 39 (Operand.tmp 21) (Operand.tmp 22), type := 0, pos := "keep.go:255", after := #[{ on := 4, ground := Ground.data }, { on := 5, ground := Ground.data }], guard := none }) (v := (.pointer (some ⟨bb, offb + k * 8, none⟩))) rfl (by kernel_rfl) (by kernel_rfl) (by kernel_rfl) (by kernel_rfl) (by kernel_rfl) (fun _ _ _ h => h) (BL.cls wr) ?_ ?_
          · refine Or.inl ⟨rfl, fun w hSw => ?_⟩
            exact EffR.same (by go_simp)
          try simp only [Act.put, List.setIfInBounds_toArray, List.set_cons_zero, List.set_cons_succ]
          refine wpAnyU_take (i := 7) (oi := { dst := some 24, op := Op.load 132 (Operand.tmp 23), type := 132, pos := "keep.go:255", after := #[{ on := 6, ground := Ground.data }], guard := none }) (v := (.agg #[.int .i64 lb[k].cur, .int .i64 lb[k].loss, .int .i64 lb[k].p0, .int .i64 lb[k].p1, .int .i64 lb[k].p2, .int .i64 lb[k].p3, .int .i64 lb[k].p4, .int .i64 lb[k].rest])) rfl (by kernel_rfl) (by kernel_rfl) (by kernel_rfl) (by kernel_rfl) (by kernel_rfl) (fun _ _ _ h => h) (BL.cls wr) ?_ ?_
          · refine Or.inl ⟨rfl, fun w hSw => ?_⟩
            exact eff_load_mid 132 (.tmp 23) rfl bb (offb + k * 8) rfl [.int .i64 lb[k].cur, .int .i64 lb[k].loss, .int .i64 lb[k].p0, .int .i64 lb[k].p1, .int .i64 lb[k].p2, .int .i64 lb[k].p3, .int .i64 lb[k].p4, .int .i64 lb[k].rest] _ (fun j v h => BL.cell hSw (HCB.out j v h)) Try.underlying132 rfl HSZ.out
          try simp only [Act.put, List.setIfInBounds_toArray, List.set_cons_zero, List.set_cons_succ]
          refine wpAnyU_take (i := 8) (oi := { dst := some 25, op := Op.call { callee := Callee.value (Operand.func 60), args := #[Operand.tmp 20, Operand.tmp 24], argTypes := #[132, 132] }, type := 4, pos := "keep.go:255", after := #[{ on := 3, ground := Ground.data }, { on := 7, ground := Ground.data }], guard := none }) (v := (.bool true)) rfl (by kernel_rfl) (by kernel_rfl) (by kernel_rfl) (by kernel_rfl) (by kernel_rfl) (fun _ _ _ h => h) (BL.cls wr) ?_ ?_
          · refine Or.inl ⟨rfl, fun w hSw => ?_⟩
            go_simp
            show Calls _ _ _ _ _
            refine (KFall_any _ la[k].cur la[k].loss la[k].p0 la[k].p1 la[k].p2 la[k].p3 la[k].p4 la[k].rest lb[k].cur lb[k].loss lb[k].p0 lb[k].p1 lb[k].p2 lb[k].p3 lb[k].p4 lb[k].rest).mono ?_
            rintro e w1 ⟨rfl, hb⟩
            exact ⟨by rw [HNE.out], hb⟩
          try simp only [Act.put, List.setIfInBounds_toArray, List.set_cons_zero, List.set_cons_succ]
          refine wpAnyU_take (i := 9) (oi := { dst := some 26, op := Op.unOp UnOp.not 4 (Operand.tmp 25), type := 4, pos := "keep.go:255", after := #[{ on := 8, ground := Ground.data }], guard := none }) (v := (.bool false)) rfl (by kernel_rfl) (by kernel_rfl) (by kernel_rfl) (by kernel_rfl) (by kernel_rfl) (fun _ _ _ h => h) (BL.cls wr) ?_ ?_
          · refine Or.inl ⟨rfl, fun w hSw => ?_⟩
            exact EffR.same (by go_simp)
          try simp only [Act.put, List.setIfInBounds_toArray, List.set_cons_zero, List.set_cons_succ]
          refine wpAnyU_done (by kernel_rfl) (fun w1 hb1 => ?_) _
          go_wp2_with fail
          exact ⟨⟨k + 1, by omega, by push_cast; rfl, HNX.out, bgoS HBL.out hb1⟩, by simp [intOf]; omega⟩
        · have HNE : Hid (decide ([la[k].cur, la[k].loss, la[k].p0, la[k].p1, la[k].p2, la[k].p3, la[k].p4, la[k].rest] = [lb[k].cur, lb[k].loss, lb[k].p0, lb[k].p1, lb[k].p2, lb[k].p3, lb[k].p4, lb[k].rest]) = false) := by show _ = false; rw [decide_eq_false_iff_not]; exact fun h => hne (FT.ints_inj.1 h)
          have HNL : Hid (la ≠ lb) := fun e => hne (by simp [e])
          clear hne
          refine wp_region_bl 10 (by kernel_rfl) ?_
          refine wpAnyU_take (i := 0) (oi := { dst := some 17, op := Op.move (Operand.tmp 0), type := 39, pos := "keep.go:255", after := #[], guard := none }) (v := (.slice (some ⟨ba, offa, none⟩) la.length capa)) rfl (by kernel_rfl) (by kernel_rfl) (by kernel_rfl) (by kernel_rfl) (by kernel_rfl) (fun _ _ _ h => h) (BL.cls wr) ?_ ?_
          · refine Or.inl ⟨rfl, fun w hSw => ?_⟩
            exact EffR.same (by go_simp)
          try simp only [Act.put, List.setIfInBounds_toArray, List.set_cons_zero, List.set_cons_succ]
          refine wpAnyU_take (i := 1) (oi := { dst := some 18, op := Op.move (Operand.tmp 5), type := 3, pos := "keep.go:255", after := #[], guard := none }) (v := (.int .i64 (k : Int))) rfl (by kernel_rfl) (by kernel_rfl) (by kernel_rfl) (by kernel_rfl) (by kernel_rfl) (fun _ _ _ h => h) (BL.cls wr) ?_ ?_
          · refine Or.inl ⟨rfl, fun w hSw => ?_⟩
            exact EffR.same (by go_simp)
          try simp only [Act.put, List.setIfInBounds_toArray, List.set_cons_zero, List.set_cons_succ]
          refine wpAnyU_take (i := 2) (oi := { dst := some 19, op := Op.indexAddr 39 (Operand.tmp 17) (Operand.tmp 18), type := 0, pos := "keep.go:255", after := #[{ on := 0, ground := Ground.data }, { on := 1, ground := Ground.data }], guard := none }) (v := (.pointer (some ⟨ba, offa + k * 8, none⟩))) rfl (by kernel_rfl) (by kernel_rfl) (by kernel_rfl) (by kernel_rfl) (by kernel_rfl) (fun _ _ _ h => h) (BL.cls wr) ?_ ?_
          · refine Or.inl ⟨rfl, fun w hSw => ?_⟩
            exact EffR.same (by go_simp)
          try simp only [Act.put, List.setIfInBounds_toArray, List.set_cons_zero, List.set_cons_succ]
          refine wpAnyU_take (i := 3) (oi := { dst := some 20, op := Op.load 132 (Operand.tmp 19), type := 132, pos := "keep.go:255", after := #[{ on := 2, ground := Ground.data }], guard := none }) (v := (.agg #[.int .i64 la[k].cur, .int .i64 la[k].loss, .int .i64 la[k].p0, .int .i64 la[k].p1, .int .i64 la[k].p2, .int .i64 la[k].p3, .int .i64 la[k].p4, .int .i64 la[k].rest])) rfl (by kernel_rfl) (by kernel_rfl) (by kernel_rfl) (by kernel_rfl) (by kernel_rfl) (fun _ _ _ h => h) (BL.cls wr) ?_ ?_
          · refine Or.inl ⟨rfl, fun w hSw => ?_⟩
            exact eff_load_mid 132 (.tmp 19) rfl ba (offa + k * 8) rfl [.int .i64 la[k].cur, .int .i64 la[k].loss, .int .i64 la[k].p0, .int .i64 la[k].p1, .int .i64 la[k].p2, .int .i64 la[k].p3, .int .i64 la[k].p4, .int .i64 la[k].rest] _ (fun j v h => BL.cell hSw (HCA.out j v h)) Try.underlying132 rfl HSZ.out
          try simp only [Act.put, List.setIfInBounds_toArray, List.set_cons_zero, List.set_cons_succ]
          refine wpAnyU_take (i := 4) (oi := { dst := some 21, op := Op.move (Operand.tmp 1), type := 39, pos := "keep.go:255", after := #[], guard := none }) (v := (.slice (some ⟨bb, offb, none⟩) lb.length capb)) rfl (by kernel_rfl) (by kernel_rfl) (by kernel_rfl) (by kernel_rfl) (by kernel_rfl) (fun _ _ _ h => h) (BL.cls wr) ?_ ?_
          · refine Or.inl ⟨rfl, fun w hSw => ?_⟩
            exact EffR.same (by go_simp)
          try simp only [Act.put, List.setIfInBounds_toArray, List.set_cons_zero, List.set_cons_succ]
          refine wpAnyU_take (i := 5) (oi := { dst := some 22, op := Op.move (Operand.tmp 5), type := 3, pos := "keep.go:255", after := #[], guard := none }) (v := (.int .i64 (k : Int))) rfl (by kernel_rfl) (by kernel_rfl) (by kernel_rfl) (by kernel_rfl) (by kernel_rfl) (fun _ _ _ h => h) (BL.cls wr) ?_ ?_
          · refine Or.inl ⟨rfl, fun w hSw => ?_⟩
            exact EffR.same (by go_simp)
          try simp only [Act.put, List.setIfInBounds_toArray, List.set_cons_zero, List.set_cons_succ]
          refine wpAnyU_take (i := 6) (oi := { dst := some 23, op := Op.indexAddr 39 (Operand.tmp 21) (Operand.tmp 22), type := 0, pos := "keep.go:255", after := #[{ on := 4, ground := Ground.data }, { on := 5, ground := Ground.data }], guard := none }) (v := (.pointer (some ⟨bb, offb + k * 8, none⟩))) rfl (by kernel_rfl) (by kernel_rfl) (by kernel_rfl) (by kernel_rfl) (by kernel_rfl) (fun _ _ _ h => h) (BL.cls wr) ?_ ?_
          · refine Or.inl ⟨rfl, fun w hSw => ?_⟩
            exact EffR.same (by go_simp)
          try simp only [Act.put, List.setIfInBounds_toArray, List.set_cons_zero, List.set_cons_succ]
          refine wpAnyU_take (i := 7) (oi := { dst := some 24, op := Op.load 132 (Operand.tmp 23), type := 132, pos := "keep.go:255", after := #[{ on := 6, ground := Ground.data }], guard := none }) (v := (.agg #[.int .i64 lb[k].cur, .int .i64 lb[k].loss, .int .i64 lb[k].p0, .int .i64 lb[k].p1, .int .i64 lb[k].p2, .int .i64 lb[k].p3, .int .i64 lb[k].p4, .int .i64 lb[k].rest])) rfl (by kernel_rfl) (by kernel_rfl) (by kernel_rfl) (by kernel_rfl) (by kernel_rfl) (fun _ _ _ h => h) (BL.cls wr) ?_ ?_
          · refine Or.inl ⟨rfl, fun w hSw => ?_⟩
            exact eff_load_mid 132 (.tmp 23) rfl bb (offb + k * 8) rfl [.int .i64 lb[k].cur, .int .i64 lb[k].loss, .int .i64 lb[k].p0, .int .i64 lb[k].p1, .int .i64 lb[k].p2, .int .i64 lb[k].p3, .int .i64 lb[k].p4, .int .i64 lb[k].rest] _ (fun j v h => BL.cell hSw (HCB.out j v h)) Try.underlying132 rfl HSZ.out
          try simp only [Act.put, List.setIfInBounds_toArray, List.set_cons_zero, List.set_cons_succ]
          refine wpAnyU_take (i := 8) (oi := { dst := some 25, op := Op.call { callee := Callee.value (Operand.func 60), args := #[Operand.tmp 20, Operand.tmp 24], argTypes := #[132, 132] }, type := 4, pos := "keep.go:255", after := #[{ on := 3, ground := Ground.data }, { on := 7, ground := Ground.data }], guard := none }) (v := (.bool false)) rfl (by kernel_rfl) (by kernel_rfl) (by kernel_rfl) (by kernel_rfl) (by kernel_rfl) (fun _ _ _ h => h) (BL.cls wr) ?_ ?_
          · refine Or.inl ⟨rfl, fun w hSw => ?_⟩
            go_simp
            show Calls _ _ _ _ _
            refine (KFall_any _ la[k].cur la[k].loss la[k].p0 la[k].p1 la[k].p2 la[k].p3 la[k].p4 la[k].rest lb[k].cur lb[k].loss lb[k].p0 lb[k].p1 lb[k].p2 lb[k].p3 lb[k].p4 lb[k].rest).mono ?_
            rintro e w1 ⟨rfl, hb⟩
            exact ⟨by rw [HNE.out], hb⟩
          try simp only [Act.put, List.setIfInBounds_toArray, List.set_cons_zero, List.set_cons_succ]
          refine wpAnyU_take (i := 9) (oi := { dst := some 26, op := Op.unOp UnOp.not 4 (Operand.tmp 25), type := 4, pos := "keep.go:255", after := #[{ on := 8, ground := Ground.data }], guard := none }) (v := (.bool true)) rfl (by kernel_rfl) (by kernel_rfl) (by kernel_rfl) (by kernel_rfl) (by kernel_rfl) (fun _ _ _ h => h) (BL.cls wr) ?_ ?_
          · refine Or.inl ⟨rfl, fun w hSw => ?_⟩
            exact EffR.same (by go_simp)
          try simp only [Act.put, List.setIfInBounds_toArray, List.set_cons_zero, List.set_cons_succ]
          refine wpAnyU_done (by kernel_rfl) (fun w1 hb1 => ?_) _
          go_wp2_with fail
          go_ret
          exact ⟨by rw [decide_eq_false HNL.out]; rfl, bgoS HBL.out hb1⟩
      · have HALL : Hid (la = lb) := by
          have := Heq.out
          rwa [List.take_of_length_le (by omega), List.take_of_length_le (by rw [← Hl.out]; omega)] at this
        go_wp2_with fail
        go_ret
        exact ⟨by rw [decide_eq_true HALL.out]; rfl, HBL.out⟩
  · have hl' : ((la.length : Int) != (lb.length : Int)) = true := by rw [bne_iff_ne]; omega
    have hne : la ≠ lb := fun e => hl (by rw [e])
    have HNE := Lib.hid hne
    clear hne
    go_enter Try.func39, Try.ntmps39
    go_wp2_with fail
    go_ret
    exact ⟨by rw [decide_eq_false HNE.out]; rfl, Below.refl _ _⟩
end Cam
