import Derived.Test.YtgeclnjkkjmbaaaGreatVg
import Derived.Test.YtgeclnjkkjmbaaaGreatVc
/- cambistkeep over a state's rows that are the same. -/
namespace Cam
open Go Go.RowKit Go.Proofs

theorem Rs.rew {α : Type} {enc : α → List Value} {K n : Nat} {w w' : World} {a : Option Addr} {c : Nat} {L : List α} (h : Rs enc K w (.slice a n c) L) (hn : n = L.length) (hb : Below w.heap.size w w') : Rs enc K w' (.slice a L.length c) L := by
  rw [← hn]
  exact h.mono hb
theorem KKey_same (w : World) (a b : Int) : Calls Tryz.prog 105 #[.agg #[.int .i64 a, .int .i64 b], .agg #[.int .i64 a, .int .i64 b]] w fun e w' => e = .returned (.bool true) ∧ Below w.heap.size w w' := by
  have HB := Lib.hid ((((Below.refl w.heap.size w).alloc (Nat.le_refl _) (.cells #[.int .i64 a, .int .i64 b] 96)).alloc (by simp) (.cells #[.int .i64 a, .int .i64 b] 96)))
  go_enter Tryz.func105, Tryz.ntmps105
  go_wp2_with fail
  go_ret
  exact ⟨rfl, HB.out⟩
theorem KAcct_same (w : World) (a b c : Int) : Calls Tryz.prog 103 #[.agg #[.int .i64 a, .int .i64 b, .int .i64 c], .agg #[.int .i64 a, .int .i64 b, .int .i64 c]] w fun e w' => e = .returned (.bool true) ∧ Below w.heap.size w w' := by
  have HB := Lib.hid ((((Below.refl w.heap.size w).alloc (Nat.le_refl _) (.cells #[.int .i64 a, .int .i64 b, .int .i64 c] 100)).alloc (by simp) (.cells #[.int .i64 a, .int .i64 b, .int .i64 c] 100)))
  go_enter Tryz.func103, Tryz.ntmps103
  go_wp2_with fail
  go_ret
  exact ⟨rfl, HB.out⟩
theorem KDue_same (w : World) (a b c : Int) : Calls Tryz.prog 104 #[.agg #[.int .i64 a, .int .i64 b, .int .i64 c], .agg #[.int .i64 a, .int .i64 b, .int .i64 c]] w fun e w' => e = .returned (.bool true) ∧ Below w.heap.size w w' := by
  have HB := Lib.hid ((((Below.refl w.heap.size w).alloc (Nat.le_refl _) (.cells #[.int .i64 a, .int .i64 b, .int .i64 c] 106)).alloc (by simp) (.cells #[.int .i64 a, .int .i64 b, .int .i64 c] 106)))
  go_enter Tryz.func104, Tryz.ntmps104
  go_wp2_with fail
  go_ret
  exact ⟨rfl, HB.out⟩
theorem KClock_same (w : World) (a b c : Int) : Calls Tryz.prog 40 #[.agg #[.int .i64 a, .int .i64 b, .int .i64 c], .agg #[.int .i64 a, .int .i64 b, .int .i64 c]] w fun e w' => e = .returned (.bool true) ∧ Below w.heap.size w w' := by
  have HB := Lib.hid ((((Below.refl w.heap.size w).alloc (Nat.le_refl _) (.cells #[.int .i64 a, .int .i64 b, .int .i64 c] 23)).alloc (by simp) (.cells #[.int .i64 a, .int .i64 b, .int .i64 c] 23)))
  go_enter Tryz.func40, Tryz.ntmps40
  go_wp2_with fail
  go_ret
  exact ⟨rfl, HB.out⟩
theorem KAsset_same (w : World) (a b c d : Int) : Calls Tryz.prog 131 #[.agg #[.int .i64 a, .int .i64 b, .int .i64 c, .int .i64 d], .agg #[.int .i64 a, .int .i64 b, .int .i64 c, .int .i64 d]] w fun e w' => e = .returned (.bool true) ∧ Below w.heap.size w w' := by
  have HB := Lib.hid ((((Below.refl w.heap.size w).alloc (Nat.le_refl _) (.cells #[.int .i64 a, .int .i64 b, .int .i64 c, .int .i64 d] 91)).alloc (by simp) (.cells #[.int .i64 a, .int .i64 b, .int .i64 c, .int .i64 d] 91)))
  go_enter Tryz.func131, Tryz.ntmps131
  go_wp2_with fail
  go_ret
  exact ⟨rfl, HB.out⟩

set_option maxRecDepth 100000 in
set_option maxHeartbeats 3200000 in
theorem KMembers_same (w : World) (va vb : Value) (L : List MbT) (ha : Rs MbT.vs 3 w va L) (hb : Rs MbT.vs 3 w vb L) :
    Calls Tryz.prog 98 #[va, vb] w fun e w' => e = .returned (.bool true) ∧ Below w.heap.size w w' := by
  obtain ⟨aa, capa, rfl, hcapa, hma⟩ := ha.shape
  obtain ⟨ab, capb, rfl, hcapb, hmb⟩ := hb.shape
  obtain ⟨n, hn⟩ : ∃ n, n = L.length := ⟨_, rfl⟩
  rw [← hn] at ha hb hcapa hcapb ⊢
  have HA := Lib.hid ha
  have HB := Lib.hid hb
  have HN := Lib.hid hn
  clear ha hb hn
  go_enter Tryz.func98, Tryz.ntmps98
  go_wp2_with fail
  go_loopw [5] (fun i wr => ∃ k : Nat, k ≤ n ∧ i = .int .i64 k ∧ Below w.heap.size w wr) (fun i _ => n - (intOf i).toNat)
  case atStart => exact ⟨0, Nat.zero_le _, rfl, Below.refl _ _⟩
  case round =>
    obtain ⟨k, hk, rfl, hbel⟩ := hrel
    have HBL := Lib.hid hbel
    by_cases hlt : k < n
    · have hkL : k < L.length := by rw [← HN.out]; exact hlt
      obtain ⟨ba, offa, rfl, _, hca⟩ := (HA.out.rew HN.out hbel).at (by omega) (by decide)
      obtain ⟨bb, offb, rfl, _, hcb⟩ := (HB.out.rew HN.out hbel).at (by omega) (by decide)
      obtain ⟨c, hc⟩ : ∃ c, c = L[k] := ⟨_, rfl⟩
      have HCA : Hid (∀ j v, [.int .i64 c.no, .int .i64 c.state, .int .i64 c.need][j]? = some v → wr.cell? ⟨ba, offa + k * 3 + j, none⟩ = some v) := fun j v h => hca k hkL j v (by rw [← hc]; exact h)
      have HCB : Hid (∀ j v, [.int .i64 c.no, .int .i64 c.state, .int .i64 c.need][j]? = some v → wr.cell? ⟨bb, offb + k * 3 + j, none⟩ = some v) := fun j v h => hcb k hkL j v (by rw [← hc]; exact h)
      have hk0 : (0 : Int) ≤ k := by omega
      have hk1 : (k : Int) < n := by omega
      clear hca hcb hbel hc
      go_wp2_with fail
      refine wp_region_bl 37 (by kernel_rfl) ?_
      refine wpAnyU_take (i := 0) (oi := { dst := some 17, op := Op.move (Operand.tmp 0), type := 24, pos := "keep.go:114", after := #[], guard := none }) (v := (.slice (some ⟨ba, offa, none⟩) n capa)) rfl (by kernel_rfl) (by kernel_rfl) (by kernel_rfl) (by kernel_rfl) (by kernel_rfl) (fun _ _ _ h => h) (BL.cls wr) ?_ ?_
      · refine Or.inl ⟨rfl, fun w hSw => ?_⟩
        exact EffR.same (by go_simp)
      try simp only [Act.put, List.setIfInBounds_toArray, List.set_cons_zero, List.set_cons_succ]
      refine wpAnyU_take (i := 1) (oi := { dst := some 18, op := Op.move (Operand.tmp 5), type := 3, pos := "keep.go:114", after := #[], guard := none }) (v := (.int .i64 (k : Int))) rfl (by kernel_rfl) (by kernel_rfl) (by kernel_rfl) (by kernel_rfl) (by kernel_rfl) (fun _ _ _ h => h) (BL.cls wr) ?_ ?_
      · refine Or.inl ⟨rfl, fun w hSw => ?_⟩
        exact EffR.same (by go_simp)
      try simp only [Act.put, List.setIfInBounds_toArray, List.set_cons_zero, List.set_cons_succ]
      refine wpAnyU_take (i := 2) (oi := { dst := some 19, op := Op.indexAddr 24 (Operand.tmp 17) (Operand.tmp 18), type := 0, pos := "keep.go:114", after := #[{ on := 0, ground := Ground.data }, { on := 1, ground := Ground.data }], guard := none }) (v := (.pointer (some ⟨ba, offa + k * 3, none⟩))) rfl (by kernel_rfl) (by kernel_rfl) (by kernel_rfl) (by kernel_rfl) (by kernel_rfl) (fun _ _ _ h => h) (BL.cls wr) ?_ ?_
      · refine Or.inl ⟨rfl, fun w hSw => ?_⟩
        exact EffR.same (by go_simp)
      try simp only [Act.put, List.setIfInBounds_toArray, List.set_cons_zero, List.set_cons_succ]
      refine wpAnyU_take (i := 3) (oi := { dst := some 20, op := Op.fieldAddr 86 (Operand.tmp 19) 0, type := 0, pos := "keep.go:114", after := #[{ on := 2, ground := Ground.data }], guard := none }) (v := (.pointer (some ⟨ba, offa + k * 3, none⟩))) rfl (by kernel_rfl) (by kernel_rfl) (by kernel_rfl) (by kernel_rfl) (by kernel_rfl) (fun _ _ _ h => h) (BL.cls wr) ?_ ?_
      · refine Or.inl ⟨rfl, fun w hSw => ?_⟩
        exact EffR.same (by go_simp)
      try simp only [Act.put, List.setIfInBounds_toArray, List.set_cons_zero, List.set_cons_succ]
      refine wpAnyU_take (i := 4) (oi := { dst := some 21, op := Op.load 3 (Operand.tmp 20), type := 3, pos := "keep.go:114", after := #[{ on := 3, ground := Ground.data }], guard := none }) (v := (.int .i64 c.no)) rfl (by kernel_rfl) (by kernel_rfl) (by kernel_rfl) (by kernel_rfl) (by kernel_rfl) (fun _ _ _ h => h) (BL.cls wr) ?_ ?_
      · refine Or.inl ⟨rfl, fun w hSw => ?_⟩
        have e0 : w.cell? ⟨ba, offa + k * 3, none⟩ = some (.int .i64 c.no) := BL.cell hSw (HCA.out 0 _ rfl)
        exact EffR.same (by go_simp)
      try simp only [Act.put, List.setIfInBounds_toArray, List.set_cons_zero, List.set_cons_succ]
      refine wpAnyU_take (i := 5) (oi := { dst := some 22, op := Op.move (Operand.tmp 1), type := 24, pos := "keep.go:114", after := #[], guard := none }) (v := (.slice (some ⟨bb, offb, none⟩) n capb)) rfl (by kernel_rfl) (by kernel_rfl) (by kernel_rfl) (by kernel_rfl) (by kernel_rfl) (fun _ _ _ h => h) (BL.cls wr) ?_ ?_
      · refine Or.inl ⟨rfl, fun w hSw => ?_⟩
        exact EffR.same (by go_simp)
      try simp only [Act.put, List.setIfInBounds_toArray, List.set_cons_zero, List.set_cons_succ]
      refine wpAnyU_take (i := 6) (oi := { dst := some 23, op := Op.move (Operand.tmp 5), type := 3, pos := "keep.go:114", after := #[], guard := none }) (v := (.int .i64 (k : Int))) rfl (by kernel_rfl) (by kernel_rfl) (by kernel_rfl) (by kernel_rfl) (by kernel_rfl) (fun _ _ _ h => h) (BL.cls wr) ?_ ?_
      · refine Or.inl ⟨rfl, fun w hSw => ?_⟩
        exact EffR.same (by go_simp)
      try simp only [Act.put, List.setIfInBounds_toArray, List.set_cons_zero, List.set_cons_succ]
      refine wpAnyU_take (i := 7) (oi := { dst := some 24, op := Op.indexAddr 24 (Operand.tmp 22) (Operand.tmp 23), type := 0, pos := "keep.go:114", after := #[{ on := 5, ground := Ground.data }, { on := 6, ground := Ground.data }], guard := none }) (v := (.pointer (some ⟨bb, offb + k * 3, none⟩))) rfl (by kernel_rfl) (by kernel_rfl) (by kernel_rfl) (by kernel_rfl) (by kernel_rfl) (fun _ _ _ h => h) (BL.cls wr) ?_ ?_
      · refine Or.inl ⟨rfl, fun w hSw => ?_⟩
        exact EffR.same (by go_simp)
      try simp only [Act.put, List.setIfInBounds_toArray, List.set_cons_zero, List.set_cons_succ]
      refine wpAnyU_take (i := 8) (oi := { dst := some 25, op := Op.fieldAddr 86 (Operand.tmp 24) 0, type := 0, pos := "keep.go:114", after := #[{ on := 7, ground := Ground.data }], guard := none }) (v := (.pointer (some ⟨bb, offb + k * 3, none⟩))) rfl (by kernel_rfl) (by kernel_rfl) (by kernel_rfl) (by kernel_rfl) (by kernel_rfl) (fun _ _ _ h => h) (BL.cls wr) ?_ ?_
      · refine Or.inl ⟨rfl, fun w hSw => ?_⟩
        exact EffR.same (by go_simp)
      try simp only [Act.put, List.setIfInBounds_toArray, List.set_cons_zero, List.set_cons_succ]
      refine wpAnyU_take (i := 9) (oi := { dst := some 26, op := Op.load 3 (Operand.tmp 25), type := 3, pos := "keep.go:114", after := #[{ on := 8, ground := Ground.data }], guard := none }) (v := (.int .i64 c.no)) rfl (by kernel_rfl) (by kernel_rfl) (by kernel_rfl) (by kernel_rfl) (by kernel_rfl) (fun _ _ _ h => h) (BL.cls wr) ?_ ?_
      · refine Or.inl ⟨rfl, fun w hSw => ?_⟩
        have e0 : w.cell? ⟨bb, offb + k * 3, none⟩ = some (.int .i64 c.no) := BL.cell hSw (HCB.out 0 _ rfl)
        exact EffR.same (by go_simp)
      try simp only [Act.put, List.setIfInBounds_toArray, List.set_cons_zero, List.set_cons_succ]
      refine wpAnyU_take (i := 10) (oi := { dst := some 27, op := Op.binOp BinOp.neq 3 (Operand.tmp 21) (Operand.tmp 26) 3, type := 4, pos := "keep.go:114", after := #[{ on := 4, ground := Ground.data }, { on := 9, ground := Ground.data }], guard := none }) (v := (.bool false)) rfl (by kernel_rfl) (by kernel_rfl) (by kernel_rfl) (by kernel_rfl) (by kernel_rfl) (fun _ _ _ h => h) (BL.cls wr) ?_ ?_
      · refine Or.inl ⟨rfl, fun w hSw => ?_⟩
        exact EffR.same (by go_simp)
      try simp only [Act.put, List.setIfInBounds_toArray, List.set_cons_zero, List.set_cons_succ]
      refine wpAnyU_take (i := 11) (oi := { dst := some 28, op := Op.move (Operand.tmp 27), type := 4, pos := "keep.go:114", after := #[{ on := 10, ground := Ground.data }], guard := none }) (v := (.bool false)) rfl (by kernel_rfl) (by kernel_rfl) (by kernel_rfl) (by kernel_rfl) (by kernel_rfl) (fun _ _ _ h => h) (BL.cls wr) ?_ ?_
      · refine Or.inl ⟨rfl, fun w hSw => ?_⟩
        exact EffR.same (by go_simp)
      try simp only [Act.put, List.setIfInBounds_toArray, List.set_cons_zero, List.set_cons_succ]
      refine wpAnyU_take (i := 12) (oi := { dst := some 29, op := Op.move (Operand.tmp 0), type := 24, pos := "keep.go:114", after := #[{ on := 11, ground := Ground.guard }], guard := some (11, false) }) (v := (.slice (some ⟨ba, offa, none⟩) n capa)) rfl (by kernel_rfl) (by kernel_rfl) (by kernel_rfl) (by kernel_rfl) (by kernel_rfl) (fun _ _ _ h => h) (BL.cls wr) ?_ ?_
      · refine Or.inl ⟨rfl, fun w hSw => ?_⟩
        exact EffR.same (by go_simp)
      try simp only [Act.put, List.setIfInBounds_toArray, List.set_cons_zero, List.set_cons_succ]
      refine wpAnyU_take (i := 13) (oi := { dst := some 30, op := Op.move (Operand.tmp 5), type := 3, pos := "keep.go:114", after := #[{ on := 11, ground := Ground.guard }], guard := some (11, false) }) (v := (.int .i64 (k : Int))) rfl (by kernel_rfl) (by kernel_rfl) (by kernel_rfl) (by kernel_rfl) (by kernel_rfl) (fun _ _ _ h => h) (BL.cls wr) ?_ ?_
      · refine Or.inl ⟨rfl, fun w hSw => ?_⟩
        exact EffR.same (by go_simp)
      try simp only [Act.put, List.setIfInBounds_toArray, List.set_cons_zero, List.set_cons_succ]
      refine wpAnyU_take (i := 14) (oi := { dst := some 31, op := Op.indexAddr 24 (Operand.tmp 29) (Operand.tmp 30), type := 0, pos := "keep.go:114", after := #[{ on := 12, ground := Ground.data }, { on := 13, ground := Ground.data }, { on := 11, ground := Ground.guard }], guard := some (11, false) }) (v := (.pointer (some ⟨ba, offa + k * 3, none⟩))) rfl (by kernel_rfl) (by kernel_rfl) (by kernel_rfl) (by kernel_rfl) (by kernel_rfl) (fun _ _ _ h => h) (BL.cls wr) ?_ ?_
      · refine Or.inl ⟨rfl, fun w hSw => ?_⟩
        exact EffR.same (by go_simp)
      try simp only [Act.put, List.setIfInBounds_toArray, List.set_cons_zero, List.set_cons_succ]
      refine wpAnyU_take (i := 15) (oi := { dst := some 32, op := Op.fieldAddr 86 (Operand.tmp 31) 1, type := 0, pos := "keep.go:114", after := #[{ on := 14, ground := Ground.data }, { on := 11, ground := Ground.guard }], guard := some (11, false) }) (v := (.pointer (some ⟨ba, offa + k * 3 + 1, none⟩))) rfl (by kernel_rfl) (by kernel_rfl) (by kernel_rfl) (by kernel_rfl) (by kernel_rfl) (fun _ _ _ h => h) (BL.cls wr) ?_ ?_
      · refine Or.inl ⟨rfl, fun w hSw => ?_⟩
        exact EffR.same (by go_simp)
      try simp only [Act.put, List.setIfInBounds_toArray, List.set_cons_zero, List.set_cons_succ]
      refine wpAnyU_take (i := 16) (oi := { dst := some 33, op := Op.load 3 (Operand.tmp 32), type := 3, pos := "keep.go:114", after := #[{ on := 15, ground := Ground.data }, { on := 11, ground := Ground.guard }], guard := some (11, false) }) (v := (.int .i64 c.state)) rfl (by kernel_rfl) (by kernel_rfl) (by kernel_rfl) (by kernel_rfl) (by kernel_rfl) (fun _ _ _ h => h) (BL.cls wr) ?_ ?_
      · refine Or.inl ⟨rfl, fun w hSw => ?_⟩
        have e0 : w.cell? ⟨ba, offa + k * 3 + 1, none⟩ = some (.int .i64 c.state) := BL.cell hSw (HCA.out 1 _ rfl)
        exact EffR.same (by go_simp)
      try simp only [Act.put, List.setIfInBounds_toArray, List.set_cons_zero, List.set_cons_succ]
      refine wpAnyU_take (i := 17) (oi := { dst := some 34, op := Op.move (Operand.tmp 1), type := 24, pos := "keep.go:114", after := #[{ on := 11, ground := Ground.guard }], guard := some (11, false) }) (v := (.slice (some ⟨bb, offb, none⟩) n capb)) rfl (by kernel_rfl) (by kernel_rfl) (by kernel_rfl) (by kernel_rfl) (by kernel_rfl) (fun _ _ _ h => h) (BL.cls wr) ?_ ?_
      · refine Or.inl ⟨rfl, fun w hSw => ?_⟩
        exact EffR.same (by go_simp)
      try simp only [Act.put, List.setIfInBounds_toArray, List.set_cons_zero, List.set_cons_succ]
      refine wpAnyU_take (i := 18) (oi := { dst := some 35, op := Op.move (Operand.tmp 5), type := 3, pos := "keep.go:114", after := #[{ on := 11, ground := Ground.guard }], guard := some (11, false) }) (v := (.int .i64 (k : Int))) rfl (by kernel_rfl) (by kernel_rfl) (by kernel_rfl) (by kernel_rfl) (by kernel_rfl) (fun _ _ _ h => h) (BL.cls wr) ?_ ?_
      · refine Or.inl ⟨rfl, fun w hSw => ?_⟩
        exact EffR.same (by go_simp)
      try simp only [Act.put, List.setIfInBounds_toArray, List.set_cons_zero, List.set_cons_succ]
      refine wpAnyU_take (i := 19) (oi := { dst := some 36, op := Op.indexAddr 24 (Operand.tmp 34) (Operand.tmp 35), type := 0, pos := "keep.go:114", after := #[{ on := 17, ground := Ground.data }, { on := 18, ground := Ground.data }, { on := 11, ground := Ground.guard }], guard := some (11, false) }) (v := (.pointer (some ⟨bb, offb + k * 3, none⟩))) rfl (by kernel_rfl) (by kernel_rfl) (by kernel_rfl) (by kernel_rfl) (by kernel_rfl) (fun _ _ _ h => h) (BL.cls wr) ?_ ?_
      · refine Or.inl ⟨rfl, fun w hSw => ?_⟩
        exact EffR.same (by go_simp)
      try simp only [Act.put, List.setIfInBounds_toArray, List.set_cons_zero, List.set_cons_succ]
      refine wpAnyU_take (i := 20) (oi := { dst := some 37, op := Op.fieldAddr 86 (Operand.tmp 36) 1, type := 0, pos := "keep.go:114", after := #[{ on := 19, ground := Ground.data }, { on := 11, ground := Ground.guard }], guard := some (11, false) }) (v := (.pointer (some ⟨bb, offb + k * 3 + 1, none⟩))) rfl (by kernel_rfl) (by kernel_rfl) (by kernel_rfl) (by kernel_rfl) (by kernel_rfl) (fun _ _ _ h => h) (BL.cls wr) ?_ ?_
      · refine Or.inl ⟨rfl, fun w hSw => ?_⟩
        exact EffR.same (by go_simp)
      try simp only [Act.put, List.setIfInBounds_toArray, List.set_cons_zero, List.set_cons_succ]
      refine wpAnyU_take (i := 21) (oi := { dst := some 38, op := Op.load 3 (Operand.tmp 37), type := 3, pos := "keep.go:114", after := #[{ on := 20, ground := Ground.data }, { on := 11, ground := Ground.guard }], guard := some (11, false) }) (v := (.int .i64 c.state)) rfl (by kernel_rfl) (by kernel_rfl) (by kernel_rfl) (by kernel_rfl) (by kernel_rfl) (fun _ _ _ h => h) (BL.cls wr) ?_ ?_
      · refine Or.inl ⟨rfl, fun w hSw => ?_⟩
        have e0 : w.cell? ⟨bb, offb + k * 3 + 1, none⟩ = some (.int .i64 c.state) := BL.cell hSw (HCB.out 1 _ rfl)
        exact EffR.same (by go_simp)
      try simp only [Act.put, List.setIfInBounds_toArray, List.set_cons_zero, List.set_cons_succ]
      refine wpAnyU_take (i := 22) (oi := { dst := some 39, op := Op.binOp BinOp.neq 3 (Operand.tmp 33) (Operand.tmp 38) 3, type := 4, pos := "keep.go:114", after := #[{ on := 16, ground := Ground.data }, { on := 21, ground := Ground.data }, { on := 11, ground := Ground.guard }], guard := some (11, false) }) (v := (.bool false)) rfl (by kernel_rfl) (by kernel_rfl) (by kernel_rfl) (by kernel_rfl) (by kernel_rfl) (fun _ _ _ h => h) (BL.cls wr) ?_ ?_
      · refine Or.inl ⟨rfl, fun w hSw => ?_⟩
        exact EffR.same (by go_simp)
      try simp only [Act.put, List.setIfInBounds_toArray, List.set_cons_zero, List.set_cons_succ]
      refine wpAnyU_take (i := 23) (oi := { dst := some 40, op := Op.pick (Operand.tmp 28) (Operand.const (Value.bool true)) (Operand.tmp 39), type := 4, pos := "keep.go:114", after := #[{ on := 11, ground := Ground.data }, { on := 22, ground := Ground.data }], guard := none }) (v := (.bool false)) rfl (by kernel_rfl) (by kernel_rfl) (by kernel_rfl) (by kernel_rfl) (by kernel_rfl) (fun _ _ _ h => h) (BL.cls wr) ?_ ?_
      · refine Or.inl ⟨rfl, fun w hSw => ?_⟩
        exact EffR.same (by go_simp)
      try simp only [Act.put, List.setIfInBounds_toArray, List.set_cons_zero, List.set_cons_succ]
      refine wpAnyU_take (i := 24) (oi := { dst := some 41, op := Op.move (Operand.tmp 40), type := 4, pos := "keep.go:114", after := #[{ on := 23, ground := Ground.data }, { on := 11, ground := Ground.chain }], guard := none }) (v := (.bool false)) rfl (by kernel_rfl) (by kernel_rfl) (by kernel_rfl) (by kernel_rfl) (by kernel_rfl) (fun _ _ _ h => h) (BL.cls wr) ?_ ?_
      · refine Or.inl ⟨rfl, fun w hSw => ?_⟩
        exact EffR.same (by go_simp)
      try simp only [Act.put, List.setIfInBounds_toArray, List.set_cons_zero, List.set_cons_succ]
      refine wpAnyU_take (i := 25) (oi := { dst := some 42, op := Op.move (Operand.tmp 0), type := 24, pos := "keep.go:114", after := #[{ on := 24, ground := Ground.guard }], guard := some (24, false) }) (v := (.slice (some ⟨ba, offa, none⟩) n capa)) rfl (by kernel_rfl) (by kernel_rfl) (by kernel_rfl) (by kernel_rfl) (by kernel_rfl) (fun _ _ _ h => h) (BL.cls wr) ?_ ?_
      · refine Or.inl ⟨rfl, fun w hSw => ?_⟩
        exact EffR.same (by go_simp)
      try simp only [Act.put, List.setIfInBounds_toArray, List.set_cons_zero, List.set_cons_succ]
      refine wpAnyU_take (i := 26) (oi := { dst := some 43, op := Op.move (Operand.tmp 5), type := 3, pos := "keep.go:114", after := #[{ on := 24, ground := Ground.guard }], guard := some (24, false) }) (v := (.int .i64 (k : Int))) rfl (by kernel_rfl) (by kernel_rfl) (by kernel_rfl) (by kernel_rfl) (by kernel_rfl) (fun _ _ _ h => h) (BL.cls wr) ?_ ?_
      · refine Or.inl ⟨rfl, fun w hSw => ?_⟩
        exact EffR.same (by go_simp)
      try simp only [Act.put, List.setIfInBounds_toArray, List.set_cons_zero, List.set_cons_succ]
      refine wpAnyU_take (i := 27) (oi := { dst := some 44, op := Op.indexAddr 24 (Operand.tmp 42) (Operand.tmp 43), type := 0, pos := "keep.go:114", after := #[{ on := 25, ground := Ground.data }, { on := 26, ground := Ground.data }, { on := 24, ground := Ground.guard }], guard := some (24, false) }) (v := (.pointer (some ⟨ba, offa + k * 3, none⟩))) rfl (by kernel_rfl) (by kernel_rfl) (by kernel_rfl) (by kernel_rfl) (by kernel_rfl) (fun _ _ _ h => h) (BL.cls wr) ?_ ?_
      · refine Or.inl ⟨rfl, fun w hSw => ?_⟩
        exact EffR.same (by go_simp)
      try simp only [Act.put, List.setIfInBounds_toArray, List.set_cons_zero, List.set_cons_succ]
      refine wpAnyU_take (i := 28) (oi := { dst := some 45, op := Op.fieldAddr 86 (Operand.tmp 44) 2, type := 0, pos := "keep.go:114", after := #[{ on := 27, ground := Ground.data }, { on := 24, ground := Ground.guard }], guard := some (24, false) }) (v := (.pointer (some ⟨ba, offa + k * 3 + 2, none⟩))) rfl (by kernel_rfl) (by kernel_rfl) (by kernel_rfl) (by kernel_rfl) (by kernel_rfl) (fun _ _ _ h => h) (BL.cls wr) ?_ ?_
      · refine Or.inl ⟨rfl, fun w hSw => ?_⟩
        exact EffR.same (by go_simp)
      try simp only [Act.put, List.setIfInBounds_toArray, List.set_cons_zero, List.set_cons_succ]
      refine wpAnyU_take (i := 29) (oi := { dst := some 46, op := Op.load 3 (Operand.tmp 45), type := 3, pos := "keep.go:114", after := #[{ on := 28, ground := Ground.data }, { on := 24, ground := Ground.guard }], guard := some (24, false) }) (v := (.int .i64 c.need)) rfl (by kernel_rfl) (by kernel_rfl) (by kernel_rfl) (by kernel_rfl) (by kernel_rfl) (fun _ _ _ h => h) (BL.cls wr) ?_ ?_
      · refine Or.inl ⟨rfl, fun w hSw => ?_⟩
        have e0 : w.cell? ⟨ba, offa + k * 3 + 2, none⟩ = some (.int .i64 c.need) := BL.cell hSw (HCA.out 2 _ rfl)
        exact EffR.same (by go_simp)
      try simp only [Act.put, List.setIfInBounds_toArray, List.set_cons_zero, List.set_cons_succ]
      refine wpAnyU_take (i := 30) (oi := { dst := some 47, op := Op.move (Operand.tmp 1), type := 24, pos := "keep.go:114", after := #[{ on := 24, ground := Ground.guard }], guard := some (24, false) }) (v := (.slice (some ⟨bb, offb, none⟩) n capb)) rfl (by kernel_rfl) (by kernel_rfl) (by kernel_rfl) (by kernel_rfl) (by kernel_rfl) (fun _ _ _ h => h) (BL.cls wr) ?_ ?_
      · refine Or.inl ⟨rfl, fun w hSw => ?_⟩
        exact EffR.same (by go_simp)
      try simp only [Act.put, List.setIfInBounds_toArray, List.set_cons_zero, List.set_cons_succ]
      refine wpAnyU_take (i := 31) (oi := { dst := some 48, op := Op.move (Operand.tmp 5), type := 3, pos := "keep.go:114", after := #[{ on := 24, ground := Ground.guard }], guard := some (24, false) }) (v := (.int .i64 (k : Int))) rfl (by kernel_rfl) (by kernel_rfl) (by kernel_rfl) (by kernel_rfl) (by kernel_rfl) (fun _ _ _ h => h) (BL.cls wr) ?_ ?_
      · refine Or.inl ⟨rfl, fun w hSw => ?_⟩
        exact EffR.same (by go_simp)
      try simp only [Act.put, List.setIfInBounds_toArray, List.set_cons_zero, List.set_cons_succ]
      refine wpAnyU_take (i := 32) (oi := { dst := some 49, op := Op.indexAddr 24 (Operand.tmp 47) (Operand.tmp 48), type := 0, pos := "keep.go:114", after := #[{ on := 30, ground := Ground.data }, { on := 31, ground := Ground.data }, { on := 24, ground := Ground.guard }], guard := some (24, false) }) (v := (.pointer (some ⟨bb, offb + k * 3, none⟩))) rfl (by kernel_rfl) (by kernel_rfl) (by kernel_rfl) (by kernel_rfl) (by kernel_rfl) (fun _ _ _ h => h) (BL.cls wr) ?_ ?_
      · refine Or.inl ⟨rfl, fun w hSw => ?_⟩
        exact EffR.same (by go_simp)
      try simp only [Act.put, List.setIfInBounds_toArray, List.set_cons_zero, List.set_cons_succ]
      refine wpAnyU_take (i := 33) (oi := { dst := some 50, op := Op.fieldAddr 86 (Operand.tmp 49) 2, type := 0, pos := "keep.go:114", after := #[{ on := 32, ground := Ground.data }, { on := 24, ground := Ground.guard }], guard := some (24, false) }) (v := (.pointer (some ⟨bb, offb + k * 3 + 2, none⟩))) rfl (by kernel_rfl) (by kernel_rfl) (by kernel_rfl) (by kernel_rfl) (by kernel_rfl) (fun _ _ _ h => h) (BL.cls wr) ?_ ?_
      · refine Or.inl ⟨rfl, fun w hSw => ?_⟩
        exact EffR.same (by go_simp)
      try simp only [Act.put, List.setIfInBounds_toArray, List.set_cons_zero, List.set_cons_succ]
      refine wpAnyU_take (i := 34) (oi := { dst := some 51, op := Op.load 3 (Operand.tmp 50), type := 3, pos := "keep.go:114", after := #[{ on := 33, ground := Ground.data }, { on := 24, ground := Ground.guard }], guard := some (24, false) }) (v := (.int .i64 c.need)) rfl (by kernel_rfl) (by kernel_rfl) (by kernel_rfl) (by kernel_rfl) (by kernel_rfl) (fun _ _ _ h => h) (BL.cls wr) ?_ ?_
      · refine Or.inl ⟨rfl, fun w hSw => ?_⟩
        have e0 : w.cell? ⟨bb, offb + k * 3 + 2, none⟩ = some (.int .i64 c.need) := BL.cell hSw (HCB.out 2 _ rfl)
        exact EffR.same (by go_simp)
      try simp only [Act.put, List.setIfInBounds_toArray, List.set_cons_zero, List.set_cons_succ]
      refine wpAnyU_take (i := 35) (oi := { dst := some 52, op := Op.binOp BinOp.neq 3 (Operand.tmp 46) (Operand.tmp 51) 3, type := 4, pos := "keep.go:114", after := #[{ on := 29, ground := Ground.data }, { on := 34, ground := Ground.data }, { on := 24, ground := Ground.guard }], guard := some (24, false) }) (v := (.bool false)) rfl (by kernel_rfl) (by kernel_rfl) (by kernel_rfl) (by kernel_rfl) (by kernel_rfl) (fun _ _ _ h => h) (BL.cls wr) ?_ ?_
      · refine Or.inl ⟨rfl, fun w hSw => ?_⟩
        exact EffR.same (by go_simp)
      try simp only [Act.put, List.setIfInBounds_toArray, List.set_cons_zero, List.set_cons_succ]
      refine wpAnyU_take (i := 36) (oi := { dst := some 53, op := Op.pick (Operand.tmp 41) (Operand.const (Value.bool true)) (Operand.tmp 52), type := 4, pos := "keep.go:114", after := #[{ on := 24, ground := Ground.data }, { on := 35, ground := Ground.data }], guard := none }) (v := (.bool false)) rfl (by kernel_rfl) (by kernel_rfl) (by kernel_rfl) (by kernel_rfl) (by kernel_rfl) (fun _ _ _ h => h) (BL.cls wr) ?_ ?_
      · refine Or.inl ⟨rfl, fun w hSw => ?_⟩
        exact EffR.same (by go_simp)
      try simp only [Act.put, List.setIfInBounds_toArray, List.set_cons_zero, List.set_cons_succ]
      refine wpAnyU_done (by kernel_rfl) (fun w1 hb1 => ?_) _
      go_wp2_with fail
      exact ⟨⟨k + 1, by omega, by push_cast; rfl, bgoS HBL.out hb1⟩, by simp [intOf]; omega⟩
    · obtain rfl : k = n := by omega
      go_wp2_with fail
      go_ret
      exact ⟨rfl, HBL.out⟩

set_option maxRecDepth 100000 in
set_option maxHeartbeats 3200000 in
theorem KPledges_same (w : World) (va vb : Value) (L : List PlT) (ha : Rs PlT.vs 3 w va L) (hb : Rs PlT.vs 3 w vb L) :
    Calls Tryz.prog 44 #[va, vb] w fun e w' => e = .returned (.bool true) ∧ Below w.heap.size w w' := by
  obtain ⟨aa, capa, rfl, hcapa, hma⟩ := ha.shape
  obtain ⟨ab, capb, rfl, hcapb, hmb⟩ := hb.shape
  obtain ⟨n, hn⟩ : ∃ n, n = L.length := ⟨_, rfl⟩
  rw [← hn] at ha hb hcapa hcapb ⊢
  have HA := Lib.hid ha
  have HB := Lib.hid hb
  have HN := Lib.hid hn
  clear ha hb hn
  go_enter Tryz.func44, Tryz.ntmps44
  go_wp2_with fail
  go_loopw [5] (fun i wr => ∃ k : Nat, k ≤ n ∧ i = .int .i64 k ∧ Below w.heap.size w wr) (fun i _ => n - (intOf i).toNat)
  case atStart => exact ⟨0, Nat.zero_le _, rfl, Below.refl _ _⟩
  case round =>
    obtain ⟨k, hk, rfl, hbel⟩ := hrel
    have HBL := Lib.hid hbel
    by_cases hlt : k < n
    · have hkL : k < L.length := by rw [← HN.out]; exact hlt
      obtain ⟨ba, offa, rfl, _, hca⟩ := (HA.out.rew HN.out hbel).at (by omega) (by decide)
      obtain ⟨bb, offb, rfl, _, hcb⟩ := (HB.out.rew HN.out hbel).at (by omega) (by decide)
      obtain ⟨c, hc⟩ : ∃ c, c = L[k] := ⟨_, rfl⟩
      have HCA : Hid (∀ j v, [.int .i64 c.who, .int .i64 c.asset, .int .i64 c.units][j]? = some v → wr.cell? ⟨ba, offa + k * 3 + j, none⟩ = some v) := fun j v h => hca k hkL j v (by rw [← hc]; exact h)
      have HCB : Hid (∀ j v, [.int .i64 c.who, .int .i64 c.asset, .int .i64 c.units][j]? = some v → wr.cell? ⟨bb, offb + k * 3 + j, none⟩ = some v) := fun j v h => hcb k hkL j v (by rw [← hc]; exact h)
      have hk0 : (0 : Int) ≤ k := by omega
      have hk1 : (k : Int) < n := by omega
      clear hca hcb hbel hc
      go_wp2_with fail
      refine wp_region_bl 37 (by kernel_rfl) ?_
      refine wpAnyU_take (i := 0) (oi := { dst := some 17, op := Op.move (Operand.tmp 0), type := 36, pos := "keep.go:198", after := #[], guard := none }) (v := (.slice (some ⟨ba, offa, none⟩) n capa)) rfl (by kernel_rfl) (by kernel_rfl) (by kernel_rfl) (by kernel_rfl) (by kernel_rfl) (fun _ _ _ h => h) (BL.cls wr) ?_ ?_
      · refine Or.inl ⟨rfl, fun w hSw => ?_⟩
        exact EffR.same (by go_simp)
      try simp only [Act.put, List.setIfInBounds_toArray, List.set_cons_zero, List.set_cons_succ]
      refine wpAnyU_take (i := 1) (oi := { dst := some 18, op := Op.move (Operand.tmp 5), type := 3, pos := "keep.go:198", after := #[], guard := none }) (v := (.int .i64 (k : Int))) rfl (by kernel_rfl) (by kernel_rfl) (by kernel_rfl) (by kernel_rfl) (by kernel_rfl) (fun _ _ _ h => h) (BL.cls wr) ?_ ?_
      · refine Or.inl ⟨rfl, fun w hSw => ?_⟩
        exact EffR.same (by go_simp)
      try simp only [Act.put, List.setIfInBounds_toArray, List.set_cons_zero, List.set_cons_succ]
      refine wpAnyU_take (i := 2) (oi := { dst := some 19, op := Op.indexAddr 36 (Operand.tmp 17) (Operand.tmp 18), type := 0, pos := "keep.go:198", after := #[{ on := 0, ground := Ground.data }, { on := 1, ground := Ground.data }], guard := none }) (v := (.pointer (some ⟨ba, offa + k * 3, none⟩))) rfl (by kernel_rfl) (by kernel_rfl) (by kernel_rfl) (by kernel_rfl) (by kernel_rfl) (fun _ _ _ h => h) (BL.cls wr) ?_ ?_
      · refine Or.inl ⟨rfl, fun w hSw => ?_⟩
        exact EffR.same (by go_simp)
      try simp only [Act.put, List.setIfInBounds_toArray, List.set_cons_zero, List.set_cons_succ]
      refine wpAnyU_take (i := 3) (oi := { dst := some 20, op := Op.fieldAddr 104 (Operand.tmp 19) 0, type := 0, pos := "keep.go:198", after := #[{ on := 2, ground := Ground.data }], guard := none }) (v := (.pointer (some ⟨ba, offa + k * 3, none⟩))) rfl (by kernel_rfl) (by kernel_rfl) (by kernel_rfl) (by kernel_rfl) (by kernel_rfl) (fun _ _ _ h => h) (BL.cls wr) ?_ ?_
      · refine Or.inl ⟨rfl, fun w hSw => ?_⟩
        exact EffR.same (by go_simp)
      try simp only [Act.put, List.setIfInBounds_toArray, List.set_cons_zero, List.set_cons_succ]
      refine wpAnyU_take (i := 4) (oi := { dst := some 21, op := Op.load 3 (Operand.tmp 20), type := 3, pos := "keep.go:198", after := #[{ on := 3, ground := Ground.data }], guard := none }) (v := (.int .i64 c.who)) rfl (by kernel_rfl) (by kernel_rfl) (by kernel_rfl) (by kernel_rfl) (by kernel_rfl) (fun _ _ _ h => h) (BL.cls wr) ?_ ?_
      · refine Or.inl ⟨rfl, fun w hSw => ?_⟩
        have e0 : w.cell? ⟨ba, offa + k * 3, none⟩ = some (.int .i64 c.who) := BL.cell hSw (HCA.out 0 _ rfl)
        exact EffR.same (by go_simp)
      try simp only [Act.put, List.setIfInBounds_toArray, List.set_cons_zero, List.set_cons_succ]
      refine wpAnyU_take (i := 5) (oi := { dst := some 22, op := Op.move (Operand.tmp 1), type := 36, pos := "keep.go:198", after := #[], guard := none }) (v := (.slice (some ⟨bb, offb, none⟩) n capb)) rfl (by kernel_rfl) (by kernel_rfl) (by kernel_rfl) (by kernel_rfl) (by kernel_rfl) (fun _ _ _ h => h) (BL.cls wr) ?_ ?_
      · refine Or.inl ⟨rfl, fun w hSw => ?_⟩
        exact EffR.same (by go_simp)
      try simp only [Act.put, List.setIfInBounds_toArray, List.set_cons_zero, List.set_cons_succ]
      refine wpAnyU_take (i := 6) (oi := { dst := some 23, op := Op.move (Operand.tmp 5), type := 3, pos := "keep.go:198", after := #[], guard := none }) (v := (.int .i64 (k : Int))) rfl (by kernel_rfl) (by kernel_rfl) (by kernel_rfl) (by kernel_rfl) (by kernel_rfl) (fun _ _ _ h => h) (BL.cls wr) ?_ ?_
      · refine Or.inl ⟨rfl, fun w hSw => ?_⟩
        exact EffR.same (by go_simp)
      try simp only [Act.put, List.setIfInBounds_toArray, List.set_cons_zero, List.set_cons_succ]
      refine wpAnyU_take (i := 7) (oi := { dst := some 24, op := Op.indexAddr 36 (Operand.tmp 22) (Operand.tmp 23), type := 0, pos := "keep.go:198", after := #[{ on := 5, ground := Ground.data }, { on := 6, ground := Ground.data }], guard := none }) (v := (.pointer (some ⟨bb, offb + k * 3, none⟩))) rfl (by kernel_rfl) (by kernel_rfl) (by kernel_rfl) (by kernel_rfl) (by kernel_rfl) (fun _ _ _ h => h) (BL.cls wr) ?_ ?_
      · refine Or.inl ⟨rfl, fun w hSw => ?_⟩
        exact EffR.same (by go_simp)
      try simp only [Act.put, List.setIfInBounds_toArray, List.set_cons_zero, List.set_cons_succ]
      refine wpAnyU_take (i := 8) (oi := { dst := some 25, op := Op.fieldAddr 104 (Operand.tmp 24) 0, type := 0, pos := "keep.go:198", after := #[{ on := 7, ground := Ground.data }], guard := none }) (v := (.pointer (some ⟨bb, offb + k * 3, none⟩))) rfl (by kernel_rfl) (by kernel_rfl) (by kernel_rfl) (by kernel_rfl) (by kernel_rfl) (fun _ _ _ h => h) (BL.cls wr) ?_ ?_
      · refine Or.inl ⟨rfl, fun w hSw => ?_⟩
        exact EffR.same (by go_simp)
      try simp only [Act.put, List.setIfInBounds_toArray, List.set_cons_zero, List.set_cons_succ]
      refine wpAnyU_take (i := 9) (oi := { dst := some 26, op := Op.load 3 (Operand.tmp 25), type := 3, pos := "keep.go:198", after := #[{ on := 8, ground := Ground.data }], guard := none }) (v := (.int .i64 c.who)) rfl (by kernel_rfl) (by kernel_rfl) (by kernel_rfl) (by kernel_rfl) (by kernel_rfl) (fun _ _ _ h => h) (BL.cls wr) ?_ ?_
      · refine Or.inl ⟨rfl, fun w hSw => ?_⟩
        have e0 : w.cell? ⟨bb, offb + k * 3, none⟩ = some (.int .i64 c.who) := BL.cell hSw (HCB.out 0 _ rfl)
        exact EffR.same (by go_simp)
      try simp only [Act.put, List.setIfInBounds_toArray, List.set_cons_zero, List.set_cons_succ]
      refine wpAnyU_take (i := 10) (oi := { dst := some 27, op := Op.binOp BinOp.neq 3 (Operand.tmp 21) (Operand.tmp 26) 3, type := 4, pos := "keep.go:198", after := #[{ on := 4, ground := Ground.data }, { on := 9, ground := Ground.data }], guard := none }) (v := (.bool false)) rfl (by kernel_rfl) (by kernel_rfl) (by kernel_rfl) (by kernel_rfl) (by kernel_rfl) (fun _ _ _ h => h) (BL.cls wr) ?_ ?_
      · refine Or.inl ⟨rfl, fun w hSw => ?_⟩
        exact EffR.same (by go_simp)
      try simp only [Act.put, List.setIfInBounds_toArray, List.set_cons_zero, List.set_cons_succ]
      refine wpAnyU_take (i := 11) (oi := { dst := some 28, op := Op.move (Operand.tmp 27), type := 4, pos := "keep.go:198", after := #[{ on := 10, ground := Ground.data }], guard := none }) (v := (.bool false)) rfl (by kernel_rfl) (by kernel_rfl) (by kernel_rfl) (by kernel_rfl) (by kernel_rfl) (fun _ _ _ h => h) (BL.cls wr) ?_ ?_
      · refine Or.inl ⟨rfl, fun w hSw => ?_⟩
        exact EffR.same (by go_simp)
      try simp only [Act.put, List.setIfInBounds_toArray, List.set_cons_zero, List.set_cons_succ]
      refine wpAnyU_take (i := 12) (oi := { dst := some 29, op := Op.move (Operand.tmp 0), type := 36, pos := "keep.go:198", after := #[{ on := 11, ground := Ground.guard }], guard := some (11, false) }) (v := (.slice (some ⟨ba, offa, none⟩) n capa)) rfl (by kernel_rfl) (by kernel_rfl) (by kernel_rfl) (by kernel_rfl) (by kernel_rfl) (fun _ _ _ h => h) (BL.cls wr) ?_ ?_
      · refine Or.inl ⟨rfl, fun w hSw => ?_⟩
        exact EffR.same (by go_simp)
      try simp only [Act.put, List.setIfInBounds_toArray, List.set_cons_zero, List.set_cons_succ]
      refine wpAnyU_take (i := 13) (oi := { dst := some 30, op := Op.move (Operand.tmp 5), type := 3, pos := "keep.go:198", after := #[{ on := 11, ground := Ground.guard }], guard := some (11, false) }) (v := (.int .i64 (k : Int))) rfl (by kernel_rfl) (by kernel_rfl) (by kernel_rfl) (by kernel_rfl) (by kernel_rfl) (fun _ _ _ h => h) (BL.cls wr) ?_ ?_
      · refine Or.inl ⟨rfl, fun w hSw => ?_⟩
        exact EffR.same (by go_simp)
      try simp only [Act.put, List.setIfInBounds_toArray, List.set_cons_zero, List.set_cons_succ]
      refine wpAnyU_take (i := 14) (oi := { dst := some 31, op := Op.indexAddr 36 (Operand.tmp 29) (Operand.tmp 30), type := 0, pos := "keep.go:198", after := #[{ on := 12, ground := Ground.data }, { on := 13, ground := Ground.data }, { on := 11, ground := Ground.guard }], guard := some (11, false) }) (v := (.pointer (some ⟨ba, offa + k * 3, none⟩))) rfl (by kernel_rfl) (by kernel_rfl) (by kernel_rfl) (by kernel_rfl) (by kernel_rfl) (fun _ _ _ h => h) (BL.cls wr) ?_ ?_
      · refine Or.inl ⟨rfl, fun w hSw => ?_⟩
        exact EffR.same (by go_simp)
      try simp only [Act.put, List.setIfInBounds_toArray, List.set_cons_zero, List.set_cons_succ]
      refine wpAnyU_take (i := 15) (oi := { dst := some 32, op := Op.fieldAddr 104 (Operand.tmp 31) 1, type := 0, pos := "keep.go:198", after := #[{ on := 14, ground := Ground.data }, { on := 11, ground := Ground.guard }], guard := some (11, false) }) (v := (.pointer (some ⟨ba, offa + k * 3 + 1, none⟩))) rfl (by kernel_rfl) (by kernel_rfl) (by kernel_rfl) (by kernel_rfl) (by kernel_rfl) (fun _ _ _ h => h) (BL.cls wr) ?_ ?_
      · refine Or.inl ⟨rfl, fun w hSw => ?_⟩
        exact EffR.same (by go_simp)
      try simp only [Act.put, List.setIfInBounds_toArray, List.set_cons_zero, List.set_cons_succ]
      refine wpAnyU_take (i := 16) (oi := { dst := some 33, op := Op.load 3 (Operand.tmp 32), type := 3, pos := "keep.go:198", after := #[{ on := 15, ground := Ground.data }, { on := 11, ground := Ground.guard }], guard := some (11, false) }) (v := (.int .i64 c.asset)) rfl (by kernel_rfl) (by kernel_rfl) (by kernel_rfl) (by kernel_rfl) (by kernel_rfl) (fun _ _ _ h => h) (BL.cls wr) ?_ ?_
      · refine Or.inl ⟨rfl, fun w hSw => ?_⟩
        have e0 : w.cell? ⟨ba, offa + k * 3 + 1, none⟩ = some (.int .i64 c.asset) := BL.cell hSw (HCA.out 1 _ rfl)
        exact EffR.same (by go_simp)
      try simp only [Act.put, List.setIfInBounds_toArray, List.set_cons_zero, List.set_cons_succ]
      refine wpAnyU_take (i := 17) (oi := { dst := some 34, op := Op.move (Operand.tmp 1), type := 36, pos := "keep.go:198", after := #[{ on := 11, ground := Ground.guard }], guard := some (11, false) }) (v := (.slice (some ⟨bb, offb, none⟩) n capb)) rfl (by kernel_rfl) (by kernel_rfl) (by kernel_rfl) (by kernel_rfl) (by kernel_rfl) (fun _ _ _ h => h) (BL.cls wr) ?_ ?_
      · refine Or.inl ⟨rfl, fun w hSw => ?_⟩
        exact EffR.same (by go_simp)
      try simp only [Act.put, List.setIfInBounds_toArray, List.set_cons_zero, List.set_cons_succ]
      refine wpAnyU_take (i := 18) (oi := { dst := some 35, op := Op.move (Operand.tmp 5), type := 3, pos := "keep.go:198", after := #[{ on := 11, ground := Ground.guard }], guard := some (11, false) }) (v := (.int .i64 (k : Int))) rfl (by kernel_rfl) (by kernel_rfl) (by kernel_rfl) (by kernel_rfl) (by kernel_rfl) (fun _ _ _ h => h) (BL.cls wr) ?_ ?_
      · refine Or.inl ⟨rfl, fun w hSw => ?_⟩
        exact EffR.same (by go_simp)
      try simp only [Act.put, List.setIfInBounds_toArray, List.set_cons_zero, List.set_cons_succ]
      refine wpAnyU_take (i := 19) (oi := { dst := some 36, op := Op.indexAddr 36 (Operand.tmp 34) (Operand.tmp 35), type := 0, pos := "keep.go:198", after := #[{ on := 17, ground := Ground.data }, { on := 18, ground := Ground.data }, { on := 11, ground := Ground.guard }], guard := some (11, false) }) (v := (.pointer (some ⟨bb, offb + k * 3, none⟩))) rfl (by kernel_rfl) (by kernel_rfl) (by kernel_rfl) (by kernel_rfl) (by kernel_rfl) (fun _ _ _ h => h) (BL.cls wr) ?_ ?_
      · refine Or.inl ⟨rfl, fun w hSw => ?_⟩
        exact EffR.same (by go_simp)
      try simp only [Act.put, List.setIfInBounds_toArray, List.set_cons_zero, List.set_cons_succ]
      refine wpAnyU_take (i := 20) (oi := { dst := some 37, op := Op.fieldAddr 104 (Operand.tmp 36) 1, type := 0, pos := "keep.go:198", after := #[{ on := 19, ground := Ground.data }, { on := 11, ground := Ground.guard }], guard := some (11, false) }) (v := (.pointer (some ⟨bb, offb + k * 3 + 1, none⟩))) rfl (by kernel_rfl) (by kernel_rfl) (by kernel_rfl) (by kernel_rfl) (by kernel_rfl) (fun _ _ _ h => h) (BL.cls wr) ?_ ?_
      · refine Or.inl ⟨rfl, fun w hSw => ?_⟩
        exact EffR.same (by go_simp)
      try simp only [Act.put, List.setIfInBounds_toArray, List.set_cons_zero, List.set_cons_succ]
      refine wpAnyU_take (i := 21) (oi := { dst := some 38, op := Op.load 3 (Operand.tmp 37), type := 3, pos := "keep.go:198", after := #[{ on := 20, ground := Ground.data }, { on := 11, ground := Ground.guard }], guard := some (11, false) }) (v := (.int .i64 c.asset)) rfl (by kernel_rfl) (by kernel_rfl) (by kernel_rfl) (by kernel_rfl) (by kernel_rfl) (fun _ _ _ h => h) (BL.cls wr) ?_ ?_
      · refine Or.inl ⟨rfl, fun w hSw => ?_⟩
        have e0 : w.cell? ⟨bb, offb + k * 3 + 1, none⟩ = some (.int .i64 c.asset) := BL.cell hSw (HCB.out 1 _ rfl)
        exact EffR.same (by go_simp)
      try simp only [Act.put, List.setIfInBounds_toArray, List.set_cons_zero, List.set_cons_succ]
      refine wpAnyU_take (i := 22) (oi := { dst := some 39, op := Op.binOp BinOp.neq 3 (Operand.tmp 33) (Operand.tmp 38) 3, type := 4, pos := "keep.go:198", after := #[{ on := 16, ground := Ground.data }, { on := 21, ground := Ground.data }, { on := 11, ground := Ground.guard }], guard := some (11, false) }) (v := (.bool false)) rfl (by kernel_rfl) (by kernel_rfl) (by kernel_rfl) (by kernel_rfl) (by kernel_rfl) (fun _ _ _ h => h) (BL.cls wr) ?_ ?_
      · refine Or.inl ⟨rfl, fun w hSw => ?_⟩
        exact EffR.same (by go_simp)
      try simp only [Act.put, List.setIfInBounds_toArray, List.set_cons_zero, List.set_cons_succ]
      refine wpAnyU_take (i := 23) (oi := { dst := some 40, op := Op.pick (Operand.tmp 28) (Operand.const (Value.bool true)) (Operand.tmp 39), type := 4, pos := "keep.go:198", after := #[{ on := 11, ground := Ground.data }, { on := 22, ground := Ground.data }], guard := none }) (v := (.bool false)) rfl (by kernel_rfl) (by kernel_rfl) (by kernel_rfl) (by kernel_rfl) (by kernel_rfl) (fun _ _ _ h => h) (BL.cls wr) ?_ ?_
      · refine Or.inl ⟨rfl, fun w hSw => ?_⟩
        exact EffR.same (by go_simp)
      try simp only [Act.put, List.setIfInBounds_toArray, List.set_cons_zero, List.set_cons_succ]
      refine wpAnyU_take (i := 24) (oi := { dst := some 41, op := Op.move (Operand.tmp 40), type := 4, pos := "keep.go:198", after := #[{ on := 23, ground := Ground.data }, { on := 11, ground := Ground.chain }], guard := none }) (v := (.bool false)) rfl (by kernel_rfl) (by kernel_rfl) (by kernel_rfl) (by kernel_rfl) (by kernel_rfl) (fun _ _ _ h => h) (BL.cls wr) ?_ ?_
      · refine Or.inl ⟨rfl, fun w hSw => ?_⟩
        exact EffR.same (by go_simp)
      try simp only [Act.put, List.setIfInBounds_toArray, List.set_cons_zero, List.set_cons_succ]
      refine wpAnyU_take (i := 25) (oi := { dst := some 42, op := Op.move (Operand.tmp 0), type := 36, pos := "keep.go:198", after := #[{ on := 24, ground := Ground.guard }], guard := some (24, false) }) (v := (.slice (some ⟨ba, offa, none⟩) n capa)) rfl (by kernel_rfl) (by kernel_rfl) (by kernel_rfl) (by kernel_rfl) (by kernel_rfl) (fun _ _ _ h => h) (BL.cls wr) ?_ ?_
      · refine Or.inl ⟨rfl, fun w hSw => ?_⟩
        exact EffR.same (by go_simp)
      try simp only [Act.put, List.setIfInBounds_toArray, List.set_cons_zero, List.set_cons_succ]
      refine wpAnyU_take (i := 26) (oi := { dst := some 43, op := Op.move (Operand.tmp 5), type := 3, pos := "keep.go:198", after := #[{ on := 24, ground := Ground.guard }], guard := some (24, false) }) (v := (.int .i64 (k : Int))) rfl (by kernel_rfl) (by kernel_rfl) (by kernel_rfl) (by kernel_rfl) (by kernel_rfl) (fun _ _ _ h => h) (BL.cls wr) ?_ ?_
      · refine Or.inl ⟨rfl, fun w hSw => ?_⟩
        exact EffR.same (by go_simp)
      try simp only [Act.put, List.setIfInBounds_toArray, List.set_cons_zero, List.set_cons_succ]
      refine wpAnyU_take (i := 27) (oi := { dst := some 44, op := Op.indexAddr 36 (Operand.tmp 42) (Operand.tmp 43), type := 0, pos := "keep.go:198", after := #[{ on := 25, ground := Ground.data }, { on := 26, ground := Ground.data }, { on := 24, ground := Ground.guard }], guard := some (24, false) }) (v := (.pointer (some ⟨ba, offa + k * 3, none⟩))) rfl (by kernel_rfl) (by kernel_rfl) (by kernel_rfl) (by kernel_rfl) (by kernel_rfl) (fun _ _ _ h => h) (BL.cls wr) ?_ ?_
      · refine Or.inl ⟨rfl, fun w hSw => ?_⟩
        exact EffR.same (by go_simp)
      try simp only [Act.put, List.setIfInBounds_toArray, List.set_cons_zero, List.set_cons_succ]
      refine wpAnyU_take (i := 28) (oi := { dst := some 45, op := Op.fieldAddr 104 (Operand.tmp 44) 2, type := 0, pos := "keep.go:198", after := #[{ on := 27, ground := Ground.data }, { on := 24, ground := Ground.guard }], guard := some (24, false) }) (v := (.pointer (some ⟨ba, offa + k * 3 + 2, none⟩))) rfl (by kernel_rfl) (by kernel_rfl) (by kernel_rfl) (by kernel_rfl) (by kernel_rfl) (fun _ _ _ h => h) (BL.cls wr) ?_ ?_
      · refine Or.inl ⟨rfl, fun w hSw => ?_⟩
        exact EffR.same (by go_simp)
      try simp only [Act.put, List.setIfInBounds_toArray, List.set_cons_zero, List.set_cons_succ]
      refine wpAnyU_take (i := 29) (oi := { dst := some 46, op := Op.load 3 (Operand.tmp 45), type := 3, pos := "keep.go:198", after := #[{ on := 28, ground := Ground.data }, { on := 24, ground := Ground.guard }], guard := some (24, false) }) (v := (.int .i64 c.units)) rfl (by kernel_rfl) (by kernel_rfl) (by kernel_rfl) (by kernel_rfl) (by kernel_rfl) (fun _ _ _ h => h) (BL.cls wr) ?_ ?_
      · refine Or.inl ⟨rfl, fun w hSw => ?_⟩
        have e0 : w.cell? ⟨ba, offa + k * 3 + 2, none⟩ = some (.int .i64 c.units) := BL.cell hSw (HCA.out 2 _ rfl)
        exact EffR.same (by go_simp)
      try simp only [Act.put, List.setIfInBounds_toArray, List.set_cons_zero, List.set_cons_succ]
      refine wpAnyU_take (i := 30) (oi := { dst := some 47, op := Op.move (Operand.tmp 1), type := 36, pos := "keep.go:198", after := #[{ on := 24, ground := Ground.guard }], guard := some (24, false) }) (v := (.slice (some ⟨bb, offb, none⟩) n capb)) rfl (by kernel_rfl) (by kernel_rfl) (by kernel_rfl) (by kernel_rfl) (by kernel_rfl) (fun _ _ _ h => h) (BL.cls wr) ?_ ?_
      · refine Or.inl ⟨rfl, fun w hSw => ?_⟩
        exact EffR.same (by go_simp)
      try simp only [Act.put, List.setIfInBounds_toArray, List.set_cons_zero, List.set_cons_succ]
      refine wpAnyU_take (i := 31) (oi := { dst := some 48, op := Op.move (Operand.tmp 5), type := 3, pos := "keep.go:198", after := #[{ on := 24, ground := Ground.guard }], guard := some (24, false) }) (v := (.int .i64 (k : Int))) rfl (by kernel_rfl) (by kernel_rfl) (by kernel_rfl) (by kernel_rfl) (by kernel_rfl) (fun _ _ _ h => h) (BL.cls wr) ?_ ?_
      · refine Or.inl ⟨rfl, fun w hSw => ?_⟩
        exact EffR.same (by go_simp)
      try simp only [Act.put, List.setIfInBounds_toArray, List.set_cons_zero, List.set_cons_succ]
      refine wpAnyU_take (i := 32) (oi := { dst := some 49, op := Op.indexAddr 36 (Operand.tmp 47) (Operand.tmp 48), type := 0, pos := "keep.go:198", after := #[{ on := 30, ground := Ground.data }, { on := 31, ground := Ground.data }, { on := 24, ground := Ground.guard }], guard := some (24, false) }) (v := (.pointer (some ⟨bb, offb + k * 3, none⟩))) rfl (by kernel_rfl) (by kernel_rfl) (by kernel_rfl) (by kernel_rfl) (by kernel_rfl) (fun _ _ _ h => h) (BL.cls wr) ?_ ?_
      · refine Or.inl ⟨rfl, fun w hSw => ?_⟩
        exact EffR.same (by go_simp)
      try simp only [Act.put, List.setIfInBounds_toArray, List.set_cons_zero, List.set_cons_succ]
      refine wpAnyU_take (i := 33) (oi := { dst := some 50, op := Op.fieldAddr 104 (Operand.tmp 49) 2, type := 0, pos := "keep.go:198", after := #[{ on := 32, ground := Ground.data }, { on := 24, ground := Ground.guard }], guard := some (24, false) }) (v := (.pointer (some ⟨bb, offb + k * 3 + 2, none⟩))) rfl (by kernel_rfl) (by kernel_rfl) (by kernel_rfl) (by kernel_rfl) (by kernel_rfl) (fun _ _ _ h => h) (BL.cls wr) ?_ ?_
      · refine Or.inl ⟨rfl, fun w hSw => ?_⟩
        exact EffR.same (by go_simp)
      try simp only [Act.put, List.setIfInBounds_toArray, List.set_cons_zero, List.set_cons_succ]
      refine wpAnyU_take (i := 34) (oi := { dst := some 51, op := Op.load 3 (Operand.tmp 50), type := 3, pos := "keep.go:198", after := #[{ on := 33, ground := Ground.data }, { on := 24, ground := Ground.guard }], guard := some (24, false) }) (v := (.int .i64 c.units)) rfl (by kernel_rfl) (by kernel_rfl) (by kernel_rfl) (by kernel_rfl) (by kernel_rfl) (fun _ _ _ h => h) (BL.cls wr) ?_ ?_
      · refine Or.inl ⟨rfl, fun w hSw => ?_⟩
        have e0 : w.cell? ⟨bb, offb + k * 3 + 2, none⟩ = some (.int .i64 c.units) := BL.cell hSw (HCB.out 2 _ rfl)
        exact EffR.same (by go_simp)
      try simp only [Act.put, List.setIfInBounds_toArray, List.set_cons_zero, List.set_cons_succ]
      refine wpAnyU_take (i := 35) (oi := { dst := some 52, op := Op.binOp BinOp.neq 3 (Operand.tmp 46) (Operand.tmp 51) 3, type := 4, pos := "keep.go:198", after := #[{ on := 29, ground := Ground.data }, { on := 34, ground := Ground.data }, { on := 24, ground := Ground.guard }], guard := some (24, false) }) (v := (.bool false)) rfl (by kernel_rfl) (by kernel_rfl) (by kernel_rfl) (by kernel_rfl) (by kernel_rfl) (fun _ _ _ h => h) (BL.cls wr) ?_ ?_
      · refine Or.inl ⟨rfl, fun w hSw => ?_⟩
        exact EffR.same (by go_simp)
      try simp only [Act.put, List.setIfInBounds_toArray, List.set_cons_zero, List.set_cons_succ]
      refine wpAnyU_take (i := 36) (oi := { dst := some 53, op := Op.pick (Operand.tmp 41) (Operand.const (Value.bool true)) (Operand.tmp 52), type := 4, pos := "keep.go:198", after := #[{ on := 24, ground := Ground.data }, { on := 35, ground := Ground.data }], guard := none }) (v := (.bool false)) rfl (by kernel_rfl) (by kernel_rfl) (by kernel_rfl) (by kernel_rfl) (by kernel_rfl) (fun _ _ _ h => h) (BL.cls wr) ?_ ?_
      · refine Or.inl ⟨rfl, fun w hSw => ?_⟩
        exact EffR.same (by go_simp)
      try simp only [Act.put, List.setIfInBounds_toArray, List.set_cons_zero, List.set_cons_succ]
      refine wpAnyU_done (by kernel_rfl) (fun w1 hb1 => ?_) _
      go_wp2_with fail
      exact ⟨⟨k + 1, by omega, by push_cast; rfl, bgoS HBL.out hb1⟩, by simp [intOf]; omega⟩
    · obtain rfl : k = n := by omega
      go_wp2_with fail
      go_ret
      exact ⟨rfl, HBL.out⟩

set_option maxRecDepth 100000 in
set_option maxHeartbeats 3200000 in
theorem KCalls_same (w : World) (va vb : Value) (L : List CaT) (ha : Rs CaT.vs 4 w va L) (hb : Rs CaT.vs 4 w vb L) :
    Calls Tryz.prog 45 #[va, vb] w fun e w' => e = .returned (.bool true) ∧ Below w.heap.size w w' := by
  obtain ⟨aa, capa, rfl, hcapa, hma⟩ := ha.shape
  obtain ⟨ab, capb, rfl, hcapb, hmb⟩ := hb.shape
  obtain ⟨n, hn⟩ : ∃ n, n = L.length := ⟨_, rfl⟩
  rw [← hn] at ha hb hcapa hcapb ⊢
  have HA := Lib.hid ha
  have HB := Lib.hid hb
  have HN := Lib.hid hn
  clear ha hb hn
  go_enter Tryz.func45, Tryz.ntmps45
  go_wp2_with fail
  go_loopw [5] (fun i wr => ∃ k : Nat, k ≤ n ∧ i = .int .i64 k ∧ Below w.heap.size w wr) (fun i _ => n - (intOf i).toNat)
  case atStart => exact ⟨0, Nat.zero_le _, rfl, Below.refl _ _⟩
  case round =>
    obtain ⟨k, hk, rfl, hbel⟩ := hrel
    have HBL := Lib.hid hbel
    by_cases hlt : k < n
    · have hkL : k < L.length := by rw [← HN.out]; exact hlt
      obtain ⟨ba, offa, rfl, _, hca⟩ := (HA.out.rew HN.out hbel).at (by omega) (by decide)
      obtain ⟨bb, offb, rfl, _, hcb⟩ := (HB.out.rew HN.out hbel).at (by omega) (by decide)
      obtain ⟨c, hc⟩ : ∃ c, c = L[k] := ⟨_, rfl⟩
      have HCA : Hid (∀ j v, [.int .i64 c.who, .int .i64 c.cur, .int .i64 c.amt, .int .i64 c.tick][j]? = some v → wr.cell? ⟨ba, offa + k * 4 + j, none⟩ = some v) := fun j v h => hca k hkL j v (by rw [← hc]; exact h)
      have HCB : Hid (∀ j v, [.int .i64 c.who, .int .i64 c.cur, .int .i64 c.amt, .int .i64 c.tick][j]? = some v → wr.cell? ⟨bb, offb + k * 4 + j, none⟩ = some v) := fun j v h => hcb k hkL j v (by rw [← hc]; exact h)
      have hk0 : (0 : Int) ≤ k := by omega
      have hk1 : (k : Int) < n := by omega
      clear hca hcb hbel hc
      go_wp2_with fail
      refine wp_region_bl 25 (by kernel_rfl) ?_
      refine wpAnyU_take (i := 0) (oi := { dst := some 17, op := Op.move (Operand.tmp 0), type := 37, pos := "keep.go:210", after := #[], guard := none }) (v := (.slice (some ⟨ba, offa, none⟩) n capa)) rfl (by kernel_rfl) (by kernel_rfl) (by kernel_rfl) (by kernel_rfl) (by kernel_rfl) (fun _ _ _ h => h) (BL.cls wr) ?_ ?_
      · refine Or.inl ⟨rfl, fun w hSw => ?_⟩
        exact EffR.same (by go_simp)
      try simp only [Act.put, List.setIfInBounds_toArray, List.set_cons_zero, List.set_cons_succ]
      refine wpAnyU_take (i := 1) (oi := { dst := some 18, op := Op.move (Operand.tmp 5), type := 3, pos := "keep.go:210", after := #[], guard := none }) (v := (.int .i64 (k : Int))) rfl (by kernel_rfl) (by kernel_rfl) (by kernel_rfl) (by kernel_rfl) (by kernel_rfl) (fun _ _ _ h => h) (BL.cls wr) ?_ ?_
      · refine Or.inl ⟨rfl, fun w hSw => ?_⟩
        exact EffR.same (by go_simp)
      try simp only [Act.put, List.setIfInBounds_toArray, List.set_cons_zero, List.set_cons_succ]
      refine wpAnyU_take (i := 2) (oi := { dst := some 19, op := Op.indexAddr 37 (Operand.tmp 17) (Operand.tmp 18), type := 0, pos := "keep.go:210", after := #[{ on := 0, ground := Ground.data }, { on := 1, ground := Ground.data }], guard := none }) (v := (.pointer (some ⟨ba, offa + k * 4, none⟩))) rfl (by kernel_rfl) (by kernel_rfl) (by kernel_rfl) (by kernel_rfl) (by kernel_rfl) (fun _ _ _ h => h) (BL.cls wr) ?_ ?_
      · refine Or.inl ⟨rfl, fun w hSw => ?_⟩
        exact EffR.same (by go_simp)
      try simp only [Act.put, List.setIfInBounds_toArray, List.set_cons_zero, List.set_cons_succ]
      refine wpAnyU_take (i := 3) (oi := { dst := some 20, op := Op.fieldAddr 108 (Operand.tmp 19) 0, type := 0, pos := "keep.go:210", after := #[{ on := 2, ground := Ground.data }], guard := none }) (v := (.pointer (some ⟨ba, offa + k * 4, none⟩))) rfl (by kernel_rfl) (by kernel_rfl) (by kernel_rfl) (by kernel_rfl) (by kernel_rfl) (fun _ _ _ h => h) (BL.cls wr) ?_ ?_
      · refine Or.inl ⟨rfl, fun w hSw => ?_⟩
        exact EffR.same (by go_simp)
      try simp only [Act.put, List.setIfInBounds_toArray, List.set_cons_zero, List.set_cons_succ]
      refine wpAnyU_take (i := 4) (oi := { dst := some 21, op := Op.load 106 (Operand.tmp 20), type := 106, pos := "keep.go:210", after := #[{ on := 3, ground := Ground.data }], guard := none }) (v := (.agg #[.int .i64 c.who, .int .i64 c.cur, .int .i64 c.amt])) rfl (by kernel_rfl) (by kernel_rfl) (by kernel_rfl) (by kernel_rfl) (by kernel_rfl) (fun _ _ _ h => h) (BL.cls wr) ?_ ?_
      · refine Or.inl ⟨rfl, fun w hSw => ?_⟩
        exact eff_load_mid 106 (.tmp 20) rfl ba (offa + k * 4) rfl [.int .i64 c.who, .int .i64 c.cur, .int .i64 c.amt] _ (fun j v h => BL.cell hSw (by have h7 := HCA.out (0 + j) v (by rcases j with _ | _ | _ | j; all_goals first | exact h | (simp at h)); simpa [Nat.add_assoc] using h7)) Tryz.underlying106 rfl (by rw [show ((Tryz.prog.info? 106).map (·.size)) = some 3 from by kernel_rfl]; rfl)
      try simp only [Act.put, List.setIfInBounds_toArray, List.set_cons_zero, List.set_cons_succ]
      refine wpAnyU_take (i := 5) (oi := { dst := some 22, op := Op.move (Operand.tmp 1), type := 37, pos := "keep.go:210", after := #[], guard := none }) (v := (.slice (some ⟨bb, offb, none⟩) n capb)) rfl (by kernel_rfl) (by kernel_rfl) (by kernel_rfl) (by kernel_rfl) (by kernel_rfl) (fun _ _ _ h => h) (BL.cls wr) ?_ ?_
      · refine Or.inl ⟨rfl, fun w hSw => ?_⟩
        exact EffR.same (by go_simp)
      try simp only [Act.put, List.setIfInBounds_toArray, List.set_cons_zero, List.set_cons_succ]
      refine wpAnyU_take (i := 6) (oi := { dst := some 23, op := Op.move (Operand.tmp 5), type := 3, pos := "keep.go:210", after := #[], guard := none }) (v := (.int .i64 (k : Int))) rfl (by kernel_rfl) (by kernel_rfl) (by kernel_rfl) (by kernel_rfl) (by kernel_rfl) (fun _ _ _ h => h) (BL.cls wr) ?_ ?_
      · refine Or.inl ⟨rfl, fun w hSw => ?_⟩
        exact EffR.same (by go_simp)
      try simp only [Act.put, List.setIfInBounds_toArray, List.set_cons_zero, List.set_cons_succ]
      refine wpAnyU_take (i := 7) (oi := { dst := some 24, op := Op.indexAddr 37 (Operand.tmp 22) (Operand.tmp 23), type := 0, pos := "keep.go:210", after := #[{ on := 5, ground := Ground.data }, { on := 6, ground := Ground.data }], guard := none }) (v := (.pointer (some ⟨bb, offb + k * 4, none⟩))) rfl (by kernel_rfl) (by kernel_rfl) (by kernel_rfl) (by kernel_rfl) (by kernel_rfl) (fun _ _ _ h => h) (BL.cls wr) ?_ ?_
      · refine Or.inl ⟨rfl, fun w hSw => ?_⟩
        exact EffR.same (by go_simp)
      try simp only [Act.put, List.setIfInBounds_toArray, List.set_cons_zero, List.set_cons_succ]
      refine wpAnyU_take (i := 8) (oi := { dst := some 25, op := Op.fieldAddr 108 (Operand.tmp 24) 0, type := 0, pos := "keep.go:210", after := #[{ on := 7, ground := Ground.data }], guard := none }) (v := (.pointer (some ⟨bb, offb + k * 4, none⟩))) rfl (by kernel_rfl) (by kernel_rfl) (by kernel_rfl) (by kernel_rfl) (by kernel_rfl) (fun _ _ _ h => h) (BL.cls wr) ?_ ?_
      · refine Or.inl ⟨rfl, fun w hSw => ?_⟩
        exact EffR.same (by go_simp)
      try simp only [Act.put, List.setIfInBounds_toArray, List.set_cons_zero, List.set_cons_succ]
      refine wpAnyU_take (i := 9) (oi := { dst := some 26, op := Op.load 106 (Operand.tmp 25), type := 106, pos := "keep.go:210", after := #[{ on := 8, ground := Ground.data }], guard := none }) (v := (.agg #[.int .i64 c.who, .int .i64 c.cur, .int .i64 c.amt])) rfl (by kernel_rfl) (by kernel_rfl) (by kernel_rfl) (by kernel_rfl) (by kernel_rfl) (fun _ _ _ h => h) (BL.cls wr) ?_ ?_
      · refine Or.inl ⟨rfl, fun w hSw => ?_⟩
        exact eff_load_mid 106 (.tmp 25) rfl bb (offb + k * 4) rfl [.int .i64 c.who, .int .i64 c.cur, .int .i64 c.amt] _ (fun j v h => BL.cell hSw (by have h7 := HCB.out (0 + j) v (by rcases j with _ | _ | _ | j; all_goals first | exact h | (simp at h)); simpa [Nat.add_assoc] using h7)) Tryz.underlying106 rfl (by rw [show ((Tryz.prog.info? 106).map (·.size)) = some 3 from by kernel_rfl]; rfl)
      try simp only [Act.put, List.setIfInBounds_toArray, List.set_cons_zero, List.set_cons_succ]
      refine wpAnyU_take (i := 10) (oi := { dst := some 27, op := Op.call { callee := Callee.value (Operand.func 104), args := #[Operand.tmp 21, Operand.tmp 26], argTypes := #[106, 106] }, type := 4, pos := "keep.go:210", after := #[{ on := 4, ground := Ground.data }, { on := 9, ground := Ground.data }], guard := none }) (v := (.bool true)) rfl (by kernel_rfl) (by kernel_rfl) (by kernel_rfl) (by kernel_rfl) (by kernel_rfl) (fun _ _ _ h => h) (BL.cls wr) ?_ ?_
      · refine Or.inl ⟨rfl, fun w hSw => ?_⟩
        go_simp
        show Calls _ _ _ _ _
        refine (KDue_same _ _ _ _).mono ?_
        rintro e w1 ⟨rfl, hb⟩
        exact ⟨rfl, hb⟩
      try simp only [Act.put, List.setIfInBounds_toArray, List.set_cons_zero, List.set_cons_succ]
      refine wpAnyU_take (i := 11) (oi := { dst := some 28, op := Op.unOp UnOp.not 4 (Operand.tmp 27), type := 4, pos := "keep.go:210", after := #[{ on := 10, ground := Ground.data }], guard := none }) (v := (.bool false)) rfl (by kernel_rfl) (by kernel_rfl) (by kernel_rfl) (by kernel_rfl) (by kernel_rfl) (fun _ _ _ h => h) (BL.cls wr) ?_ ?_
      · refine Or.inl ⟨rfl, fun w hSw => ?_⟩
        exact EffR.same (by go_simp)
      try simp only [Act.put, List.setIfInBounds_toArray, List.set_cons_zero, List.set_cons_succ]
      refine wpAnyU_take (i := 12) (oi := { dst := some 29, op := Op.move (Operand.tmp 28), type := 4, pos := "keep.go:210", after := #[{ on := 11, ground := Ground.data }, { on := 10, ground := Ground.chain }], guard := none }) (v := (.bool false)) rfl (by kernel_rfl) (by kernel_rfl) (by kernel_rfl) (by kernel_rfl) (by kernel_rfl) (fun _ _ _ h => h) (BL.cls wr) ?_ ?_
      · refine Or.inl ⟨rfl, fun w hSw => ?_⟩
        exact EffR.same (by go_simp)
      try simp only [Act.put, List.setIfInBounds_toArray, List.set_cons_zero, List.set_cons_succ]
      refine wpAnyU_take (i := 13) (oi := { dst := some 30, op := Op.move (Operand.tmp 0), type := 37, pos := "keep.go:210", after := #[{ on := 12, ground := Ground.guard }], guard := some (12, false) }) (v := (.slice (some ⟨ba, offa, none⟩) n capa)) rfl (by kernel_rfl) (by kernel_rfl) (by kernel_rfl) (by kernel_rfl) (by kernel_rfl) (fun _ _ _ h => h) (BL.cls wr) ?_ ?_
      · refine Or.inl ⟨rfl, fun w hSw => ?_⟩
        exact EffR.same (by go_simp)
      try simp only [Act.put, List.setIfInBounds_toArray, List.set_cons_zero, List.set_cons_succ]
      refine wpAnyU_take (i := 14) (oi := { dst := some 31, op := Op.move (Operand.tmp 5), type := 3, pos := "keep.go:210", after := #[{ on := 12, ground := Ground.guard }], guard := some (12, false) }) (v := (.int .i64 (k : Int))) rfl (by kernel_rfl) (by kernel_rfl) (by kernel_rfl) (by kernel_rfl) (by kernel_rfl) (fun _ _ _ h => h) (BL.cls wr) ?_ ?_
      · refine Or.inl ⟨rfl, fun w hSw => ?_⟩
        exact EffR.same (by go_simp)
      try simp only [Act.put, List.setIfInBounds_toArray, List.set_cons_zero, List.set_cons_succ]
      refine wpAnyU_take (i := 15) (oi := { dst := some 32, op := Op.indexAddr 37 (Operand.tmp 30) (Operand.tmp 31), type := 0, pos := "keep.go:210", after := #[{ on := 13, ground := Ground.data }, { on := 14, ground := Ground.data }, { on := 12, ground := Ground.guard }], guard := some (12, false) }) (v := (.pointer (some ⟨ba, offa + k * 4, none⟩))) rfl (by kernel_rfl) (by kernel_rfl) (by kernel_rfl) (by kernel_rfl) (by kernel_rfl) (fun _ _ _ h => h) (BL.cls wr) ?_ ?_
      · refine Or.inl ⟨rfl, fun w hSw => ?_⟩
        exact EffR.same (by go_simp)
      try simp only [Act.put, List.setIfInBounds_toArray, List.set_cons_zero, List.set_cons_succ]
      refine wpAnyU_take (i := 16) (oi := { dst := some 33, op := Op.fieldAddr 108 (Operand.tmp 32) 1, type := 0, pos := "keep.go:210", after := #[{ on := 15, ground := Ground.data }, { on := 12, ground := Ground.guard }], guard := some (12, false) }) (v := (.pointer (some ⟨ba, offa + k * 4 + 3, none⟩))) rfl (by kernel_rfl) (by kernel_rfl) (by kernel_rfl) (by kernel_rfl) (by kernel_rfl) (fun _ _ _ h => h) (BL.cls wr) ?_ ?_
      · refine Or.inl ⟨rfl, fun w hSw => ?_⟩
        exact EffR.same (by go_simp)
      try simp only [Act.put, List.setIfInBounds_toArray, List.set_cons_zero, List.set_cons_succ]
      refine wpAnyU_take (i := 17) (oi := { dst := some 34, op := Op.load 3 (Operand.tmp 33), type := 3, pos := "keep.go:210", after := #[{ on := 16, ground := Ground.data }, { on := 12, ground := Ground.guard }], guard := some (12, false) }) (v := (.int .i64 c.tick)) rfl (by kernel_rfl) (by kernel_rfl) (by kernel_rfl) (by kernel_rfl) (by kernel_rfl) (fun _ _ _ h => h) (BL.cls wr) ?_ ?_
      · refine Or.inl ⟨rfl, fun w hSw => ?_⟩
        have e0 : w.cell? ⟨ba, offa + k * 4 + 3, none⟩ = some (.int .i64 c.tick) := BL.cell hSw (HCA.out 3 _ rfl)
        exact EffR.same (by go_simp)
      try simp only [Act.put, List.setIfInBounds_toArray, List.set_cons_zero, List.set_cons_succ]
      refine wpAnyU_take (i := 18) (oi := { dst := some 35, op := Op.move (Operand.tmp 1), type := 37, pos := "keep.go:210", after := #[{ on := 12, ground := Ground.guard }], guard := some (12, false) }) (v := (.slice (some ⟨bb, offb, none⟩) n capb)) rfl (by kernel_rfl) (by kernel_rfl) (by kernel_rfl) (by kernel_rfl) (by kernel_rfl) (fun _ _ _ h => h) (BL.cls wr) ?_ ?_
      · refine Or.inl ⟨rfl, fun w hSw => ?_⟩
        exact EffR.same (by go_simp)
      try simp only [Act.put, List.setIfInBounds_toArray, List.set_cons_zero, List.set_cons_succ]
      refine wpAnyU_take (i := 19) (oi := { dst := some 36, op := Op.move (Operand.tmp 5), type := 3, pos := "keep.go:210", after := #[{ on := 12, ground := Ground.guard }], guard := some (12, false) }) (v := (.int .i64 (k : Int))) rfl (by kernel_rfl) (by kernel_rfl) (by kernel_rfl) (by kernel_rfl) (by kernel_rfl) (fun _ _ _ h => h) (BL.cls wr) ?_ ?_
      · refine Or.inl ⟨rfl, fun w hSw => ?_⟩
        exact EffR.same (by go_simp)
      try simp only [Act.put, List.setIfInBounds_toArray, List.set_cons_zero, List.set_cons_succ]
      refine wpAnyU_take (i := 20) (oi := { dst := some 37, op := Op.indexAddr 37 (Operand.tmp 35) (Operand.tmp 36), type := 0, pos := "keep.go:210", after := #[{ on := 18, ground := Ground.data }, { on := 19, ground := Ground.data }, { on := 12, ground := Ground.guard }], guard := some (12, false) }) (v := (.pointer (some ⟨bb, offb + k * 4, none⟩))) rfl (by kernel_rfl) (by kernel_rfl) (by kernel_rfl) (by kernel_rfl) (by kernel_rfl) (fun _ _ _ h => h) (BL.cls wr) ?_ ?_
      · refine Or.inl ⟨rfl, fun w hSw => ?_⟩
        exact EffR.same (by go_simp)
      try simp only [Act.put, List.setIfInBounds_toArray, List.set_cons_zero, List.set_cons_succ]
      refine wpAnyU_take (i := 21) (oi := { dst := some 38, op := Op.fieldAddr 108 (Operand.tmp 37) 1, type := 0, pos := "keep.go:210", after := #[{ on := 20, ground := Ground.data }, { on := 12, ground := Ground.guard }], guard := some (12, false) }) (v := (.pointer (some ⟨bb, offb + k * 4 + 3, none⟩))) rfl (by kernel_rfl) (by kernel_rfl) (by kernel_rfl) (by kernel_rfl) (by kernel_rfl) (fun _ _ _ h => h) (BL.cls wr) ?_ ?_
      · refine Or.inl ⟨rfl, fun w hSw => ?_⟩
        exact EffR.same (by go_simp)
      try simp only [Act.put, List.setIfInBounds_toArray, List.set_cons_zero, List.set_cons_succ]
      refine wpAnyU_take (i := 22) (oi := { dst := some 39, op := Op.load 3 (Operand.tmp 38), type := 3, pos := "keep.go:210", after := #[{ on := 21, ground := Ground.data }, { on := 12, ground := Ground.guard }], guard := some (12, false) }) (v := (.int .i64 c.tick)) rfl (by kernel_rfl) (by kernel_rfl) (by kernel_rfl) (by kernel_rfl) (by kernel_rfl) (fun _ _ _ h => h) (BL.cls wr) ?_ ?_
      · refine Or.inl ⟨rfl, fun w hSw => ?_⟩
        have e0 : w.cell? ⟨bb, offb + k * 4 + 3, none⟩ = some (.int .i64 c.tick) := BL.cell hSw (HCB.out 3 _ rfl)
        exact EffR.same (by go_simp)
      try simp only [Act.put, List.setIfInBounds_toArray, List.set_cons_zero, List.set_cons_succ]
      refine wpAnyU_take (i := 23) (oi := { dst := some 40, op := Op.binOp BinOp.neq 3 (Operand.tmp 34) (Operand.tmp 39) 3, type := 4, pos := "keep.go:210", after := #[{ on := 17, ground := Ground.data }, { on := 22, ground := Ground.data }, { on := 12, ground := Ground.guard }], guard := some (12, false) }) (v := (.bool false)) rfl (by kernel_rfl) (by kernel_rfl) (by kernel_rfl) (by kernel_rfl) (by kernel_rfl) (fun _ _ _ h => h) (BL.cls wr) ?_ ?_
      · refine Or.inl ⟨rfl, fun w hSw => ?_⟩
        exact EffR.same (by go_simp)
      try simp only [Act.put, List.setIfInBounds_toArray, List.set_cons_zero, List.set_cons_succ]
      refine wpAnyU_take (i := 24) (oi := { dst := some 41, op := Op.pick (Operand.tmp 29) (Operand.const (Value.bool true)) (Operand.tmp 40), type := 4, pos := "keep.go:210", after := #[{ on := 12, ground := Ground.data }, { on := 23, ground := Ground.data }], guard := none }) (v := (.bool false)) rfl (by kernel_rfl) (by kernel_rfl) (by kernel_rfl) (by kernel_rfl) (by kernel_rfl) (fun _ _ _ h => h) (BL.cls wr) ?_ ?_
      · refine Or.inl ⟨rfl, fun w hSw => ?_⟩
        exact EffR.same (by go_simp)
      try simp only [Act.put, List.setIfInBounds_toArray, List.set_cons_zero, List.set_cons_succ]
      refine wpAnyU_done (by kernel_rfl) (fun w1 hb1 => ?_) _
      go_wp2_with fail
      exact ⟨⟨k + 1, by omega, by push_cast; rfl, bgoS HBL.out hb1⟩, by simp [intOf]; omega⟩
    · obtain rfl : k = n := by omega
      go_wp2_with fail
      go_ret
      exact ⟨rfl, HBL.out⟩

set_option maxRecDepth 100000 in
set_option maxHeartbeats 3200000 in
theorem KBids_same (w : World) (va vb : Value) (L : List BiT) (ha : Rs BiT.vs 5 w va L) (hb : Rs BiT.vs 5 w vb L) :
    Calls Tryz.prog 46 #[va, vb] w fun e w' => e = .returned (.bool true) ∧ Below w.heap.size w w' := by
  obtain ⟨aa, capa, rfl, hcapa, hma⟩ := ha.shape
  obtain ⟨ab, capb, rfl, hcapb, hmb⟩ := hb.shape
  obtain ⟨n, hn⟩ : ∃ n, n = L.length := ⟨_, rfl⟩
  rw [← hn] at ha hb hcapa hcapb ⊢
  have HA := Lib.hid ha
  have HB := Lib.hid hb
  have HN := Lib.hid hn
  clear ha hb hn
  go_enter Tryz.func46, Tryz.ntmps46
  go_wp2_with fail
  go_loopw [5] (fun i wr => ∃ k : Nat, k ≤ n ∧ i = .int .i64 k ∧ Below w.heap.size w wr) (fun i _ => n - (intOf i).toNat)
  case atStart => exact ⟨0, Nat.zero_le _, rfl, Below.refl _ _⟩
  case round =>
    obtain ⟨k, hk, rfl, hbel⟩ := hrel
    have HBL := Lib.hid hbel
    by_cases hlt : k < n
    · have hkL : k < L.length := by rw [← HN.out]; exact hlt
      obtain ⟨ba, offa, rfl, _, hca⟩ := (HA.out.rew HN.out hbel).at (by omega) (by decide)
      obtain ⟨bb, offb, rfl, _, hcb⟩ := (HB.out.rew HN.out hbel).at (by omega) (by decide)
      obtain ⟨c, hc⟩ : ∃ c, c = L[k] := ⟨_, rfl⟩
      have HCA : Hid (∀ j v, [.int .i64 c.who, .int .i64 c.inst, .int .i64 c.frm, .int .i64 c.qty, .int .i64 c.price][j]? = some v → wr.cell? ⟨ba, offa + k * 5 + j, none⟩ = some v) := fun j v h => hca k hkL j v (by rw [← hc]; exact h)
      have HCB : Hid (∀ j v, [.int .i64 c.who, .int .i64 c.inst, .int .i64 c.frm, .int .i64 c.qty, .int .i64 c.price][j]? = some v → wr.cell? ⟨bb, offb + k * 5 + j, none⟩ = some v) := fun j v h => hcb k hkL j v (by rw [← hc]; exact h)
      have hk0 : (0 : Int) ≤ k := by omega
      have hk1 : (k : Int) < n := by omega
      clear hca hcb hbel hc
      go_wp2_with fail
      refine wp_region_bl 51 (by kernel_rfl) ?_
      refine wpAnyU_take (i := 0) (oi := { dst := some 17, op := Op.move (Operand.tmp 0), type := 38, pos := "keep.go:222", after := #[], guard := none }) (v := (.slice (some ⟨ba, offa, none⟩) n capa)) rfl (by kernel_rfl) (by kernel_rfl) (by kernel_rfl) (by kernel_rfl) (by kernel_rfl) (fun _ _ _ h => h) (BL.cls wr) ?_ ?_
      · refine Or.inl ⟨rfl, fun w hSw => ?_⟩
        exact EffR.same (by go_simp)
      try simp only [Act.put, List.setIfInBounds_toArray, List.set_cons_zero, List.set_cons_succ]
      refine wpAnyU_take (i := 1) (oi := { dst := some 18, op := Op.move (Operand.tmp 5), type := 3, pos := "keep.go:222", after := #[], guard := none }) (v := (.int .i64 (k : Int))) rfl (by kernel_rfl) (by kernel_rfl) (by kernel_rfl) (by kernel_rfl) (by kernel_rfl) (fun _ _ _ h => h) (BL.cls wr) ?_ ?_
      · refine Or.inl ⟨rfl, fun w hSw => ?_⟩
        exact EffR.same (by go_simp)
      try simp only [Act.put, List.setIfInBounds_toArray, List.set_cons_zero, List.set_cons_succ]
      refine wpAnyU_take (i := 2) (oi := { dst := some 19, op := Op.indexAddr 38 (Operand.tmp 17) (Operand.tmp 18), type := 0, pos := "keep.go:222", after := #[{ on := 0, ground := Ground.data }, { on := 1, ground := Ground.data }], guard := none }) (v := (.pointer (some ⟨ba, offa + k * 5, none⟩))) rfl (by kernel_rfl) (by kernel_rfl) (by kernel_rfl) (by kernel_rfl) (by kernel_rfl) (fun _ _ _ h => h) (BL.cls wr) ?_ ?_
      · refine Or.inl ⟨rfl, fun w hSw => ?_⟩
        exact EffR.same (by go_simp)
      try simp only [Act.put, List.setIfInBounds_toArray, List.set_cons_zero, List.set_cons_succ]
      refine wpAnyU_take (i := 3) (oi := { dst := some 20, op := Op.fieldAddr 110 (Operand.tmp 19) 0, type := 0, pos := "keep.go:222", after := #[{ on := 2, ground := Ground.data }], guard := none }) (v := (.pointer (some ⟨ba, offa + k * 5, none⟩))) rfl (by kernel_rfl) (by kernel_rfl) (by kernel_rfl) (by kernel_rfl) (by kernel_rfl) (fun _ _ _ h => h) (BL.cls wr) ?_ ?_
      · refine Or.inl ⟨rfl, fun w hSw => ?_⟩
        exact EffR.same (by go_simp)
      try simp only [Act.put, List.setIfInBounds_toArray, List.set_cons_zero, List.set_cons_succ]
      refine wpAnyU_take (i := 4) (oi := { dst := some 21, op := Op.load 96 (Operand.tmp 20), type := 96, pos := "keep.go:222", after := #[{ on := 3, ground := Ground.data }], guard := none }) (v := (.agg #[.int .i64 c.who, .int .i64 c.inst])) rfl (by kernel_rfl) (by kernel_rfl) (by kernel_rfl) (by kernel_rfl) (by kernel_rfl) (fun _ _ _ h => h) (BL.cls wr) ?_ ?_
      · refine Or.inl ⟨rfl, fun w hSw => ?_⟩
        exact eff_load_mid 96 (.tmp 20) rfl ba (offa + k * 5) rfl [.int .i64 c.who, .int .i64 c.inst] _ (fun j v h => BL.cell hSw (by have h7 := HCA.out (0 + j) v (by rcases j with _ | _ | j; all_goals first | exact h | (simp at h)); simpa [Nat.add_assoc] using h7)) Tryz.underlying96 rfl (by rw [show ((Tryz.prog.info? 96).map (·.size)) = some 2 from by kernel_rfl]; rfl)
      try simp only [Act.put, List.setIfInBounds_toArray, List.set_cons_zero, List.set_cons_succ]
      refine wpAnyU_take (i := 5) (oi := { dst := some 22, op := Op.move (Operand.tmp 1), type := 38, pos := "keep.go:222", after := #[], guard := none }) (v := (.slice (some ⟨bb, offb, none⟩) n capb)) rfl (by kernel_rfl) (by kernel_rfl) (by kernel_rfl) (by kernel_rfl) (by kernel_rfl) (fun _ _ _ h => h) (BL.cls wr) ?_ ?_
      · refine Or.inl ⟨rfl, fun w hSw => ?_⟩
        exact EffR.same (by go_simp)
      try simp only [Act.put, List.setIfInBounds_toArray, List.set_cons_zero, List.set_cons_succ]
      refine wpAnyU_take (i := 6) (oi := { dst := some 23, op := Op.move (Operand.tmp 5), type := 3, pos := "keep.go:222", after := #[], guard := none }) (v := (.int .i64 (k : Int))) rfl (by kernel_rfl) (by kernel_rfl) (by kernel_rfl) (by kernel_rfl) (by kernel_rfl) (fun _ _ _ h => h) (BL.cls wr) ?_ ?_
      · refine Or.inl ⟨rfl, fun w hSw => ?_⟩
        exact EffR.same (by go_simp)
      try simp only [Act.put, List.setIfInBounds_toArray, List.set_cons_zero, List.set_cons_succ]
      refine wpAnyU_take (i := 7) (oi := { dst := some 24, op := Op.indexAddr 38 (Operand.tmp 22) (Operand.tmp 23), type := 0, pos := "keep.go:222", after := #[{ on := 5, ground := Ground.data }, { on := 6, ground := Ground.data }], guard := none }) (v := (.pointer (some ⟨bb, offb + k * 5, none⟩))) rfl (by kernel_rfl) (by kernel_rfl) (by kernel_rfl) (by kernel_rfl) (by kernel_rfl) (fun _ _ _ h => h) (BL.cls wr) ?_ ?_
      · refine Or.inl ⟨rfl, fun w hSw => ?_⟩
        exact EffR.same (by go_simp)
      try simp only [Act.put, List.setIfInBounds_toArray, List.set_cons_zero, List.set_cons_succ]
      refine wpAnyU_take (i := 8) (oi := { dst := some 25, op := Op.fieldAddr 110 (Operand.tmp 24) 0, type := 0, pos := "keep.go:222", after := #[{ on := 7, ground := Ground.data }], guard := none }) (v := (.pointer (some ⟨bb, offb + k * 5, none⟩))) rfl (by kernel_rfl) (by kernel_rfl) (by kernel_rfl) (by kernel_rfl) (by kernel_rfl) (fun _ _ _ h => h) (BL.cls wr) ?_ ?_
      · refine Or.inl ⟨rfl, fun w hSw => ?_⟩
        exact EffR.same (by go_simp)
      try simp only [Act.put, List.setIfInBounds_toArray, List.set_cons_zero, List.set_cons_succ]
      refine wpAnyU_take (i := 9) (oi := { dst := some 26, op := Op.load 96 (Operand.tmp 25), type := 96, pos := "keep.go:222", after := #[{ on := 8, ground := Ground.data }], guard := none }) (v := (.agg #[.int .i64 c.who, .int .i64 c.inst])) rfl (by kernel_rfl) (by kernel_rfl) (by kernel_rfl) (by kernel_rfl) (by kernel_rfl) (fun _ _ _ h => h) (BL.cls wr) ?_ ?_
      · refine Or.inl ⟨rfl, fun w hSw => ?_⟩
        exact eff_load_mid 96 (.tmp 25) rfl bb (offb + k * 5) rfl [.int .i64 c.who, .int .i64 c.inst] _ (fun j v h => BL.cell hSw (by have h7 := HCB.out (0 + j) v (by rcases j with _ | _ | j; all_goals first | exact h | (simp at h)); simpa [Nat.add_assoc] using h7)) Tryz.underlying96 rfl (by rw [show ((Tryz.prog.info? 96).map (·.size)) = some 2 from by kernel_rfl]; rfl)
      try simp only [Act.put, List.setIfInBounds_toArray, List.set_cons_zero, List.set_cons_succ]
      refine wpAnyU_take (i := 10) (oi := { dst := some 27, op := Op.call { callee := Callee.value (Operand.func 105), args := #[Operand.tmp 21, Operand.tmp 26], argTypes := #[96, 96] }, type := 4, pos := "keep.go:222", after := #[{ on := 4, ground := Ground.data }, { on := 9, ground := Ground.data }], guard := none }) (v := (.bool true)) rfl (by kernel_rfl) (by kernel_rfl) (by kernel_rfl) (by kernel_rfl) (by kernel_rfl) (fun _ _ _ h => h) (BL.cls wr) ?_ ?_
      · refine Or.inl ⟨rfl, fun w hSw => ?_⟩
        go_simp
        show Calls _ _ _ _ _
        refine (KKey_same _ _ _).mono ?_
        rintro e w1 ⟨rfl, hb⟩
        exact ⟨rfl, hb⟩
      try simp only [Act.put, List.setIfInBounds_toArray, List.set_cons_zero, List.set_cons_succ]
      refine wpAnyU_take (i := 11) (oi := { dst := some 28, op := Op.unOp UnOp.not 4 (Operand.tmp 27), type := 4, pos := "keep.go:222", after := #[{ on := 10, ground := Ground.data }], guard := none }) (v := (.bool false)) rfl (by kernel_rfl) (by kernel_rfl) (by kernel_rfl) (by kernel_rfl) (by kernel_rfl) (fun _ _ _ h => h) (BL.cls wr) ?_ ?_
      · refine Or.inl ⟨rfl, fun w hSw => ?_⟩
        exact EffR.same (by go_simp)
      try simp only [Act.put, List.setIfInBounds_toArray, List.set_cons_zero, List.set_cons_succ]
      refine wpAnyU_take (i := 12) (oi := { dst := some 29, op := Op.move (Operand.tmp 28), type := 4, pos := "keep.go:222", after := #[{ on := 11, ground := Ground.data }, { on := 10, ground := Ground.chain }], guard := none }) (v := (.bool false)) rfl (by kernel_rfl) (by kernel_rfl) (by kernel_rfl) (by kernel_rfl) (by kernel_rfl) (fun _ _ _ h => h) (BL.cls wr) ?_ ?_
      · refine Or.inl ⟨rfl, fun w hSw => ?_⟩
        exact EffR.same (by go_simp)
      try simp only [Act.put, List.setIfInBounds_toArray, List.set_cons_zero, List.set_cons_succ]
      refine wpAnyU_take (i := 13) (oi := { dst := some 30, op := Op.move (Operand.tmp 0), type := 38, pos := "keep.go:222", after := #[{ on := 12, ground := Ground.guard }], guard := some (12, false) }) (v := (.slice (some ⟨ba, offa, none⟩) n capa)) rfl (by kernel_rfl) (by kernel_rfl) (by kernel_rfl) (by kernel_rfl) (by kernel_rfl) (fun _ _ _ h => h) (BL.cls wr) ?_ ?_
      · refine Or.inl ⟨rfl, fun w hSw => ?_⟩
        exact EffR.same (by go_simp)
      try simp only [Act.put, List.setIfInBounds_toArray, List.set_cons_zero, List.set_cons_succ]
      refine wpAnyU_take (i := 14) (oi := { dst := some 31, op := Op.move (Operand.tmp 5), type := 3, pos := "keep.go:222", after := #[{ on := 12, ground := Ground.guard }], guard := some (12, false) }) (v := (.int .i64 (k : Int))) rfl (by kernel_rfl) (by kernel_rfl) (by kernel_rfl) (by kernel_rfl) (by kernel_rfl) (fun _ _ _ h => h) (BL.cls wr) ?_ ?_
      · refine Or.inl ⟨rfl, fun w hSw => ?_⟩
        exact EffR.same (by go_simp)
      try simp only [Act.put, List.setIfInBounds_toArray, List.set_cons_zero, List.set_cons_succ]
      refine wpAnyU_take (i := 15) (oi := { dst := some 32, op := Op.indexAddr 38 (Operand.tmp 30) (Operand.tmp 31), type := 0, pos := "keep.go:222", after := #[{ on := 13, ground := Ground.data }, { on := 14, ground := Ground.data }, { on := 12, ground := Ground.guard }], guard := some (12, false) }) (v := (.pointer (some ⟨ba, offa + k * 5, none⟩))) rfl (by kernel_rfl) (by kernel_rfl) (by kernel_rfl) (by kernel_rfl) (by kernel_rfl) (fun _ _ _ h => h) (BL.cls wr) ?_ ?_
      · refine Or.inl ⟨rfl, fun w hSw => ?_⟩
        exact EffR.same (by go_simp)
      try simp only [Act.put, List.setIfInBounds_toArray, List.set_cons_zero, List.set_cons_succ]
      refine wpAnyU_take (i := 16) (oi := { dst := some 33, op := Op.fieldAddr 110 (Operand.tmp 32) 1, type := 0, pos := "keep.go:222", after := #[{ on := 15, ground := Ground.data }, { on := 12, ground := Ground.guard }], guard := some (12, false) }) (v := (.pointer (some ⟨ba, offa + k * 5 + 2, none⟩))) rfl (by kernel_rfl) (by kernel_rfl) (by kernel_rfl) (by kernel_rfl) (by kernel_rfl) (fun _ _ _ h => h) (BL.cls wr) ?_ ?_
      · refine Or.inl ⟨rfl, fun w hSw => ?_⟩
        exact EffR.same (by go_simp)
      try simp only [Act.put, List.setIfInBounds_toArray, List.set_cons_zero, List.set_cons_succ]
      refine wpAnyU_take (i := 17) (oi := { dst := some 34, op := Op.load 3 (Operand.tmp 33), type := 3, pos := "keep.go:222", after := #[{ on := 16, ground := Ground.data }, { on := 12, ground := Ground.guard }], guard := some (12, false) }) (v := (.int .i64 c.frm)) rfl (by kernel_rfl) (by kernel_rfl) (by kernel_rfl) (by kernel_rfl) (by kernel_rfl) (fun _ _ _ h => h) (BL.cls wr) ?_ ?_
      · refine Or.inl ⟨rfl, fun w hSw => ?_⟩
        have e0 : w.cell? ⟨ba, offa + k * 5 + 2, none⟩ = some (.int .i64 c.frm) := BL.cell hSw (HCA.out 2 _ rfl)
        exact EffR.same (by go_simp)
      try simp only [Act.put, List.setIfInBounds_toArray, List.set_cons_zero, List.set_cons_succ]
      refine wpAnyU_take (i := 18) (oi := { dst := some 35, op := Op.move (Operand.tmp 1), type := 38, pos := "keep.go:222", after := #[{ on := 12, ground := Ground.guard }], guard := some (12, false) }) (v := (.slice (some ⟨bb, offb, none⟩) n capb)) rfl (by kernel_rfl) (by kernel_rfl) (by kernel_rfl) (by kernel_rfl) (by kernel_rfl) (fun _ _ _ h => h) (BL.cls wr) ?_ ?_
      · refine Or.inl ⟨rfl, fun w hSw => ?_⟩
        exact EffR.same (by go_simp)
      try simp only [Act.put, List.setIfInBounds_toArray, List.set_cons_zero, List.set_cons_succ]
      refine wpAnyU_take (i := 19) (oi := { dst := some 36, op := Op.move (Operand.tmp 5), type := 3, pos := "keep.go:222", after := #[{ on := 12, ground := Ground.guard }], guard := some (12, false) }) (v := (.int .i64 (k : Int))) rfl (by kernel_rfl) (by kernel_rfl) (by kernel_rfl) (by kernel_rfl) (by kernel_rfl) (fun _ _ _ h => h) (BL.cls wr) ?_ ?_
      · refine Or.inl ⟨rfl, fun w hSw => ?_⟩
        exact EffR.same (by go_simp)
      try simp only [Act.put, List.setIfInBounds_toArray, List.set_cons_zero, List.set_cons_succ]
      refine wpAnyU_take (i := 20) (oi := { dst := some 37, op := Op.indexAddr 38 (Operand.tmp 35) (Operand.tmp 36), type := 0, pos := "keep.go:222", after := #[{ on := 18, ground := Ground.data }, { on := 19, ground := Ground.data }, { on := 12, ground := Ground.guard }], guard := some (12, false) }) (v := (.pointer (some ⟨bb, offb + k * 5, none⟩))) rfl (by kernel_rfl) (by kernel_rfl) (by kernel_rfl) (by kernel_rfl) (by kernel_rfl) (fun _ _ _ h => h) (BL.cls wr) ?_ ?_
      · refine Or.inl ⟨rfl, fun w hSw => ?_⟩
        exact EffR.same (by go_simp)
      try simp only [Act.put, List.setIfInBounds_toArray, List.set_cons_zero, List.set_cons_succ]
      refine wpAnyU_take (i := 21) (oi := { dst := some 38, op := Op.fieldAddr 110 (Operand.tmp 37) 1, type := 0, pos := "keep.go:222", after := #[{ on := 20, ground := Ground.data }, { on := 12, ground := Ground.guard }], guard := some (12, false) }) (v := (.pointer (some ⟨bb, offb + k * 5 + 2, none⟩))) rfl (by kernel_rfl) (by kernel_rfl) (by kernel_rfl) (by kernel_rfl) (by kernel_rfl) (fun _ _ _ h => h) (BL.cls wr) ?_ ?_
      · refine Or.inl ⟨rfl, fun w hSw => ?_⟩
        exact EffR.same (by go_simp)
      try simp only [Act.put, List.setIfInBounds_toArray, List.set_cons_zero, List.set_cons_succ]
      refine wpAnyU_take (i := 22) (oi := { dst := some 39, op := Op.load 3 (Operand.tmp 38), type := 3, pos := "keep.go:222", after := #[{ on := 21, ground := Ground.data }, { on := 12, ground := Ground.guard }], guard := some (12, false) }) (v := (.int .i64 c.frm)) rfl (by kernel_rfl) (by kernel_rfl) (by kernel_rfl) (by kernel_rfl) (by kernel_rfl) (fun _ _ _ h => h) (BL.cls wr) ?_ ?_
      · refine Or.inl ⟨rfl, fun w hSw => ?_⟩
        have e0 : w.cell? ⟨bb, offb + k * 5 + 2, none⟩ = some (.int .i64 c.frm) := BL.cell hSw (HCB.out 2 _ rfl)
        exact EffR.same (by go_simp)
      try simp only [Act.put, List.setIfInBounds_toArray, List.set_cons_zero, List.set_cons_succ]
      refine wpAnyU_take (i := 23) (oi := { dst := some 40, op := Op.binOp BinOp.neq 3 (Operand.tmp 34) (Operand.tmp 39) 3, type := 4, pos := "keep.go:222", after := #[{ on := 17, ground := Ground.data }, { on := 22, ground := Ground.data }, { on := 12, ground := Ground.guard }], guard := some (12, false) }) (v := (.bool false)) rfl (by kernel_rfl) (by kernel_rfl) (by kernel_rfl) (by kernel_rfl) (by kernel_rfl) (fun _ _ _ h => h) (BL.cls wr) ?_ ?_
      · refine Or.inl ⟨rfl, fun w hSw => ?_⟩
        exact EffR.same (by go_simp)
      try simp only [Act.put, List.setIfInBounds_toArray, List.set_cons_zero, List.set_cons_succ]
      refine wpAnyU_take (i := 24) (oi := { dst := some 41, op := Op.pick (Operand.tmp 29) (Operand.const (Value.bool true)) (Operand.tmp 40), type := 4, pos := "keep.go:222", after := #[{ on := 12, ground := Ground.data }, { on := 23, ground := Ground.data }], guard := none }) (v := (.bool false)) rfl (by kernel_rfl) (by kernel_rfl) (by kernel_rfl) (by kernel_rfl) (by kernel_rfl) (fun _ _ _ h => h) (BL.cls wr) ?_ ?_
      · refine Or.inl ⟨rfl, fun w hSw => ?_⟩
        exact EffR.same (by go_simp)
      try simp only [Act.put, List.setIfInBounds_toArray, List.set_cons_zero, List.set_cons_succ]
      refine wpAnyU_take (i := 25) (oi := { dst := some 42, op := Op.move (Operand.tmp 41), type := 4, pos := "keep.go:222", after := #[{ on := 24, ground := Ground.data }, { on := 12, ground := Ground.chain }], guard := none }) (v := (.bool false)) rfl (by kernel_rfl) (by kernel_rfl) (by kernel_rfl) (by kernel_rfl) (by kernel_rfl) (fun _ _ _ h => h) (BL.cls wr) ?_ ?_
      · refine Or.inl ⟨rfl, fun w hSw => ?_⟩
        exact EffR.same (by go_simp)
      try simp only [Act.put, List.setIfInBounds_toArray, List.set_cons_zero, List.set_cons_succ]
      refine wpAnyU_take (i := 26) (oi := { dst := some 43, op := Op.move (Operand.tmp 0), type := 38, pos := "keep.go:222", after := #[{ on := 25, ground := Ground.guard }], guard := some (25, false) }) (v := (.slice (some ⟨ba, offa, none⟩) n capa)) rfl (by kernel_rfl) (by kernel_rfl) (by kernel_rfl) (by kernel_rfl) (by kernel_rfl) (fun _ _ _ h => h) (BL.cls wr) ?_ ?_
      · refine Or.inl ⟨rfl, fun w hSw => ?_⟩
        exact EffR.same (by go_simp)
      try simp only [Act.put, List.setIfInBounds_toArray, List.set_cons_zero, List.set_cons_succ]
      refine wpAnyU_take (i := 27) (oi := { dst := some 44, op := Op.move (Operand.tmp 5), type := 3, pos := "keep.go:222", after := #[{ on := 25, ground := Ground.guard }], guard := some (25, false) }) (v := (.int .i64 (k : Int))) rfl (by kernel_rfl) (by kernel_rfl) (by kernel_rfl) (by kernel_rfl) (by kernel_rfl) (fun _ _ _ h => h) (BL.cls wr) ?_ ?_
      · refine Or.inl ⟨rfl, fun w hSw => ?_⟩
        exact EffR.same (by go_simp)
      try simp only [Act.put, List.setIfInBounds_toArray, List.set_cons_zero, List.set_cons_succ]
      refine wpAnyU_take (i := 28) (oi := { dst := some 45, op := Op.indexAddr 38 (Operand.tmp 43) (Operand.tmp 44), type := 0, pos := "keep.go:222", after := #[{ on := 26, ground := Ground.data }, { on := 27, ground := Ground.data }, { on := 25, ground := Ground.guard }], guard := some (25, false) }) (v := (.pointer (some ⟨ba, offa + k * 5, none⟩))) rfl (by kernel_rfl) (by kernel_rfl) (by kernel_rfl) (by kernel_rfl) (by kernel_rfl) (fun _ _ _ h => h) (BL.cls wr) ?_ ?_
      · refine Or.inl ⟨rfl, fun w hSw => ?_⟩
        exact EffR.same (by go_simp)
      try simp only [Act.put, List.setIfInBounds_toArray, List.set_cons_zero, List.set_cons_succ]
      refine wpAnyU_take (i := 29) (oi := { dst := some 46, op := Op.fieldAddr 110 (Operand.tmp 45) 2, type := 0, pos := "keep.go:222", after := #[{ on := 28, ground := Ground.data }, { on := 25, ground := Ground.guard }], guard := some (25, false) }) (v := (.pointer (some ⟨ba, offa + k * 5 + 3, none⟩))) rfl (by kernel_rfl) (by kernel_rfl) (by kernel_rfl) (by kernel_rfl) (by kernel_rfl) (fun _ _ _ h => h) (BL.cls wr) ?_ ?_
      · refine Or.inl ⟨rfl, fun w hSw => ?_⟩
        exact EffR.same (by go_simp)
      try simp only [Act.put, List.setIfInBounds_toArray, List.set_cons_zero, List.set_cons_succ]
      refine wpAnyU_take (i := 30) (oi := { dst := some 47, op := Op.load 3 (Operand.tmp 46), type := 3, pos := "keep.go:222", after := #[{ on := 29, ground := Ground.data }, { on := 25, ground := Ground.guard }], guard := some (25, false) }) (v := (.int .i64 c.qty)) rfl (by kernel_rfl) (by kernel_rfl) (by kernel_rfl) (by kernel_rfl) (by kernel_rfl) (fun _ _ _ h => h) (BL.cls wr) ?_ ?_
      · refine Or.inl ⟨rfl, fun w hSw => ?_⟩
        have e0 : w.cell? ⟨ba, offa + k * 5 + 3, none⟩ = some (.int .i64 c.qty) := BL.cell hSw (HCA.out 3 _ rfl)
        exact EffR.same (by go_simp)
      try simp only [Act.put, List.setIfInBounds_toArray, List.set_cons_zero, List.set_cons_succ]
      refine wpAnyU_take (i := 31) (oi := { dst := some 48, op := Op.move (Operand.tmp 1), type := 38, pos := "keep.go:222", after := #[{ on := 25, ground := Ground.guard }], guard := some (25, false) }) (v := (.slice (some ⟨bb, offb, none⟩) n capb)) rfl (by kernel_rfl) (by kernel_rfl) (by kernel_rfl) (by kernel_rfl) (by kernel_rfl) (fun _ _ _ h => h) (BL.cls wr) ?_ ?_
      · refine Or.inl ⟨rfl, fun w hSw => ?_⟩
        exact EffR.same (by go_simp)
      try simp only [Act.put, List.setIfInBounds_toArray, List.set_cons_zero, List.set_cons_succ]
      refine wpAnyU_take (i := 32) (oi := { dst := some 49, op := Op.move (Operand.tmp 5), type := 3, pos := "keep.go:222", after := #[{ on := 25, ground := Ground.guard }], guard := some (25, false) }) (v := (.int .i64 (k : Int))) rfl (by kernel_rfl) (by kernel_rfl) (by kernel_rfl) (by kernel_rfl) (by kernel_rfl) (fun _ _ _ h => h) (BL.cls wr) ?_ ?_
      · refine Or.inl ⟨rfl, fun w hSw => ?_⟩
        exact EffR.same (by go_simp)
      try simp only [Act.put, List.setIfInBounds_toArray, List.set_cons_zero, List.set_cons_succ]
      refine wpAnyU_take (i := 33) (oi := { dst := some 50, op := Op.indexAddr 38 (Operand.tmp 48) (Operand.tmp 49), type := 0, pos := "keep.go:222", after := #[{ on := 31, ground := Ground.data }, { on := 32, ground := Ground.data }, { on := 25, ground := Ground.guard }], guard := some (25, false) }) (v := (.pointer (some ⟨bb, offb + k * 5, none⟩))) rfl (by kernel_rfl) (by kernel_rfl) (by kernel_rfl) (by kernel_rfl) (by kernel_rfl) (fun _ _ _ h => h) (BL.cls wr) ?_ ?_
      · refine Or.inl ⟨rfl, fun w hSw => ?_⟩
        exact EffR.same (by go_simp)
      try simp only [Act.put, List.setIfInBounds_toArray, List.set_cons_zero, List.set_cons_succ]
      refine wpAnyU_take (i := 34) (oi := { dst := some 51, op := Op.fieldAddr 110 (Operand.tmp 50) 2, type := 0, pos := "keep.go:222", after := #[{ on := 33, ground := Ground.data }, { on := 25, ground := Ground.guard }], guard := some (25, false) }) (v := (.pointer (some ⟨bb, offb + k * 5 + 3, none⟩))) rfl (by kernel_rfl) (by kernel_rfl) (by kernel_rfl) (by kernel_rfl) (by kernel_rfl) (fun _ _ _ h => h) (BL.cls wr) ?_ ?_
      · refine Or.inl ⟨rfl, fun w hSw => ?_⟩
        exact EffR.same (by go_simp)
      try simp only [Act.put, List.setIfInBounds_toArray, List.set_cons_zero, List.set_cons_succ]
      refine wpAnyU_take (i := 35) (oi := { dst := some 52, op := Op.load 3 (Operand.tmp 51), type := 3, pos := "keep.go:222", after := #[{ on := 34, ground := Ground.data }, { on := 25, ground := Ground.guard }], guard := some (25, false) }) (v := (.int .i64 c.qty)) rfl (by kernel_rfl) (by kernel_rfl) (by kernel_rfl) (by kernel_rfl) (by kernel_rfl) (fun _ _ _ h => h) (BL.cls wr) ?_ ?_
      · refine Or.inl ⟨rfl, fun w hSw => ?_⟩
        have e0 : w.cell? ⟨bb, offb + k * 5 + 3, none⟩ = some (.int .i64 c.qty) := BL.cell hSw (HCB.out 3 _ rfl)
        exact EffR.same (by go_simp)
      try simp only [Act.put, List.setIfInBounds_toArray, List.set_cons_zero, List.set_cons_succ]
      refine wpAnyU_take (i := 36) (oi := { dst := some 53, op := Op.binOp BinOp.neq 3 (Operand.tmp 47) (Operand.tmp 52) 3, type := 4, pos := "keep.go:222", after := #[{ on := 30, ground := Ground.data }, { on := 35, ground := Ground.data }, { on := 25, ground := Ground.guard }], guard := some (25, false) }) (v := (.bool false)) rfl (by kernel_rfl) (by kernel_rfl) (by kernel_rfl) (by kernel_rfl) (by kernel_rfl) (fun _ _ _ h => h) (BL.cls wr) ?_ ?_
      · refine Or.inl ⟨rfl, fun w hSw => ?_⟩
        exact EffR.same (by go_simp)
      try simp only [Act.put, List.setIfInBounds_toArray, List.set_cons_zero, List.set_cons_succ]
      refine wpAnyU_take (i := 37) (oi := { dst := some 54, op := Op.pick (Operand.tmp 42) (Operand.const (Value.bool true)) (Operand.tmp 53), type := 4, pos := "keep.go:222", after := #[{ on := 25, ground := Ground.data }, { on := 36, ground := Ground.data }], guard := none }) (v := (.bool false)) rfl (by kernel_rfl) (by kernel_rfl) (by kernel_rfl) (by kernel_rfl) (by kernel_rfl) (fun _ _ _ h => h) (BL.cls wr) ?_ ?_
      · refine Or.inl ⟨rfl, fun w hSw => ?_⟩
        exact EffR.same (by go_simp)
      try simp only [Act.put, List.setIfInBounds_toArray, List.set_cons_zero, List.set_cons_succ]
      refine wpAnyU_take (i := 38) (oi := { dst := some 55, op := Op.move (Operand.tmp 54), type := 4, pos := "keep.go:222", after := #[{ on := 37, ground := Ground.data }, { on := 25, ground := Ground.chain }], guard := none }) (v := (.bool false)) rfl (by kernel_rfl) (by kernel_rfl) (by kernel_rfl) (by kernel_rfl) (by kernel_rfl) (fun _ _ _ h => h) (BL.cls wr) ?_ ?_
      · refine Or.inl ⟨rfl, fun w hSw => ?_⟩
        exact EffR.same (by go_simp)
      try simp only [Act.put, List.setIfInBounds_toArray, List.set_cons_zero, List.set_cons_succ]
      refine wpAnyU_take (i := 39) (oi := { dst := some 56, op := Op.move (Operand.tmp 0), type := 38, pos := "keep.go:222", after := #[{ on := 38, ground := Ground.guard }], guard := some (38, false) }) (v := (.slice (some ⟨ba, offa, none⟩) n capa)) rfl (by kernel_rfl) (by kernel_rfl) (by kernel_rfl) (by kernel_rfl) (by kernel_rfl) (fun _ _ _ h => h) (BL.cls wr) ?_ ?_
      · refine Or.inl ⟨rfl, fun w hSw => ?_⟩
        exact EffR.same (by go_simp)
      try simp only [Act.put, List.setIfInBounds_toArray, List.set_cons_zero, List.set_cons_succ]
      refine wpAnyU_take (i := 40) (oi := { dst := some 57, op := Op.move (Operand.tmp 5), type := 3, pos := "keep.go:222", after := #[{ on := 38, ground := Ground.guard }], guard := some (38, false) }) (v := (.int .i64 (k : Int))) rfl (by kernel_rfl) (by kernel_rfl) (by kernel_rfl) (by kernel_rfl) (by kernel_rfl) (fun _ _ _ h => h) (BL.cls wr) ?_ ?_
      · refine Or.inl ⟨rfl, fun w hSw => ?_⟩
        exact EffR.same (by go_simp)
      try simp only [Act.put, List.setIfInBounds_toArray, List.set_cons_zero, List.set_cons_succ]
      refine wpAnyU_take (i := 41) (oi := { dst := some 58, op := Op.indexAddr 38 (Operand.tmp 56) (Operand.tmp 57), type := 0, pos := "keep.go:222", after := #[{ on := 39, ground := Ground.data }, { on := 40, ground := Ground.data }, { on := 38, ground := Ground.guard }], guard := some (38, false) }) (v := (.pointer (some ⟨ba, offa + k * 5, none⟩))) rfl (by kernel_rfl) (by kernel_rfl) (by kernel_rfl) (by kernel_rfl) (by kernel_rfl) (fun _ _ _ h => h) (BL.cls wr) ?_ ?_
      · refine Or.inl ⟨rfl, fun w hSw => ?_⟩
        exact EffR.same (by go_simp)
      try simp only [Act.put, List.setIfInBounds_toArray, List.set_cons_zero, List.set_cons_succ]
      refine wpAnyU_take (i := 42) (oi := { dst := some 59, op := Op.fieldAddr 110 (Operand.tmp 58) 3, type := 0, pos := "keep.go:222", after := #[{ on := 41, ground := Ground.data }, { on := 38, ground := Ground.guard }], guard := some (38, false) }) (v := (.pointer (some ⟨ba, offa + k * 5 + 4, none⟩))) rfl (by kernel_rfl) (by kernel_rfl) (by kernel_rfl) (by kernel_rfl) (by kernel_rfl) (fun _ _ _ h => h) (BL.cls wr) ?_ ?_
      · refine Or.inl ⟨rfl, fun w hSw => ?_⟩
        exact EffR.same (by go_simp)
      try simp only [Act.put, List.setIfInBounds_toArray, List.set_cons_zero, List.set_cons_succ]
      refine wpAnyU_take (i := 43) (oi := { dst := some 60, op := Op.load 3 (Operand.tmp 59), type := 3, pos := "keep.go:222", after := #[{ on := 42, ground := Ground.data }, { on := 38, ground := Ground.guard }], guard := some (38, false) }) (v := (.int .i64 c.price)) rfl (by kernel_rfl) (by kernel_rfl) (by kernel_rfl) (by kernel_rfl) (by kernel_rfl) (fun _ _ _ h => h) (BL.cls wr) ?_ ?_
      · refine Or.inl ⟨rfl, fun w hSw => ?_⟩
        have e0 : w.cell? ⟨ba, offa + k * 5 + 4, none⟩ = some (.int .i64 c.price) := BL.cell hSw (HCA.out 4 _ rfl)
        exact EffR.same (by go_simp)
      try simp only [Act.put, List.setIfInBounds_toArray, List.set_cons_zero, List.set_cons_succ]
      refine wpAnyU_take (i := 44) (oi := { dst := some 61, op := Op.move (Operand.tmp 1), type := 38, pos := "keep.go:222", after := #[{ on := 38, ground := Ground.guard }], guard := some (38, false) }) (v := (.slice (some ⟨bb, offb, none⟩) n capb)) rfl (by kernel_rfl) (by kernel_rfl) (by kernel_rfl) (by kernel_rfl) (by kernel_rfl) (fun _ _ _ h => h) (BL.cls wr) ?_ ?_
      · refine Or.inl ⟨rfl, fun w hSw => ?_⟩
        exact EffR.same (by go_simp)
      try simp only [Act.put, List.setIfInBounds_toArray, List.set_cons_zero, List.set_cons_succ]
      refine wpAnyU_take (i := 45) (oi := { dst := some 62, op := Op.move (Operand.tmp 5), type := 3, pos := "keep.go:222", after := #[{ on := 38, ground := Ground.guard }], guard := some (38, false) }) (v := (.int .i64 (k : Int))) rfl (by kernel_rfl) (by kernel_rfl) (by kernel_rfl) (by kernel_rfl) (by kernel_rfl) (fun _ _ _ h => h) (BL.cls wr) ?_ ?_
      · refine Or.inl ⟨rfl, fun w hSw => ?_⟩
        exact EffR.same (by go_simp)
      try simp only [Act.put, List.setIfInBounds_toArray, List.set_cons_zero, List.set_cons_succ]
      refine wpAnyU_take (i := 46) (oi := { dst := some 63, op := Op.indexAddr 38 (Operand.tmp 61) (Operand.tmp 62), type := 0, pos := "keep.go:222", after := #[{ on := 44, ground := Ground.data }, { on := 45, ground := Ground.data }, { on := 38, ground := Ground.guard }], guard := some (38, false) }) (v := (.pointer (some ⟨bb, offb + k * 5, none⟩))) rfl (by kernel_rfl) (by kernel_rfl) (by kernel_rfl) (by kernel_rfl) (by kernel_rfl) (fun _ _ _ h => h) (BL.cls wr) ?_ ?_
      · refine Or.inl ⟨rfl, fun w hSw => ?_⟩
        exact EffR.same (by go_simp)
      try simp only [Act.put, List.setIfInBounds_toArray, List.set_cons_zero, List.set_cons_succ]
      refine wpAnyU_take (i := 47) (oi := { dst := some 64, op := Op.fieldAddr 110 (Operand.tmp 63) 3, type := 0, pos := "keep.go:222", after := #[{ on := 46, ground := Ground.data }, { on := 38, ground := Ground.guard }], guard := some (38, false) }) (v := (.pointer (some ⟨bb, offb + k * 5 + 4, none⟩))) rfl (by kernel_rfl) (by kernel_rfl) (by kernel_rfl) (by kernel_rfl) (by kernel_rfl) (fun _ _ _ h => h) (BL.cls wr) ?_ ?_
      · refine Or.inl ⟨rfl, fun w hSw => ?_⟩
        exact EffR.same (by go_simp)
      try simp only [Act.put, List.setIfInBounds_toArray, List.set_cons_zero, List.set_cons_succ]
      refine wpAnyU_take (i := 48) (oi := { dst := some 65, op := Op.load 3 (Operand.tmp 64), type := 3, pos := "keep.go:222", after := #[{ on := 47, ground := Ground.data }, { on := 38, ground := Ground.guard }], guard := some (38, false) }) (v := (.int .i64 c.price)) rfl (by kernel_rfl) (by kernel_rfl) (by kernel_rfl) (by kernel_rfl) (by kernel_rfl) (fun _ _ _ h => h) (BL.cls wr) ?_ ?_
      · refine Or.inl ⟨rfl, fun w hSw => ?_⟩
        have e0 : w.cell? ⟨bb, offb + k * 5 + 4, none⟩ = some (.int .i64 c.price) := BL.cell hSw (HCB.out 4 _ rfl)
        exact EffR.same (by go_simp)
      try simp only [Act.put, List.setIfInBounds_toArray, List.set_cons_zero, List.set_cons_succ]
      refine wpAnyU_take (i := 49) (oi := { dst := some 66, op := Op.binOp BinOp.neq 3 (Operand.tmp 60) (Operand.tmp 65) 3, type := 4, pos := "keep.go:222", after := #[{ on := 43, ground := Ground.data }, { on := 48, ground := Ground.data }, { on := 38, ground := Ground.guard }], guard := some (38, false) }) (v := (.bool false)) rfl (by kernel_rfl) (by kernel_rfl) (by kernel_rfl) (by kernel_rfl) (by kernel_rfl) (fun _ _ _ h => h) (BL.cls wr) ?_ ?_
      · refine Or.inl ⟨rfl, fun w hSw => ?_⟩
        exact EffR.same (by go_simp)
      try simp only [Act.put, List.setIfInBounds_toArray, List.set_cons_zero, List.set_cons_succ]
      refine wpAnyU_take (i := 50) (oi := { dst := some 67, op := Op.pick (Operand.tmp 55) (Operand.const (Value.bool true)) (Operand.tmp 66), type := 4, pos := "keep.go:222", after := #[{ on := 38, ground := Ground.data }, { on := 49, ground := Ground.data }], guard := none }) (v := (.bool false)) rfl (by kernel_rfl) (by kernel_rfl) (by kernel_rfl) (by kernel_rfl) (by kernel_rfl) (fun _ _ _ h => h) (BL.cls wr) ?_ ?_
      · refine Or.inl ⟨rfl, fun w hSw => ?_⟩
        exact EffR.same (by go_simp)
      try simp only [Act.put, List.setIfInBounds_toArray, List.set_cons_zero, List.set_cons_succ]
      refine wpAnyU_done (by kernel_rfl) (fun w1 hb1 => ?_) _
      go_wp2_with fail
      exact ⟨⟨k + 1, by omega, by push_cast; rfl, bgoS HBL.out hb1⟩, by simp [intOf]; omega⟩
    · obtain rfl : k = n := by omega
      go_wp2_with fail
      go_ret
      exact ⟨rfl, HBL.out⟩

set_option maxRecDepth 100000 in
set_option maxHeartbeats 3200000 in
theorem KAssets_same (w : World) (va vb : Value) (L : List AsT) (ha : Rs AsT.vs 4 w va L) (hb : Rs AsT.vs 4 w vb L) :
    Calls Tryz.prog 100 #[va, vb] w fun e w' => e = .returned (.bool true) ∧ Below w.heap.size w w' := by
  obtain ⟨aa, capa, rfl, hcapa, hma⟩ := ha.shape
  obtain ⟨ab, capb, rfl, hcapb, hmb⟩ := hb.shape
  obtain ⟨n, hn⟩ : ∃ n, n = L.length := ⟨_, rfl⟩
  rw [← hn] at ha hb hcapa hcapb ⊢
  have HA := Lib.hid ha
  have HB := Lib.hid hb
  have HN := Lib.hid hn
  clear ha hb hn
  go_enter Tryz.func100, Tryz.ntmps100
  go_wp2_with fail
  go_loopw [5] (fun i wr => ∃ k : Nat, k ≤ n ∧ i = .int .i64 k ∧ Below w.heap.size w wr) (fun i _ => n - (intOf i).toNat)
  case atStart => exact ⟨0, Nat.zero_le _, rfl, Below.refl _ _⟩
  case round =>
    obtain ⟨k, hk, rfl, hbel⟩ := hrel
    have HBL := Lib.hid hbel
    by_cases hlt : k < n
    · have hkL : k < L.length := by rw [← HN.out]; exact hlt
      obtain ⟨ba, offa, rfl, _, hca⟩ := (HA.out.rew HN.out hbel).at (by omega) (by decide)
      obtain ⟨bb, offb, rfl, _, hcb⟩ := (HB.out.rew HN.out hbel).at (by omega) (by decide)
      obtain ⟨c, hc⟩ : ∃ c, c = L[k] := ⟨_, rfl⟩
      have HCA : Hid (∀ j v, [.int .i64 c.no, .int .i64 c.cur, .int .i64 c.price, .int .i64 c.cut][j]? = some v → wr.cell? ⟨ba, offa + k * 4 + j, none⟩ = some v) := fun j v h => hca k hkL j v (by rw [← hc]; exact h)
      have HCB : Hid (∀ j v, [.int .i64 c.no, .int .i64 c.cur, .int .i64 c.price, .int .i64 c.cut][j]? = some v → wr.cell? ⟨bb, offb + k * 4 + j, none⟩ = some v) := fun j v h => hcb k hkL j v (by rw [← hc]; exact h)
      have hk0 : (0 : Int) ≤ k := by omega
      have hk1 : (k : Int) < n := by omega
      clear hca hcb hbel hc
      go_wp2_with fail
      refine wp_region_bl 10 (by kernel_rfl) ?_
      refine wpAnyU_take (i := 0) (oi := { dst := some 17, op := Op.move (Operand.tmp 0), type := 26, pos := "keep.go:151", after := #[], guard := none }) (v := (.slice (some ⟨ba, offa, none⟩) n capa)) rfl (by kernel_rfl) (by kernel_rfl) (by kernel_rfl) (by kernel_rfl) (by kernel_rfl) (fun _ _ _ h => h) (BL.cls wr) ?_ ?_
      · refine Or.inl ⟨rfl, fun w hSw => ?_⟩
        exact EffR.same (by go_simp)
      try simp only [Act.put, List.setIfInBounds_toArray, List.set_cons_zero, List.set_cons_succ]
      refine wpAnyU_take (i := 1) (oi := { dst := some 18, op := Op.move (Operand.tmp 5), type := 3, pos := "keep.go:151", after := #[], guard := none }) (v := (.int .i64 (k : Int))) rfl (by kernel_rfl) (by kernel_rfl) (by kernel_rfl) (by kernel_rfl) (by kernel_rfl) (fun _ _ _ h => h) (BL.cls wr) ?_ ?_
      · refine Or.inl ⟨rfl, fun w hSw => ?_⟩
        exact EffR.same (by go_simp)
      try simp only [Act.put, List.setIfInBounds_toArray, List.set_cons_zero, List.set_cons_succ]
      refine wpAnyU_take (i := 2) (oi := { dst := some 19, op := Op.indexAddr 26 (Operand.tmp 17) (Operand.tmp 18), type := 0, pos := "keep.go:151", after := #[{ on := 0, ground := Ground.data }, { on := 1, ground := Ground.data }], guard := none }) (v := (.pointer (some ⟨ba, offa + k * 4, none⟩))) rfl (by kernel_rfl) (by kernel_rfl) (by kernel_rfl) (by kernel_rfl) (by kernel_rfl) (fun _ _ _ h => h) (BL.cls wr) ?_ ?_
      · refine Or.inl ⟨rfl, fun w hSw => ?_⟩
        exact EffR.same (by go_simp)
      try simp only [Act.put, List.setIfInBounds_toArray, List.set_cons_zero, List.set_cons_succ]
      refine wpAnyU_take (i := 3) (oi := { dst := some 20, op := Op.load 91 (Operand.tmp 19), type := 91, pos := "keep.go:151", after := #[{ on := 2, ground := Ground.data }], guard := none }) (v := (.agg #[.int .i64 c.no, .int .i64 c.cur, .int .i64 c.price, .int .i64 c.cut])) rfl (by kernel_rfl) (by kernel_rfl) (by kernel_rfl) (by kernel_rfl) (by kernel_rfl) (fun _ _ _ h => h) (BL.cls wr) ?_ ?_
      · refine Or.inl ⟨rfl, fun w hSw => ?_⟩
        exact eff_load_mid 91 (.tmp 19) rfl ba (offa + k * 4) rfl [.int .i64 c.no, .int .i64 c.cur, .int .i64 c.price, .int .i64 c.cut] _ (fun j v h => BL.cell hSw (by have h7 := HCA.out (0 + j) v (by rcases j with _ | _ | _ | _ | j; all_goals first | exact h | (simp at h)); simpa [Nat.add_assoc] using h7)) Tryz.underlying91 rfl (by rw [show ((Tryz.prog.info? 91).map (·.size)) = some 4 from by kernel_rfl]; rfl)
      try simp only [Act.put, List.setIfInBounds_toArray, List.set_cons_zero, List.set_cons_succ]
      refine wpAnyU_take (i := 4) (oi := { dst := some 21, op := Op.move (Operand.tmp 1), type := 26, pos := "keep.go:151", after := #[], guard := none }) (v := (.slice (some ⟨bb, offb, none⟩) n capb)) rfl (by kernel_rfl) (by kernel_rfl) (by kernel_rfl) (by kernel_rfl) (by kernel_rfl) (fun _ _ _ h => h) (BL.cls wr) ?_ ?_
      · refine Or.inl ⟨rfl, fun w hSw => ?_⟩
        exact EffR.same (by go_simp)
      try simp only [Act.put, List.setIfInBounds_toArray, List.set_cons_zero, List.set_cons_succ]
      refine wpAnyU_take (i := 5) (oi := { dst := some 22, op := Op.move (Operand.tmp 5), type := 3, pos := "keep.go:151", after := #[], guard := none }) (v := (.int .i64 (k : Int))) rfl (by kernel_rfl) (by kernel_rfl) (by kernel_rfl) (by kernel_rfl) (by kernel_rfl) (fun _ _ _ h => h) (BL.cls wr) ?_ ?_
      · refine Or.inl ⟨rfl, fun w hSw => ?_⟩
        exact EffR.same (by go_simp)
      try simp only [Act.put, List.setIfInBounds_toArray, List.set_cons_zero, List.set_cons_succ]
      refine wpAnyU_take (i := 6) (oi := { dst := some 23, op := Op.indexAddr 26 (Operand.tmp 21) (Operand.tmp 22), type := 0, pos := "keep.go:151", after := #[{ on := 4, ground := Ground.data }, { on := 5, ground := Ground.data }], guard := none }) (v := (.pointer (some ⟨bb, offb + k * 4, none⟩))) rfl (by kernel_rfl) (by kernel_rfl) (by kernel_rfl) (by kernel_rfl) (by kernel_rfl) (fun _ _ _ h => h) (BL.cls wr) ?_ ?_
      · refine Or.inl ⟨rfl, fun w hSw => ?_⟩
        exact EffR.same (by go_simp)
      try simp only [Act.put, List.setIfInBounds_toArray, List.set_cons_zero, List.set_cons_succ]
      refine wpAnyU_take (i := 7) (oi := { dst := some 24, op := Op.load 91 (Operand.tmp 23), type := 91, pos := "keep.go:151", after := #[{ on := 6, ground := Ground.data }], guard := none }) (v := (.agg #[.int .i64 c.no, .int .i64 c.cur, .int .i64 c.price, .int .i64 c.cut])) rfl (by kernel_rfl) (by kernel_rfl) (by kernel_rfl) (by kernel_rfl) (by kernel_rfl) (fun _ _ _ h => h) (BL.cls wr) ?_ ?_
      · refine Or.inl ⟨rfl, fun w hSw => ?_⟩
        exact eff_load_mid 91 (.tmp 23) rfl bb (offb + k * 4) rfl [.int .i64 c.no, .int .i64 c.cur, .int .i64 c.price, .int .i64 c.cut] _ (fun j v h => BL.cell hSw (by have h7 := HCB.out (0 + j) v (by rcases j with _ | _ | _ | _ | j; all_goals first | exact h | (simp at h)); simpa [Nat.add_assoc] using h7)) Tryz.underlying91 rfl (by rw [show ((Tryz.prog.info? 91).map (·.size)) = some 4 from by kernel_rfl]; rfl)
      try simp only [Act.put, List.setIfInBounds_toArray, List.set_cons_zero, List.set_cons_succ]
      refine wpAnyU_take (i := 8) (oi := { dst := some 25, op := Op.call { callee := Callee.value (Operand.func 131), args := #[Operand.tmp 20, Operand.tmp 24], argTypes := #[91, 91] }, type := 4, pos := "keep.go:151", after := #[{ on := 3, ground := Ground.data }, { on := 7, ground := Ground.data }], guard := none }) (v := (.bool true)) rfl (by kernel_rfl) (by kernel_rfl) (by kernel_rfl) (by kernel_rfl) (by kernel_rfl) (fun _ _ _ h => h) (BL.cls wr) ?_ ?_
      · refine Or.inl ⟨rfl, fun w hSw => ?_⟩
        go_simp
        show Calls _ _ _ _ _
        refine (KAsset_same _ _ _ _ _).mono ?_
        rintro e w1 ⟨rfl, hb⟩
        exact ⟨rfl, hb⟩
      try simp only [Act.put, List.setIfInBounds_toArray, List.set_cons_zero, List.set_cons_succ]
      refine wpAnyU_take (i := 9) (oi := { dst := some 26, op := Op.unOp UnOp.not 4 (Operand.tmp 25), type := 4, pos := "keep.go:151", after := #[{ on := 8, ground := Ground.data }], guard := none }) (v := (.bool false)) rfl (by kernel_rfl) (by kernel_rfl) (by kernel_rfl) (by kernel_rfl) (by kernel_rfl) (fun _ _ _ h => h) (BL.cls wr) ?_ ?_
      · refine Or.inl ⟨rfl, fun w hSw => ?_⟩
        exact EffR.same (by go_simp)
      try simp only [Act.put, List.setIfInBounds_toArray, List.set_cons_zero, List.set_cons_succ]
      refine wpAnyU_done (by kernel_rfl) (fun w1 hb1 => ?_) _
      go_wp2_with fail
      exact ⟨⟨k + 1, by omega, by push_cast; rfl, bgoS HBL.out hb1⟩, by simp [intOf]; omega⟩
    · obtain rfl : k = n := by omega
      go_wp2_with fail
      go_ret
      exact ⟨rfl, HBL.out⟩
end Cam
