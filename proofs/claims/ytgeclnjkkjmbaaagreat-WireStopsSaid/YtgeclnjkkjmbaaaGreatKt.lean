import Derived.Test.YtgeclnjkkjmbaaaGreatKs
import Derived.Test.YtgeclnjkkjmbaaaGreatWtD
/- cambistkeep over a state's rows that are the same: those with parts. -/
namespace Cam
open Go Go.RowKit Go.Proofs

set_option maxRecDepth 100000 in
set_option maxHeartbeats 1600000 in
theorem KPos_same (w : World) (a b c d : Int) : Calls Tryz.prog 132 #[.agg #[.int .i64 a, .int .i64 b, .int .i64 c, .int .i64 d], .agg #[.int .i64 a, .int .i64 b, .int .i64 c, .int .i64 d]] w fun e w' => e = .returned (.bool true) ∧ Below w.heap.size w w' := by
  have HB := Lib.hid ((((Below.refl w.heap.size w).alloc (Nat.le_refl _) (.cells #[.int .i64 a, .int .i64 b, .int .i64 c, .int .i64 d] 98)).alloc (by simp) (.cells #[.int .i64 a, .int .i64 b, .int .i64 c, .int .i64 d] 98)))
  have hc1 : HT ((w.alloc (.cells #[.int .i64 a, .int .i64 b, .int .i64 c, .int .i64 d] 98)).alloc (.cells #[.int .i64 a, .int .i64 b, .int .i64 c, .int .i64 d] 98)) w.heap.size 98 [.int .i64 a, .int .i64 b, .int .i64 c, .int .i64 d] := (HT.new (w := w) (t := 98) (C := [.int .i64 a, .int .i64 b, .int .i64 c, .int .i64 d])).below ((Below.refl _ _).alloc (Nat.le_refl _) _)
  have hc2 : HT ((w.alloc (.cells #[.int .i64 a, .int .i64 b, .int .i64 c, .int .i64 d] 98)).alloc (.cells #[.int .i64 a, .int .i64 b, .int .i64 c, .int .i64 d] 98)) (w.heap.size + 1) 98 [.int .i64 a, .int .i64 b, .int .i64 c, .int .i64 d] := by
    have := HT.new (w := w.alloc (.cells #[.int .i64 a, .int .i64 b, .int .i64 c, .int .i64 d] 98)) (t := 98) (C := [.int .i64 a, .int .i64 b, .int .i64 c, .int .i64 d])
    rw [show (w.alloc (.cells #[.int .i64 a, .int .i64 b, .int .i64 c, .int .i64 d] 98)).heap.size = w.heap.size + 1 by simp] at this
    exact this
  have HRA : Hid (((w.alloc (.cells #[.int .i64 a, .int .i64 b, .int .i64 c, .int .i64 d] 98)).alloc (.cells #[.int .i64 a, .int .i64 b, .int .i64 c, .int .i64 d] 98)).rangeAt w.heap.size 0 [.int .i64 a, .int .i64 b]) := fun j v h => hc1.cell (by rcases j with _ | _ | j; all_goals first | exact h | (simp at h))
  have HRB : Hid (((w.alloc (.cells #[.int .i64 a, .int .i64 b, .int .i64 c, .int .i64 d] 98)).alloc (.cells #[.int .i64 a, .int .i64 b, .int .i64 c, .int .i64 d] 98)).rangeAt (w.heap.size + 1) 0 [.int .i64 a, .int .i64 b]) := fun j v h => hc2.cell (by rcases j with _ | _ | j; all_goals first | exact h | (simp at h))
  have HC1 := Lib.hid hc1
  have HC2 := Lib.hid hc2
  have HSZ : Hid (((Tryz.prog.info? 96).map (·.size)) = some 2) := Lib.hid (by kernel_rfl)
  clear hc1 hc2
  go_enter Tryz.func132, Tryz.ntmps132
  go_wp2_with (first
    | (refine wpList_load_mid rfl 96 (.tmp 5) rfl w.heap.size 0 rfl [.int .i64 a, .int .i64 b] _ HRA.out Tryz.underlying96 rfl HSZ.out ?_)
    | (refine wpList_load_mid rfl 96 (.tmp 7) rfl (w.heap.size + 1) 0 rfl [.int .i64 a, .int .i64 b] _ HRB.out Tryz.underlying96 rfl HSZ.out ?_)
    | fail)
  refine (KKey_same _ _ _).mono ?_
  rintro e w1 ⟨rfl, hb⟩
  have HX := Lib.hid (HC1.out.below hb)
  have HY := Lib.hid (HC2.out.below hb)
  have HB2 := Lib.hid (HB.out.trans (hb.mono HB.out.size))
  clear hb
  have hx2 := HX.out.cell (j := 2) rfl
  have hy2 := HY.out.cell (j := 2) rfl
  have hx3 := HX.out.cell (j := 3) rfl
  have hy3 := HY.out.cell (j := 3) rfl
  go_wp2_with fail
  go_ret
  exact ⟨rfl, HB2.out⟩

set_option maxRecDepth 100000 in
set_option maxHeartbeats 3200000 in
theorem KPoss_same (w : World) (va vb : Value) (L : List PoT) (ha : Rs PoT.vs 4 w va L) (hb : Rs PoT.vs 4 w vb L) :
    Calls Tryz.prog 102 #[va, vb] w fun e w' => e = .returned (.bool true) ∧ Below w.heap.size w w' := by
  obtain ⟨aa, capa, rfl, hcapa, hma⟩ := ha.shape
  obtain ⟨ab, capb, rfl, hcapb, hmb⟩ := hb.shape
  obtain ⟨n, hn⟩ : ∃ n, n = L.length := ⟨_, rfl⟩
  rw [← hn] at ha hb hcapa hcapb ⊢
  have HA := Lib.hid ha
  have HB := Lib.hid hb
  have HN := Lib.hid hn
  clear ha hb hn
  go_enter Tryz.func102, Tryz.ntmps102
  go_wp2_with fail
  go_loopw [5] (fun i wr => ∃ k : Nat, k ≤ n ∧ i = .int .i64 k ∧ Below w.heap.size w wr) (fun i _ => n - (intOf i).toNat)
  case atStart => exact ⟨0, Nat.zero_le _, rfl, Below.refl _ _⟩
  case round =>
    obtain ⟨k, hk, rfl, hbel⟩ := hrel
    have HBL := Lib.hid hbel
    by_cases hlt : k < n
    · have hkL : k < L.length := by rw [← HN.out]; exact hlt
      obtain ⟨ba, offa, rfl, _, hca⟩ := (HA.out.rew HN.out hbel).at (by omega) (by decide)
      obtain ⟨bb, offb, rfl, _, hcb⟩ := (HB.out.rew HN.out hbel).at (by omega) (by decide)
      obtain ⟨c, hc⟩ : ∃ c, c = L[k] := ⟨_, rfl⟩
      have HCA : Hid (∀ j v, [.int .i64 c.who, .int .i64 c.inst, .int .i64 c.qty, .int .i64 c.cost][j]? = some v → wr.cell? ⟨ba, offa + k * 4 + j, none⟩ = some v) := fun j v h => hca k hkL j v (by rw [← hc]; exact h)
      have HCB : Hid (∀ j v, [.int .i64 c.who, .int .i64 c.inst, .int .i64 c.qty, .int .i64 c.cost][j]? = some v → wr.cell? ⟨bb, offb + k * 4 + j, none⟩ = some v) := fun j v h => hcb k hkL j v (by rw [← hc]; exact h)
      have hk0 : (0 : Int) ≤ k := by omega
      have hk1 : (k : Int) < n := by omega
      clear hca hcb hbel hc
      go_wp2_with fail
      refine wp_region_bl 10 (by kernel_rfl) ?_
      refine wpAnyU_take (i := 0) (oi := { dst := some 17, op := Op.move (Operand.tmp 0), type := 30, pos := "keep.go:182", after := #[], guard := none }) (v := (.slice (some ⟨ba, offa, none⟩) n capa)) rfl (by kernel_rfl) (by kernel_rfl) (by kernel_rfl) (by kernel_rfl) (by kernel_rfl) (fun _ _ _ h => h) (BL.cls wr) ?_ ?_
      · refine Or.inl ⟨rfl, fun w hSw => ?_⟩
        exact EffR.same (by go_simp)
      try simp only [Act.put, List.setIfInBounds_toArray, List.set_cons_zero, List.set_cons_succ]
      refine wpAnyU_take (i := 1) (oi := { dst := some 18, op := Op.move (Operand.tmp 5), type := 3, pos := "keep.go:182", after := #[], guard := none }) (v := (.int .i64 (k : Int))) rfl (by kernel_rfl) (by kernel_rfl) (by kernel_rfl) (by kernel_rfl) (by kernel_rfl) (fun _ _ _ h => h) (BL.cls wr) ?_ ?_
      · refine Or.inl ⟨rfl, fun w hSw => ?_⟩
        exact EffR.same (by go_simp)
      try simp only [Act.put, List.setIfInBounds_toArray, List.set_cons_zero, List.set_cons_succ]
      refine wpAnyU_take (i := 2) (oi := { dst := some 19, op := Op.indexAddr 30 (Operand.tmp 17) (Operand.tmp 18), type := 0, pos := "keep.go:182", after := #[{ on := 0, ground := Ground.data }, { on := 1, ground := Ground.data }], guard := none }) (v := (.pointer (some ⟨ba, offa + k * 4, none⟩))) rfl (by kernel_rfl) (by kernel_rfl) (by kernel_rfl) (by kernel_rfl) (by kernel_rfl) (fun _ _ _ h => h) (BL.cls wr) ?_ ?_
      · refine Or.inl ⟨rfl, fun w hSw => ?_⟩
        exact EffR.same (by go_simp)
      try simp only [Act.put, List.setIfInBounds_toArray, List.set_cons_zero, List.set_cons_succ]
      refine wpAnyU_take (i := 3) (oi := { dst := some 20, op := Op.load 98 (Operand.tmp 19), type := 98, pos := "keep.go:182", after := #[{ on := 2, ground := Ground.data }], guard := none }) (v := (.agg #[.int .i64 c.who, .int .i64 c.inst, .int .i64 c.qty, .int .i64 c.cost])) rfl (by kernel_rfl) (by kernel_rfl) (by kernel_rfl) (by kernel_rfl) (by kernel_rfl) (fun _ _ _ h => h) (BL.cls wr) ?_ ?_
      · refine Or.inl ⟨rfl, fun w hSw => ?_⟩
        exact eff_load_mid 98 (.tmp 19) rfl ba (offa + k * 4) rfl [.int .i64 c.who, .int .i64 c.inst, .int .i64 c.qty, .int .i64 c.cost] _ (fun j v h => BL.cell hSw (by have h7 := HCA.out (0 + j) v (by rcases j with _ | _ | _ | _ | j; all_goals first | exact h | (simp at h)); simpa [Nat.add_assoc] using h7)) Tryz.underlying98 rfl (by rw [show ((Tryz.prog.info? 98).map (·.size)) = some 4 from by kernel_rfl]; rfl)
      try simp only [Act.put, List.setIfInBounds_toArray, List.set_cons_zero, List.set_cons_succ]
      refine wpAnyU_take (i := 4) (oi := { dst := some 21, op := Op.move (Operand.tmp 1), type := 30, pos := "keep.go:182", after := #[], guard := none }) (v := (.slice (some ⟨bb, offb, none⟩) n capb)) rfl (by kernel_rfl) (by kernel_rfl) (by kernel_rfl) (by kernel_rfl) (by kernel_rfl) (fun _ _ _ h => h) (BL.cls wr) ?_ ?_
      · refine Or.inl ⟨rfl, fun w hSw => ?_⟩
        exact EffR.same (by go_simp)
      try simp only [Act.put, List.setIfInBounds_toArray, List.set_cons_zero, List.set_cons_succ]
      refine wpAnyU_take (i := 5) (oi := { dst := some 22, op := Op.move (Operand.tmp 5), type := 3, pos := "keep.go:182", after := #[], guard := none }) (v := (.int .i64 (k : Int))) rfl (by kernel_rfl) (by kernel_rfl) (by kernel_rfl) (by kernel_rfl) (by kernel_rfl) (fun _ _ _ h => h) (BL.cls wr) ?_ ?_
      · refine Or.inl ⟨rfl, fun w hSw => ?_⟩
        exact EffR.same (by go_simp)
      try simp only [Act.put, List.setIfInBounds_toArray, List.set_cons_zero, List.set_cons_succ]
      refine wpAnyU_take (i := 6) (oi := { dst := some 23, op := Op.indexAddr 30 (Operand.tmp 21) (Operand.tmp 22), type := 0, pos := "keep.go:182", after := #[{ on := 4, ground := Ground.data }, { on := 5, ground := Ground.data }], guard := none }) (v := (.pointer (some ⟨bb, offb + k * 4, none⟩))) rfl (by kernel_rfl) (by kernel_rfl) (by kernel_rfl) (by kernel_rfl) (by kernel_rfl) (fun _ _ _ h => h) (BL.cls wr) ?_ ?_
      · refine Or.inl ⟨rfl, fun w hSw => ?_⟩
        exact EffR.same (by go_simp)
      try simp only [Act.put, List.setIfInBounds_toArray, List.set_cons_zero, List.set_cons_succ]
      refine wpAnyU_take (i := 7) (oi := { dst := some 24, op := Op.load 98 (Operand.tmp 23), type := 98, pos := "keep.go:182", after := #[{ on := 6, ground := Ground.data }], guard := none }) (v := (.agg #[.int .i64 c.who, .int .i64 c.inst, .int .i64 c.qty, .int .i64 c.cost])) rfl (by kernel_rfl) (by kernel_rfl) (by kernel_rfl) (by kernel_rfl) (by kernel_rfl) (fun _ _ _ h => h) (BL.cls wr) ?_ ?_
      · refine Or.inl ⟨rfl, fun w hSw => ?_⟩
        exact eff_load_mid 98 (.tmp 23) rfl bb (offb + k * 4) rfl [.int .i64 c.who, .int .i64 c.inst, .int .i64 c.qty, .int .i64 c.cost] _ (fun j v h => BL.cell hSw (by have h7 := HCB.out (0 + j) v (by rcases j with _ | _ | _ | _ | j; all_goals first | exact h | (simp at h)); simpa [Nat.add_assoc] using h7)) Tryz.underlying98 rfl (by rw [show ((Tryz.prog.info? 98).map (·.size)) = some 4 from by kernel_rfl]; rfl)
      try simp only [Act.put, List.setIfInBounds_toArray, List.set_cons_zero, List.set_cons_succ]
      refine wpAnyU_take (i := 8) (oi := { dst := some 25, op := Op.call { callee := Callee.value (Operand.func 132), args := #[Operand.tmp 20, Operand.tmp 24], argTypes := #[98, 98] }, type := 4, pos := "keep.go:182", after := #[{ on := 3, ground := Ground.data }, { on := 7, ground := Ground.data }], guard := none }) (v := (.bool true)) rfl (by kernel_rfl) (by kernel_rfl) (by kernel_rfl) (by kernel_rfl) (by kernel_rfl) (fun _ _ _ h => h) (BL.cls wr) ?_ ?_
      · refine Or.inl ⟨rfl, fun w hSw => ?_⟩
        go_simp
        show Calls _ _ _ _ _
        refine (KPos_same _ _ _ _ _).mono ?_
        rintro e w1 ⟨rfl, hb⟩
        exact ⟨rfl, hb⟩
      try simp only [Act.put, List.setIfInBounds_toArray, List.set_cons_zero, List.set_cons_succ]
      refine wpAnyU_take (i := 9) (oi := { dst := some 26, op := Op.unOp UnOp.not 4 (Operand.tmp 25), type := 4, pos := "keep.go:182", after := #[{ on := 8, ground := Ground.data }], guard := none }) (v := (.bool false)) rfl (by kernel_rfl) (by kernel_rfl) (by kernel_rfl) (by kernel_rfl) (by kernel_rfl) (fun _ _ _ h => h) (BL.cls wr) ?_ ?_
      · refine Or.inl ⟨rfl, fun w hSw => ?_⟩
        exact EffR.same (by go_simp)
      try simp only [Act.put, List.setIfInBounds_toArray, List.set_cons_zero, List.set_cons_succ]
      refine wpAnyU_done (by kernel_rfl) (fun w1 hb1 => ?_) _
      go_wp2_with fail
      exact ⟨⟨k + 1, by omega, by push_cast; rfl, bgoS HBL.out hb1⟩, by simp [intOf]; omega⟩
    · obtain rfl : k = n := by omega
      go_wp2_with fail
      go_ret
      exact ⟨rfl, HBL.out⟩
set_option maxRecDepth 100000 in
set_option maxHeartbeats 3200000 in
theorem KInst_any (w : World) (x0 x1 x2 x3 x4 x5 x6 x7 x8 x9 x10 x11 y0 y1 y2 y3 y4 y5 y6 y7 y8 y9 y10 y11 : Int) :
    Calls Tryz.prog 130 #[.agg #[.int .i64 x0, .int .i64 x1, .int .i64 x2, .int .i64 x3, .int .i64 x4, .int .i64 x5, .int .i64 x6, .int .i64 x7, .int .i64 x8, .int .i64 x9, .int .i64 x10, .int .i64 x11], .agg #[.int .i64 y0, .int .i64 y1, .int .i64 y2, .int .i64 y3, .int .i64 y4, .int .i64 y5, .int .i64 y6, .int .i64 y7, .int .i64 y8, .int .i64 y9, .int .i64 y10, .int .i64 y11]] w fun e w' => e = .returned (.bool (decide ([x0, x1, x2, x3, x4, x5, x6, x7, x8, x9, x10, x11] = [y0, y1, y2, y3, y4, y5, y6, y7, y8, y9, y10, y11]))) ∧ Below w.heap.size w w' := by
  have hb1 : Below w.heap.size w (w.alloc (.cells #[.int .i64 x0, .int .i64 x1, .int .i64 x2, .int .i64 x3, .int .i64 x4, .int .i64 x5, .int .i64 x6, .int .i64 x7, .int .i64 x8, .int .i64 x9, .int .i64 x10, .int .i64 x11] 88)) := (Below.refl _ _).alloc (Nat.le_refl _) _
  have hb2 : Below w.heap.size w ((w.alloc (.cells #[.int .i64 x0, .int .i64 x1, .int .i64 x2, .int .i64 x3, .int .i64 x4, .int .i64 x5, .int .i64 x6, .int .i64 x7, .int .i64 x8, .int .i64 x9, .int .i64 x10, .int .i64 x11] 88)).alloc (.cells #[.int .i64 y0, .int .i64 y1, .int .i64 y2, .int .i64 y3, .int .i64 y4, .int .i64 y5, .int .i64 y6, .int .i64 y7, .int .i64 y8, .int .i64 y9, .int .i64 y10, .int .i64 y11] 88)) := hb1.alloc hb1.size _
  have hc1 : HT ((w.alloc (.cells #[.int .i64 x0, .int .i64 x1, .int .i64 x2, .int .i64 x3, .int .i64 x4, .int .i64 x5, .int .i64 x6, .int .i64 x7, .int .i64 x8, .int .i64 x9, .int .i64 x10, .int .i64 x11] 88)).alloc (.cells #[.int .i64 y0, .int .i64 y1, .int .i64 y2, .int .i64 y3, .int .i64 y4, .int .i64 y5, .int .i64 y6, .int .i64 y7, .int .i64 y8, .int .i64 y9, .int .i64 y10, .int .i64 y11] 88)) w.heap.size 88 (ivs [x0, x1, x2, x3, x4, x5, x6, x7, x8, x9, x10, x11]) := (HT.new (w := w) (t := 88) (C := ivs [x0, x1, x2, x3, x4, x5, x6, x7, x8, x9, x10, x11])).below ((Below.refl _ _).alloc (Nat.le_refl _) _)
  have hc2 : HT ((w.alloc (.cells #[.int .i64 x0, .int .i64 x1, .int .i64 x2, .int .i64 x3, .int .i64 x4, .int .i64 x5, .int .i64 x6, .int .i64 x7, .int .i64 x8, .int .i64 x9, .int .i64 x10, .int .i64 x11] 88)).alloc (.cells #[.int .i64 y0, .int .i64 y1, .int .i64 y2, .int .i64 y3, .int .i64 y4, .int .i64 y5, .int .i64 y6, .int .i64 y7, .int .i64 y8, .int .i64 y9, .int .i64 y10, .int .i64 y11] 88)) (w.heap.size + 1) 88 (ivs [y0, y1, y2, y3, y4, y5, y6, y7, y8, y9, y10, y11]) := by
    have := HT.new (w := w.alloc (.cells #[.int .i64 x0, .int .i64 x1, .int .i64 x2, .int .i64 x3, .int .i64 x4, .int .i64 x5, .int .i64 x6, .int .i64 x7, .int .i64 x8, .int .i64 x9, .int .i64 x10, .int .i64 x11] 88)) (t := 88) (C := ivs [y0, y1, y2, y3, y4, y5, y6, y7, y8, y9, y10, y11])
    rw [show (w.alloc (.cells #[.int .i64 x0, .int .i64 x1, .int .i64 x2, .int .i64 x3, .int .i64 x4, .int .i64 x5, .int .i64 x6, .int .i64 x7, .int .i64 x8, .int .i64 x9, .int .i64 x10, .int .i64 x11] 88)).heap.size = w.heap.size + 1 by simp] at this
    exact this
  have HB2 := Lib.hid hb2
  have HC1 := Lib.hid hc1
  have HC2 := Lib.hid hc2
  clear hb1 hb2 hc1 hc2
  obtain ⟨d, hd⟩ : ∃ d : Bool, d = decide ([x0, x1, x2, x3, x4, x5, x6, x7, x8, x9, x10, x11] = [y0, y1, y2, y3, y4, y5, y6, y7, y8, y9, y10, y11]) := ⟨_, rfl⟩
  rw [← hd]
  have HD := Lib.hid hd
  clear hd
  go_enter Tryz.func130, Tryz.ntmps130
  go_wp2_with fail
  generalize hW : (w.alloc (.cells #[.int .i64 x0, .int .i64 x1, .int .i64 x2, .int .i64 x3, .int .i64 x4, .int .i64 x5, .int .i64 x6, .int .i64 x7, .int .i64 x8, .int .i64 x9, .int .i64 x10, .int .i64 x11] 88)).alloc (.cells #[.int .i64 y0, .int .i64 y1, .int .i64 y2, .int .i64 y3, .int .i64 y4, .int .i64 y5, .int .i64 y6, .int .i64 y7, .int .i64 y8, .int .i64 y9, .int .i64 y10, .int .i64 y11] 88) = W at *
  clear hW
  generalize hgx : w.heap.size = gx at *
  have HGX : Hid (w.heap.size = gx) := hgx
  clear hgx
  go_loopw [5] (fun v5 wr => ∃ k : Nat, k ≤ 6 ∧ v5 = .int .i64 k ∧ HT wr gx 88 (ivs [x0, x1, x2, x3, x4, x5, x6, x7, x8, x9, x10, x11]) ∧ HT wr (gx + 1) 88 (ivs [y0, y1, y2, y3, y4, y5, y6, y7, y8, y9, y10, y11]) ∧ (∀ j, j < k → (ivs [x0, x1, x2, x3, x4, x5, x6, x7, x8, x9, x10, x11])[6 + j]? = (ivs [y0, y1, y2, y3, y4, y5, y6, y7, y8, y9, y10, y11])[6 + j]?) ∧ Below gx w wr) (fun i _ => 6 - (intOf i).toNat)
  case atStart => exact ⟨0, by omega, rfl, HC1.out, HC2.out, fun j hj => by omega, HB2.out⟩
  case round =>
    obtain ⟨k, hk, rfl, hx, hy, heq, hbel⟩ := hrel
    have HX := Lib.hid hx
    have HY := Lib.hid hy
    have HEQ := Lib.hid heq
    have HBEL := Lib.hid hbel
    clear hx hy heq hbel
    by_cases hlt : k < 6
    · obtain ⟨a, ha⟩ : ∃ a, (ivs [x0, x1, x2, x3, x4, x5, x6, x7, x8, x9, x10, x11])[6 + k]? = some (.int .i64 a) := ⟨_, ivs_at (by show 6 + k < 12; omega)⟩
      obtain ⟨b, hb⟩ : ∃ b, (ivs [y0, y1, y2, y3, y4, y5, y6, y7, y8, y9, y10, y11])[6 + k]? = some (.int .i64 b) := ⟨_, ivs_at (by show 6 + k < 12; omega)⟩
      have hcx := HX.out.cell ha
      have hcy := HY.out.cell hb
      have HA := Lib.hid ha
      have HB := Lib.hid hb
      clear ha hb
      go_wp2_with fail
      go_quiet (fail)
      have HQ := Lib.hid (below_drewN' HBEL.out nq)
      have HX2 := Lib.hid (HX.out.below (below_drewN' (Below.refl _ _) nq))
      have HY2 := Lib.hid (HY.out.below (below_drewN' (Below.refl _ _) nq))
      by_cases hne : a = b
      · have hne' : (a != b) = false := by rw [hne]; simp
        have HNE := Lib.hid hne
        clear hne
        go_wp2_with fail
        go_roundw
        case rel => exact ⟨k + 1, by omega, by go_num, HX2.out, HY2.out, fun j hj => by
          by_cases h : j < k
          · exact HEQ.out j h
          · obtain rfl : j = k := by omega
            rw [HA.out, HB.out, HNE.out], HQ.out⟩
        case measure => simp [intOf]; omega
      · have hne' : (a != b) = true := by rw [bne_iff_ne]; exact hne
        have hll : [x0, x1, x2, x3, x4, x5, x6, x7, x8, x9, x10, x11] ≠ [y0, y1, y2, y3, y4, y5, y6, y7, y8, y9, y10, y11] := fun h => hne (by have h1 := HA.out; rw [h, HB.out] at h1; injection h1 with h1; injection h1 with _ h2; exact h2.symm)
        have HLL := Lib.hid hll
        clear hne hll
        go_wp2_with fail
        go_ret
        exact ⟨by rw [HD.out, decide_eq_false HLL.out]; rfl, by rw [HGX.out]; exact HQ.out⟩
    · obtain rfl : k = 6 := by omega
      have HALL : Hid (x0 = y0 → x1 = y1 → x2 = y2 → x3 = y3 → x4 = y4 → decide ([x0, x1, x2, x3, x4, x5, x6, x7, x8, x9, x10, x11] = [y0, y1, y2, y3, y4, y5, y6, y7, y8, y9, y10, y11]) = (x5 == y5)) := by
        show x0 = y0 → x1 = y1 → x2 = y2 → x3 = y3 → x4 = y4 → _
        have h0 := HEQ.out 0 (by omega)
        have h1 := HEQ.out 1 (by omega)
        have h2 := HEQ.out 2 (by omega)
        have h3 := HEQ.out 3 (by omega)
        have h4 := HEQ.out 4 (by omega)
        have h5 := HEQ.out 5 (by omega)
        simp at h0 h1 h2 h3 h4 h5
        intros
        subst_vars
        rw [Bool.eq_iff_iff]
        simp
      have hx0 := HX.out.cell (j := 0) rfl
      have hy0 := HY.out.cell (j := 0) rfl
      have hx1 := HX.out.cell (j := 1) rfl
      have hy1 := HY.out.cell (j := 1) rfl
      have hx2 := HX.out.cell (j := 2) rfl
      have hy2 := HY.out.cell (j := 2) rfl
      have hx3 := HX.out.cell (j := 3) rfl
      have hy3 := HY.out.cell (j := 3) rfl
      have hx4 := HX.out.cell (j := 4) rfl
      have hy4 := HY.out.cell (j := 4) rfl
      have hx5 := HX.out.cell (j := 5) rfl
      have hy5 := HY.out.cell (j := 5) rfl
      go_wp2_with fail
      · rename_i g0 g1 g2 g3 g4
        go_ret
        exact ⟨by rw [HD.out, HALL.out g0 g1 g2 g3 g4]; rfl, by rw [HGX.out]; exact HBEL.out⟩
      · rename_i hn
        go_ret
        exact ⟨by rw [HD.out, decide_eq_false (show [x0, x1, x2, x3, x4, x5, x6, x7, x8, x9, x10, x11] ≠ [y0, y1, y2, y3, y4, y5, y6, y7, y8, y9, y10, y11] from fun h => hn (congrArg (fun L : List Int => L.getD 4 0) h))]; rfl, by rw [HGX.out]; exact HBEL.out⟩
      · rename_i hn
        go_ret
        exact ⟨by rw [HD.out, decide_eq_false (show [x0, x1, x2, x3, x4, x5, x6, x7, x8, x9, x10, x11] ≠ [y0, y1, y2, y3, y4, y5, y6, y7, y8, y9, y10, y11] from fun h => hn (congrArg (fun L : List Int => L.getD 3 0) h))]; rfl, by rw [HGX.out]; exact HBEL.out⟩
      · rename_i hn
        go_ret
        exact ⟨by rw [HD.out, decide_eq_false (show [x0, x1, x2, x3, x4, x5, x6, x7, x8, x9, x10, x11] ≠ [y0, y1, y2, y3, y4, y5, y6, y7, y8, y9, y10, y11] from fun h => hn (congrArg (fun L : List Int => L.getD 2 0) h))]; rfl, by rw [HGX.out]; exact HBEL.out⟩
      · rename_i hn
        go_ret
        exact ⟨by rw [HD.out, decide_eq_false (show [x0, x1, x2, x3, x4, x5, x6, x7, x8, x9, x10, x11] ≠ [y0, y1, y2, y3, y4, y5, y6, y7, y8, y9, y10, y11] from fun h => hn (congrArg (fun L : List Int => L.getD 1 0) h))]; rfl, by rw [HGX.out]; exact HBEL.out⟩
      · rename_i hn
        go_ret
        exact ⟨by rw [HD.out, decide_eq_false (show [x0, x1, x2, x3, x4, x5, x6, x7, x8, x9, x10, x11] ≠ [y0, y1, y2, y3, y4, y5, y6, y7, y8, y9, y10, y11] from fun h => hn (congrArg (fun L : List Int => L.getD 0 0) h))]; rfl, by rw [HGX.out]; exact HBEL.out⟩
theorem KInst_same (w : World) (x0 x1 x2 x3 x4 x5 x6 x7 x8 x9 x10 x11 : Int) : Calls Tryz.prog 130 #[.agg #[.int .i64 x0, .int .i64 x1, .int .i64 x2, .int .i64 x3, .int .i64 x4, .int .i64 x5, .int .i64 x6, .int .i64 x7, .int .i64 x8, .int .i64 x9, .int .i64 x10, .int .i64 x11], .agg #[.int .i64 x0, .int .i64 x1, .int .i64 x2, .int .i64 x3, .int .i64 x4, .int .i64 x5, .int .i64 x6, .int .i64 x7, .int .i64 x8, .int .i64 x9, .int .i64 x10, .int .i64 x11]] w fun e w' => e = .returned (.bool true) ∧ Below w.heap.size w w' :=
  (KInst_any w x0 x1 x2 x3 x4 x5 x6 x7 x8 x9 x10 x11 x0 x1 x2 x3 x4 x5 x6 x7 x8 x9 x10 x11).mono fun e w' h => ⟨by rw [h.1, decide_eq_true rfl], h.2⟩

set_option maxRecDepth 100000 in
set_option maxHeartbeats 3200000 in
theorem KInsts_same (w : World) (va vb : Value) (L : List InT) (ha : Rs InT.vs 12 w va L) (hb : Rs InT.vs 12 w vb L) :
    Calls Tryz.prog 99 #[va, vb] w fun e w' => e = .returned (.bool true) ∧ Below w.heap.size w w' := by
  obtain ⟨aa, capa, rfl, hcapa, hma⟩ := ha.shape
  obtain ⟨ab, capb, rfl, hcapb, hmb⟩ := hb.shape
  obtain ⟨n, hn⟩ : ∃ n, n = L.length := ⟨_, rfl⟩
  rw [← hn] at ha hb hcapa hcapb ⊢
  have HA := Lib.hid ha
  have HB := Lib.hid hb
  have HN := Lib.hid hn
  clear ha hb hn
  go_enter Tryz.func99, Tryz.ntmps99
  go_wp2_with fail
  go_loopw [5] (fun i wr => ∃ k : Nat, k ≤ n ∧ i = .int .i64 k ∧ Below w.heap.size w wr) (fun i _ => n - (intOf i).toNat)
  case atStart => exact ⟨0, Nat.zero_le _, rfl, Below.refl _ _⟩
  case round =>
    obtain ⟨k, hk, rfl, hbel⟩ := hrel
    have HBL := Lib.hid hbel
    by_cases hlt : k < n
    · have hkL : k < L.length := by rw [← HN.out]; exact hlt
      obtain ⟨ba, offa, rfl, _, hca⟩ := (HA.out.rew HN.out hbel).at (by omega) (by decide)
      obtain ⟨bb, offb, rfl, _, hcb⟩ := (HB.out.rew HN.out hbel).at (by omega) (by decide)
      obtain ⟨c, hc⟩ : ∃ c, c = L[k] := ⟨_, rfl⟩
      have HCA : Hid (∀ j v, [.int .i64 c.no, .int .i64 c.cur, .int .i64 c.mult, .int .i64 c.add, .int .i64 c.set, .int .i64 c.price, .int .i64 c.h0, .int .i64 c.h1, .int .i64 c.h2, .int .i64 c.h3, .int .i64 c.h4, .int .i64 c.h5][j]? = some v → wr.cell? ⟨ba, offa + k * 12 + j, none⟩ = some v) := fun j v h => hca k hkL j v (by rw [← hc]; exact h)
      have HCB : Hid (∀ j v, [.int .i64 c.no, .int .i64 c.cur, .int .i64 c.mult, .int .i64 c.add, .int .i64 c.set, .int .i64 c.price, .int .i64 c.h0, .int .i64 c.h1, .int .i64 c.h2, .int .i64 c.h3, .int .i64 c.h4, .int .i64 c.h5][j]? = some v → wr.cell? ⟨bb, offb + k * 12 + j, none⟩ = some v) := fun j v h => hcb k hkL j v (by rw [← hc]; exact h)
      have hk0 : (0 : Int) ≤ k := by omega
      have hk1 : (k : Int) < n := by omega
      clear hca hcb hbel hc
      go_wp2_with fail
      refine wp_region_bl 10 (by kernel_rfl) ?_
      refine wpAnyU_take (i := 0) (oi := { dst := some 17, op := Op.move (Operand.tmp 0), type := 25, pos := "keep.go:135", after := #[], guard := none }) (v := (.slice (some ⟨ba, offa, none⟩) n capa)) rfl (by kernel_rfl) (by kernel_rfl) (by kernel_rfl) (by kernel_rfl) (by kernel_rfl) (fun _ _ _ h => h) (BL.cls wr) ?_ ?_
      · refine Or.inl ⟨rfl, fun w hSw => ?_⟩
        exact EffR.same (by go_simp)
      try simp only [Act.put, List.setIfInBounds_toArray, List.set_cons_zero, List.set_cons_succ]
      refine wpAnyU_take (i := 1) (oi := { dst := some 18, op := Op.move (Operand.tmp 5), type := 3, pos := "keep.go:135", after := #[], guard := none }) (v := (.int .i64 (k : Int))) rfl (by kernel_rfl) (by kernel_rfl) (by kernel_rfl) (by kernel_rfl) (by kernel_rfl) (fun _ _ _ h => h) (BL.cls wr) ?_ ?_
      · refine Or.inl ⟨rfl, fun w hSw => ?_⟩
        exact EffR.same (by go_simp)
      try simp only [Act.put, List.setIfInBounds_toArray, List.set_cons_zero, List.set_cons_succ]
      refine wpAnyU_take (i := 2) (oi := { dst := some 19, op := Op.indexAddr 25 (Operand.tmp 17) (Operand.tmp 18), type := 0, pos := "keep.go:135", after := #[{ on := 0, ground := Ground.data }, { on := 1, ground := Ground.data }], guard := none }) (v := (.pointer (some ⟨ba, offa + k * 12, none⟩))) rfl (by kernel_rfl) (by kernel_rfl) (by kernel_rfl) (by kernel_rfl) (by kernel_rfl) (fun _ _ _ h => h) (BL.cls wr) ?_ ?_
      · refine Or.inl ⟨rfl, fun w hSw => ?_⟩
        exact EffR.same (by go_simp)
      try simp only [Act.put, List.setIfInBounds_toArray, List.set_cons_zero, List.set_cons_succ]
      refine wpAnyU_take (i := 3) (oi := { dst := some 20, op := Op.load 88 (Operand.tmp 19), type := 88, pos := "keep.go:135", after := #[{ on := 2, ground := Ground.data }], guard := none }) (v := (.agg #[.int .i64 c.no, .int .i64 c.cur, .int .i64 c.mult, .int .i64 c.add, .int .i64 c.set, .int .i64 c.price, .int .i64 c.h0, .int .i64 c.h1, .int .i64 c.h2, .int .i64 c.h3, .int .i64 c.h4, .int .i64 c.h5])) rfl (by kernel_rfl) (by kernel_rfl) (by kernel_rfl) (by kernel_rfl) (by kernel_rfl) (fun _ _ _ h => h) (BL.cls wr) ?_ ?_
      · refine Or.inl ⟨rfl, fun w hSw => ?_⟩
        exact eff_load_mid 88 (.tmp 19) rfl ba (offa + k * 12) rfl [.int .i64 c.no, .int .i64 c.cur, .int .i64 c.mult, .int .i64 c.add, .int .i64 c.set, .int .i64 c.price, .int .i64 c.h0, .int .i64 c.h1, .int .i64 c.h2, .int .i64 c.h3, .int .i64 c.h4, .int .i64 c.h5] _ (fun j v h => BL.cell hSw (by have h7 := HCA.out (0 + j) v (by rcases j with _ | _ | _ | _ | _ | _ | _ | _ | _ | _ | _ | _ | j; all_goals first | exact h | (simp at h)); simpa [Nat.add_assoc] using h7)) Tryz.underlying88 rfl (by rw [show ((Tryz.prog.info? 88).map (·.size)) = some 12 from by kernel_rfl]; rfl)
      try simp only [Act.put, List.setIfInBounds_toArray, List.set_cons_zero, List.set_cons_succ]
      refine wpAnyU_take (i := 4) (oi := { dst := some 21, op := Op.move (Operand.tmp 1), type := 25, pos := "keep.go:135", after := #[], guard := none }) (v := (.slice (some ⟨bb, offb, none⟩) n capb)) rfl (by kernel_rfl) (by kernel_rfl) (by kernel_rfl) (by kernel_rfl) (by kernel_rfl) (fun _ _ _ h => h) (BL.cls wr) ?_ ?_
      · refine Or.inl ⟨rfl, fun w hSw => ?_⟩
        exact EffR.same (by go_simp)
      try simp only [Act.put, List.setIfInBounds_toArray, List.set_cons_zero, List.set_cons_succ]
      refine wpAnyU_take (i := 5) (oi := { dst := some 22, op := Op.move (Operand.tmp 5), type := 3, pos := "keep.go:135", after := #[], guard := none }) (v := (.int .i64 (k : Int))) rfl (by kernel_rfl) (by kernel_rfl) (by kernel_rfl) (by kernel_rfl) (by kernel_rfl) (fun _ _ _ h => h) (BL.cls wr) ?_ ?_
      · refine Or.inl ⟨rfl, fun w hSw => ?_⟩
        exact EffR.same (by go_simp)
      try simp only [Act.put, List.setIfInBounds_toArray, List.set_cons_zero, List.set_cons_succ]
      refine wpAnyU_take (i := 6) (oi := { dst := some 23, op := Op.indexAddr 25 (Operand.tmp 21) (Operand.tmp 22), type := 0, pos := "keep.go:135", after := #[{ on := 4, ground := Ground.data }, { on := 5, ground := Ground.data }], guard := none }) (v := (.pointer (some ⟨bb, offb + k * 12, none⟩))) rfl (by kernel_rfl) (by kernel_rfl) (by kernel_rfl) (by kernel_rfl) (by kernel_rfl) (fun _ _ _ h => h) (BL.cls wr) ?_ ?_
      · refine Or.inl ⟨rfl, fun w hSw => ?_⟩
        exact EffR.same (by go_simp)
      try simp only [Act.put, List.setIfInBounds_toArray, List.set_cons_zero, List.set_cons_succ]
      refine wpAnyU_take (i := 7) (oi := { dst := some 24, op := Op.load 88 (Operand.tmp 23), type := 88, pos := "keep.go:135", after := #[{ on := 6, ground := Ground.data }], guard := none }) (v := (.agg #[.int .i64 c.no, .int .i64 c.cur, .int .i64 c.mult, .int .i64 c.add, .int .i64 c.set, .int .i64 c.price, .int .i64 c.h0, .int .i64 c.h1, .int .i64 c.h2, .int .i64 c.h3, .int .i64 c.h4, .int .i64 c.h5])) rfl (by kernel_rfl) (by kernel_rfl) (by kernel_rfl) (by kernel_rfl) (by kernel_rfl) (fun _ _ _ h => h) (BL.cls wr) ?_ ?_
      · refine Or.inl ⟨rfl, fun w hSw => ?_⟩
        exact eff_load_mid 88 (.tmp 23) rfl bb (offb + k * 12) rfl [.int .i64 c.no, .int .i64 c.cur, .int .i64 c.mult, .int .i64 c.add, .int .i64 c.set, .int .i64 c.price, .int .i64 c.h0, .int .i64 c.h1, .int .i64 c.h2, .int .i64 c.h3, .int .i64 c.h4, .int .i64 c.h5] _ (fun j v h => BL.cell hSw (by have h7 := HCB.out (0 + j) v (by rcases j with _ | _ | _ | _ | _ | _ | _ | _ | _ | _ | _ | _ | j; all_goals first | exact h | (simp at h)); simpa [Nat.add_assoc] using h7)) Tryz.underlying88 rfl (by rw [show ((Tryz.prog.info? 88).map (·.size)) = some 12 from by kernel_rfl]; rfl)
      try simp only [Act.put, List.setIfInBounds_toArray, List.set_cons_zero, List.set_cons_succ]
      refine wpAnyU_take (i := 8) (oi := { dst := some 25, op := Op.call { callee := Callee.value (Operand.func 130), args := #[Operand.tmp 20, Operand.tmp 24], argTypes := #[88, 88] }, type := 4, pos := "keep.go:135", after := #[{ on := 3, ground := Ground.data }, { on := 7, ground := Ground.data }], guard := none }) (v := (.bool true)) rfl (by kernel_rfl) (by kernel_rfl) (by kernel_rfl) (by kernel_rfl) (by kernel_rfl) (fun _ _ _ h => h) (BL.cls wr) ?_ ?_
      · refine Or.inl ⟨rfl, fun w hSw => ?_⟩
        go_simp
        show Calls _ _ _ _ _
        refine (KInst_same _ _ _ _ _ _ _ _ _ _ _ _ _).mono ?_
        rintro e w1 ⟨rfl, hb⟩
        exact ⟨rfl, hb⟩
      try simp only [Act.put, List.setIfInBounds_toArray, List.set_cons_zero, List.set_cons_succ]
      refine wpAnyU_take (i := 9) (oi := { dst := some 26, op := Op.unOp UnOp.not 4 (Operand.tmp 25), type := 4, pos := "keep.go:135", after := #[{ on := 8, ground := Ground.data }], guard := none }) (v := (.bool false)) rfl (by kernel_rfl) (by kernel_rfl) (by kernel_rfl) (by kernel_rfl) (by kernel_rfl) (fun _ _ _ h => h) (BL.cls wr) ?_ ?_
      · refine Or.inl ⟨rfl, fun w hSw => ?_⟩
        exact EffR.same (by go_simp)
      try simp only [Act.put, List.setIfInBounds_toArray, List.set_cons_zero, List.set_cons_succ]
      refine wpAnyU_done (by kernel_rfl) (fun w1 hb1 => ?_) _
      go_wp2_with fail
      exact ⟨⟨k + 1, by omega, by push_cast; rfl, bgoS HBL.out hb1⟩, by simp [intOf]; omega⟩
    · obtain rfl : k = n := by omega
      go_wp2_with fail
      go_ret
      exact ⟨rfl, HBL.out⟩

set_option maxRecDepth 100000 in
set_option maxHeartbeats 3200000 in
theorem KSeats_same (w : World) (va vb : Value) (La Lb : List SV) (S : List SeT) (ha : Rs SV.vs 7 w va La) (hb : Rs SV.vs 7 w vb Lb) (hla : La.length = S.length) (hlb : Lb.length = S.length)
    (hsa : ∀ i (h : i < La.length) (h' : i < S.length), SVok w La[i] S[i]) (hsb : ∀ i (h : i < Lb.length) (h' : i < S.length), SVok w Lb[i] S[i]) :
    Calls Tryz.prog 47 #[va, vb] w fun e w' => e = .returned (.bool true) ∧ Below w.heap.size w w' := by
  obtain ⟨aa, capa, rfl, hcapa, hma⟩ := ha.shape
  obtain ⟨ab, capb, rfl, hcapb, hmb⟩ := hb.shape
  obtain ⟨n, hn⟩ : ∃ n, n = S.length := ⟨_, rfl⟩
  have hna : n = La.length := by omega
  have hnb : n = Lb.length := by omega
  rw [← hna] at ha hcapa ⊢
  rw [← hnb] at hb hcapb ⊢
  have HA := Lib.hid ha
  have HB := Lib.hid hb
  have HN := Lib.hid hn
  have HNA := Lib.hid hna
  have HNB := Lib.hid hnb
  have HSA := Lib.hid hsa
  have HSB := Lib.hid hsb
  clear ha hb hn hna hnb hsa hsb hla hlb
  go_enter Tryz.func47, Tryz.ntmps47
  go_wp2_with fail
  go_loopw [5] (fun i wr => ∃ k : Nat, k ≤ n ∧ i = .int .i64 k ∧ Below w.heap.size w wr) (fun i _ => n - (intOf i).toNat)
  case atStart => exact ⟨0, Nat.zero_le _, rfl, Below.refl _ _⟩
  case round =>
    obtain ⟨k, hk, rfl, hbel⟩ := hrel
    have HBL := Lib.hid hbel
    by_cases hlt : k < n
    · have hkS : k < S.length := by rw [← HN.out]; exact hlt
      have hkA : k < La.length := by rw [← HNA.out]; exact hlt
      have hkB : k < Lb.length := by rw [← HNB.out]; exact hlt
      have sa := HSA.out k hkA hkS
      have sb := HSB.out k hkB hkS
      obtain ⟨ba, offa, rfl, _, hca⟩ := (HA.out.rew HNA.out hbel).at (by omega) (by decide)
      obtain ⟨bb, offb, rfl, _, hcb⟩ := (HB.out.rew HNB.out hbel).at (by omega) (by decide)
      obtain ⟨s, hs⟩ : ∃ s, s = S[k] := ⟨_, rfl⟩
      rw [← hs] at sa sb
      have ea : ∃ u1 un1 uc1 u2 un2 uc2, La[k].vs = [.int .i64 s.client, .int .i64 s.seq, .int .i64 s.r.c, .int .i64 s.r.n, .int .i64 s.r.a, .slice u1 un1 uc1, .slice u2 un2 uc2] ∧ Rs DT.vs 3 w (.slice u1 un1 uc1) s.r.D ∧ Rs FT.vs 8 w (.slice u2 un2 uc2) s.r.F :=
        ⟨_, _, _, _, _, _, by unfold SV.vs; rw [sa.1, sa.2.1, sa.2.2.1, sa.2.2.2.1, sa.2.2.2.2.1], sa.2.2.2.2.2.1, sa.2.2.2.2.2.2⟩
      have eb : ∃ u1 un1 uc1 u2 un2 uc2, Lb[k].vs = [.int .i64 s.client, .int .i64 s.seq, .int .i64 s.r.c, .int .i64 s.r.n, .int .i64 s.r.a, .slice u1 un1 uc1, .slice u2 un2 uc2] ∧ Rs DT.vs 3 w (.slice u1 un1 uc1) s.r.D ∧ Rs FT.vs 8 w (.slice u2 un2 uc2) s.r.F :=
        ⟨_, _, _, _, _, _, by unfold SV.vs; rw [sb.1, sb.2.1, sb.2.2.1, sb.2.2.2.1, sb.2.2.2.2.1], sb.2.2.2.2.2.1, sb.2.2.2.2.2.2⟩
      obtain ⟨u1, un1, uc1, u2, un2, uc2, ea, d1, f1⟩ := ea
      obtain ⟨v1, vn1, vc1, v2, vn2, vc2, eb, d2, f2⟩ := eb
      obtain ⟨cl, hcl⟩ : ∃ x, x = s.client := ⟨_, rfl⟩
      obtain ⟨sq, hsq⟩ : ∃ x, x = s.seq := ⟨_, rfl⟩
      obtain ⟨xc, hxc⟩ : ∃ x, x = s.r.c := ⟨_, rfl⟩
      obtain ⟨xn, hxn⟩ : ∃ x, x = s.r.n := ⟨_, rfl⟩
      obtain ⟨xa, hxa⟩ : ∃ x, x = s.r.a := ⟨_, rfl⟩
      rw [← hcl, ← hsq, ← hxc, ← hxn, ← hxa] at ea eb
      have HCA : Hid (∀ j v, [.int .i64 cl, .int .i64 sq, .int .i64 xc, .int .i64 xn, .int .i64 xa, .slice u1 un1 uc1, .slice u2 un2 uc2][j]? = some v → wr.cell? ⟨ba, offa + k * 7 + j, none⟩ = some v) := fun j v h => hca k hkA j v (by rw [ea]; exact h)
      have HCB : Hid (∀ j v, [.int .i64 cl, .int .i64 sq, .int .i64 xc, .int .i64 xn, .int .i64 xa, .slice v1 vn1 vc1, .slice v2 vn2 vc2][j]? = some v → wr.cell? ⟨bb, offb + k * 7 + j, none⟩ = some v) := fun j v h => hcb k hkB j v (by rw [eb]; exact h)
      have HD1 := Lib.hid (d1.mono hbel)
      have HF1 := Lib.hid (f1.mono hbel)
      have HD2 := Lib.hid (d2.mono hbel)
      have HF2 := Lib.hid (f2.mono hbel)
      have hk0 : (0 : Int) ≤ k := by omega
      have hk1 : (k : Int) < n := by omega
      clear hca hcb hbel ea eb d1 f1 d2 f2 hs sa sb hcl hsq hxc hxn hxa hkA hkB hkS
      go_wp2_with fail
      refine wp_region_bl 38 (by kernel_rfl) ?_
      refine wpAnyU_take (i := 0) (oi := { dst := some 17, op := Op.move (Operand.tmp 0), type := 39, pos := "keep.go:271", after := #[], guard := none }) (v := (.slice (some ⟨ba, offa, none⟩) n capa)) rfl (by kernel_rfl) (by kernel_rfl) (by kernel_rfl) (by kernel_rfl) (by kernel_rfl) (fun _ _ _ h => h) (BL.cls wr) ?_ ?_
      · refine Or.inl ⟨rfl, fun w hSw => ?_⟩
        exact EffR.same (by go_simp)
      try simp only [Act.put, List.setIfInBounds_toArray, List.set_cons_zero, List.set_cons_succ]
      refine wpAnyU_take (i := 1) (oi := { dst := some 18, op := Op.move (Operand.tmp 5), type := 3, pos := "keep.go:271", after := #[], guard := none }) (v := (.int .i64 (k : Int))) rfl (by kernel_rfl) (by kernel_rfl) (by kernel_rfl) (by kernel_rfl) (by kernel_rfl) (fun _ _ _ h => h) (BL.cls wr) ?_ ?_
      · refine Or.inl ⟨rfl, fun w hSw => ?_⟩
        exact EffR.same (by go_simp)
      try simp only [Act.put, List.setIfInBounds_toArray, List.set_cons_zero, List.set_cons_succ]
      refine wpAnyU_take (i := 2) (oi := { dst := some 19, op := Op.indexAddr 39 (Operand.tmp 17) (Operand.tmp 18), type := 0, pos := "keep.go:271", after := #[{ on := 0, ground := Ground.data }, { on := 1, ground := Ground.data }], guard := none }) (v := (.pointer (some ⟨ba, offa + k * 7, none⟩))) rfl (by kernel_rfl) (by kernel_rfl) (by kernel_rfl) (by kernel_rfl) (by kernel_rfl) (fun _ _ _ h => h) (BL.cls wr) ?_ ?_
      · refine Or.inl ⟨rfl, fun w hSw => ?_⟩
        exact EffR.same (by go_simp)
      try simp only [Act.put, List.setIfInBounds_toArray, List.set_cons_zero, List.set_cons_succ]
      refine wpAnyU_take (i := 3) (oi := { dst := some 20, op := Op.fieldAddr 76 (Operand.tmp 19) 0, type := 0, pos := "keep.go:271", after := #[{ on := 2, ground := Ground.data }], guard := none }) (v := (.pointer (some ⟨ba, offa + k * 7, none⟩))) rfl (by kernel_rfl) (by kernel_rfl) (by kernel_rfl) (by kernel_rfl) (by kernel_rfl) (fun _ _ _ h => h) (BL.cls wr) ?_ ?_
      · refine Or.inl ⟨rfl, fun w hSw => ?_⟩
        exact EffR.same (by go_simp)
      try simp only [Act.put, List.setIfInBounds_toArray, List.set_cons_zero, List.set_cons_succ]
      refine wpAnyU_take (i := 4) (oi := { dst := some 21, op := Op.load 3 (Operand.tmp 20), type := 3, pos := "keep.go:271", after := #[{ on := 3, ground := Ground.data }], guard := none }) (v := (.int .i64 cl)) rfl (by kernel_rfl) (by kernel_rfl) (by kernel_rfl) (by kernel_rfl) (by kernel_rfl) (fun _ _ _ h => h) (BL.cls wr) ?_ ?_
      · refine Or.inl ⟨rfl, fun w hSw => ?_⟩
        have e0 : w.cell? ⟨ba, offa + k * 7, none⟩ = some (.int .i64 cl) := BL.cell hSw (HCA.out 0 _ rfl)
        exact EffR.same (by go_simp)
      try simp only [Act.put, List.setIfInBounds_toArray, List.set_cons_zero, List.set_cons_succ]
      refine wpAnyU_take (i := 5) (oi := { dst := some 22, op := Op.move (Operand.tmp 1), type := 39, pos := "keep.go:271", after := #[], guard := none }) (v := (.slice (some ⟨bb, offb, none⟩) n capb)) rfl (by kernel_rfl) (by kernel_rfl) (by kernel_rfl) (by kernel_rfl) (by kernel_rfl) (fun _ _ _ h => h) (BL.cls wr) ?_ ?_
      · refine Or.inl ⟨rfl, fun w hSw => ?_⟩
        exact EffR.same (by go_simp)
      try simp only [Act.put, List.setIfInBounds_toArray, List.set_cons_zero, List.set_cons_succ]
      refine wpAnyU_take (i := 6) (oi := { dst := some 23, op := Op.move (Operand.tmp 5), type := 3, pos := "keep.go:271", after := #[], guard := none }) (v := (.int .i64 (k : Int))) rfl (by kernel_rfl) (by kernel_rfl) (by kernel_rfl) (by kernel_rfl) (by kernel_rfl) (fun _ _ _ h => h) (BL.cls wr) ?_ ?_
      · refine Or.inl ⟨rfl, fun w hSw => ?_⟩
        exact EffR.same (by go_simp)
      try simp only [Act.put, List.setIfInBounds_toArray, List.set_cons_zero, List.set_cons_succ]
      refine wpAnyU_take (i := 7) (oi := { dst := some 24, op := Op.indexAddr 39 (Operand.tmp 22) (Operand.tmp 23), type := 0, pos := "keep.go:271", after := #[{ on := 5, ground := Ground.data }, { on := 6, ground := Ground.data }], guard := none }) (v := (.pointer (some ⟨bb, offb + k * 7, none⟩))) rfl (by kernel_rfl) (by kernel_rfl) (by kernel_rfl) (by kernel_rfl) (by kernel_rfl) (fun _ _ _ h => h) (BL.cls wr) ?_ ?_
      · refine Or.inl ⟨rfl, fun w hSw => ?_⟩
        exact EffR.same (by go_simp)
      try simp only [Act.put, List.setIfInBounds_toArray, List.set_cons_zero, List.set_cons_succ]
      refine wpAnyU_take (i := 8) (oi := { dst := some 25, op := Op.fieldAddr 76 (Operand.tmp 24) 0, type := 0, pos := "keep.go:271", after := #[{ on := 7, ground := Ground.data }], guard := none }) (v := (.pointer (some ⟨bb, offb + k * 7, none⟩))) rfl (by kernel_rfl) (by kernel_rfl) (by kernel_rfl) (by kernel_rfl) (by kernel_rfl) (fun _ _ _ h => h) (BL.cls wr) ?_ ?_
      · refine Or.inl ⟨rfl, fun w hSw => ?_⟩
        exact EffR.same (by go_simp)
      try simp only [Act.put, List.setIfInBounds_toArray, List.set_cons_zero, List.set_cons_succ]
      refine wpAnyU_take (i := 9) (oi := { dst := some 26, op := Op.load 3 (Operand.tmp 25), type := 3, pos := "keep.go:271", after := #[{ on := 8, ground := Ground.data }], guard := none }) (v := (.int .i64 cl)) rfl (by kernel_rfl) (by kernel_rfl) (by kernel_rfl) (by kernel_rfl) (by kernel_rfl) (fun _ _ _ h => h) (BL.cls wr) ?_ ?_
      · refine Or.inl ⟨rfl, fun w hSw => ?_⟩
        have e0 : w.cell? ⟨bb, offb + k * 7, none⟩ = some (.int .i64 cl) := BL.cell hSw (HCB.out 0 _ rfl)
        exact EffR.same (by go_simp)
      try simp only [Act.put, List.setIfInBounds_toArray, List.set_cons_zero, List.set_cons_succ]
      refine wpAnyU_take (i := 10) (oi := { dst := some 27, op := Op.binOp BinOp.neq 3 (Operand.tmp 21) (Operand.tmp 26) 3, type := 4, pos := "keep.go:271", after := #[{ on := 4, ground := Ground.data }, { on := 9, ground := Ground.data }], guard := none }) (v := (.bool false)) rfl (by kernel_rfl) (by kernel_rfl) (by kernel_rfl) (by kernel_rfl) (by kernel_rfl) (fun _ _ _ h => h) (BL.cls wr) ?_ ?_
      · refine Or.inl ⟨rfl, fun w hSw => ?_⟩
        exact EffR.same (by go_simp)
      try simp only [Act.put, List.setIfInBounds_toArray, List.set_cons_zero, List.set_cons_succ]
      refine wpAnyU_take (i := 11) (oi := { dst := some 28, op := Op.move (Operand.tmp 27), type := 4, pos := "keep.go:271", after := #[{ on := 10, ground := Ground.data }], guard := none }) (v := (.bool false)) rfl (by kernel_rfl) (by kernel_rfl) (by kernel_rfl) (by kernel_rfl) (by kernel_rfl) (fun _ _ _ h => h) (BL.cls wr) ?_ ?_
      · refine Or.inl ⟨rfl, fun w hSw => ?_⟩
        exact EffR.same (by go_simp)
      try simp only [Act.put, List.setIfInBounds_toArray, List.set_cons_zero, List.set_cons_succ]
      refine wpAnyU_take (i := 12) (oi := { dst := some 29, op := Op.move (Operand.tmp 0), type := 39, pos := "keep.go:271", after := #[{ on := 11, ground := Ground.guard }], guard := some (11, false) }) (v := (.slice (some ⟨ba, offa, none⟩) n capa)) rfl (by kernel_rfl) (by kernel_rfl) (by kernel_rfl) (by kernel_rfl) (by kernel_rfl) (fun _ _ _ h => h) (BL.cls wr) ?_ ?_
      · refine Or.inl ⟨rfl, fun w hSw => ?_⟩
        exact EffR.same (by go_simp)
      try simp only [Act.put, List.setIfInBounds_toArray, List.set_cons_zero, List.set_cons_succ]
      refine wpAnyU_take (i := 13) (oi := { dst := some 30, op := Op.move (Operand.tmp 5), type := 3, pos := "keep.go:271", after := #[{ on := 11, ground := Ground.guard }], guard := some (11, false) }) (v := (.int .i64 (k : Int))) rfl (by kernel_rfl) (by kernel_rfl) (by kernel_rfl) (by kernel_rfl) (by kernel_rfl) (fun _ _ _ h => h) (BL.cls wr) ?_ ?_
      · refine Or.inl ⟨rfl, fun w hSw => ?_⟩
        exact EffR.same (by go_simp)
      try simp only [Act.put, List.setIfInBounds_toArray, List.set_cons_zero, List.set_cons_succ]
      refine wpAnyU_take (i := 14) (oi := { dst := some 31, op := Op.indexAddr 39 (Operand.tmp 29) (Operand.tmp 30), type := 0, pos := "keep.go:271", after := #[{ on := 12, ground := Ground.data }, { on := 13, ground := Ground.data }, { on := 11, ground := Ground.guard }], guard := some (11, false) }) (v := (.pointer (some ⟨ba, offa + k * 7, none⟩))) rfl (by kernel_rfl) (by kernel_rfl) (by kernel_rfl) (by kernel_rfl) (by kernel_rfl) (fun _ _ _ h => h) (BL.cls wr) ?_ ?_
      · refine Or.inl ⟨rfl, fun w hSw => ?_⟩
        exact EffR.same (by go_simp)
      try simp only [Act.put, List.setIfInBounds_toArray, List.set_cons_zero, List.set_cons_succ]
      refine wpAnyU_take (i := 15) (oi := { dst := some 32, op := Op.fieldAddr 76 (Operand.tmp 31) 1, type := 0, pos := "keep.go:271", after := #[{ on := 14, ground := Ground.data }, { on := 11, ground := Ground.guard }], guard := some (11, false) }) (v := (.pointer (some ⟨ba, offa + k * 7 + 1, none⟩))) rfl (by kernel_rfl) (by kernel_rfl) (by kernel_rfl) (by kernel_rfl) (by kernel_rfl) (fun _ _ _ h => h) (BL.cls wr) ?_ ?_
      · refine Or.inl ⟨rfl, fun w hSw => ?_⟩
        exact EffR.same (by go_simp)
      try simp only [Act.put, List.setIfInBounds_toArray, List.set_cons_zero, List.set_cons_succ]
      refine wpAnyU_take (i := 16) (oi := { dst := some 33, op := Op.load 3 (Operand.tmp 32), type := 3, pos := "keep.go:271", after := #[{ on := 15, ground := Ground.data }, { on := 11, ground := Ground.guard }], guard := some (11, false) }) (v := (.int .i64 sq)) rfl (by kernel_rfl) (by kernel_rfl) (by kernel_rfl) (by kernel_rfl) (by kernel_rfl) (fun _ _ _ h => h) (BL.cls wr) ?_ ?_
      · refine Or.inl ⟨rfl, fun w hSw => ?_⟩
        have e0 : w.cell? ⟨ba, offa + k * 7 + 1, none⟩ = some (.int .i64 sq) := BL.cell hSw (HCA.out 1 _ rfl)
        exact EffR.same (by go_simp)
      try simp only [Act.put, List.setIfInBounds_toArray, List.set_cons_zero, List.set_cons_succ]
      refine wpAnyU_take (i := 17) (oi := { dst := some 34, op := Op.move (Operand.tmp 1), type := 39, pos := "keep.go:271", after := #[{ on := 11, ground := Ground.guard }], guard := some (11, false) }) (v := (.slice (some ⟨bb, offb, none⟩) n capb)) rfl (by kernel_rfl) (by kernel_rfl) (by kernel_rfl) (by kernel_rfl) (by kernel_rfl) (fun _ _ _ h => h) (BL.cls wr) ?_ ?_
      · refine Or.inl ⟨rfl, fun w hSw => ?_⟩
        exact EffR.same (by go_simp)
      try simp only [Act.put, List.setIfInBounds_toArray, List.set_cons_zero, List.set_cons_succ]
      refine wpAnyU_take (i := 18) (oi := { dst := some 35, op := Op.move (Operand.tmp 5), type := 3, pos := "keep.go:271", after := #[{ on := 11, ground := Ground.guard }], guard := some (11, false) }) (v := (.int .i64 (k : Int))) rfl (by kernel_rfl) (by kernel_rfl) (by kernel_rfl) (by kernel_rfl) (by kernel_rfl) (fun _ _ _ h => h) (BL.cls wr) ?_ ?_
      · refine Or.inl ⟨rfl, fun w hSw => ?_⟩
        exact EffR.same (by go_simp)
      try simp only [Act.put, List.setIfInBounds_toArray, List.set_cons_zero, List.set_cons_succ]
      refine wpAnyU_take (i := 19) (oi := { dst := some 36, op := Op.indexAddr 39 (Operand.tmp 34) (Operand.tmp 35), type := 0, pos := "keep.go:271", after := #[{ on := 17, ground := Ground.data }, { on := 18, ground := Ground.data }, { on := 11, ground := Ground.guard }], guard := some (11, false) }) (v := (.pointer (some ⟨bb, offb + k * 7, none⟩))) rfl (by kernel_rfl) (by kernel_rfl) (by kernel_rfl) (by kernel_rfl) (by kernel_rfl) (fun _ _ _ h => h) (BL.cls wr) ?_ ?_
      · refine Or.inl ⟨rfl, fun w hSw => ?_⟩
        exact EffR.same (by go_simp)
      try simp only [Act.put, List.setIfInBounds_toArray, List.set_cons_zero, List.set_cons_succ]
      refine wpAnyU_take (i := 20) (oi := { dst := some 37, op := Op.fieldAddr 76 (Operand.tmp 36) 1, type := 0, pos := "keep.go:271", after := #[{ on := 19, ground := Ground.data }, { on := 11, ground := Ground.guard }], guard := some (11, false) }) (v := (.pointer (some ⟨bb, offb + k * 7 + 1, none⟩))) rfl (by kernel_rfl) (by kernel_rfl) (by kernel_rfl) (by kernel_rfl) (by kernel_rfl) (fun _ _ _ h => h) (BL.cls wr) ?_ ?_
      · refine Or.inl ⟨rfl, fun w hSw => ?_⟩
        exact EffR.same (by go_simp)
      try simp only [Act.put, List.setIfInBounds_toArray, List.set_cons_zero, List.set_cons_succ]
      refine wpAnyU_take (i := 21) (oi := { dst := some 38, op := Op.load 3 (Operand.tmp 37), type := 3, pos := "keep.go:271", after := #[{ on := 20, ground := Ground.data }, { on := 11, ground := Ground.guard }], guard := some (11, false) }) (v := (.int .i64 sq)) rfl (by kernel_rfl) (by kernel_rfl) (by kernel_rfl) (by kernel_rfl) (by kernel_rfl) (fun _ _ _ h => h) (BL.cls wr) ?_ ?_
      · refine Or.inl ⟨rfl, fun w hSw => ?_⟩
        have e0 : w.cell? ⟨bb, offb + k * 7 + 1, none⟩ = some (.int .i64 sq) := BL.cell hSw (HCB.out 1 _ rfl)
        exact EffR.same (by go_simp)
      try simp only [Act.put, List.setIfInBounds_toArray, List.set_cons_zero, List.set_cons_succ]
      refine wpAnyU_take (i := 22) (oi := { dst := some 39, op := Op.binOp BinOp.neq 3 (Operand.tmp 33) (Operand.tmp 38) 3, type := 4, pos := "keep.go:271", after := #[{ on := 16, ground := Ground.data }, { on := 21, ground := Ground.data }, { on := 11, ground := Ground.guard }], guard := some (11, false) }) (v := (.bool false)) rfl (by kernel_rfl) (by kernel_rfl) (by kernel_rfl) (by kernel_rfl) (by kernel_rfl) (fun _ _ _ h => h) (BL.cls wr) ?_ ?_
      · refine Or.inl ⟨rfl, fun w hSw => ?_⟩
        exact EffR.same (by go_simp)
      try simp only [Act.put, List.setIfInBounds_toArray, List.set_cons_zero, List.set_cons_succ]
      refine wpAnyU_take (i := 23) (oi := { dst := some 40, op := Op.pick (Operand.tmp 28) (Operand.const (Value.bool true)) (Operand.tmp 39), type := 4, pos := "keep.go:271", after := #[{ on := 11, ground := Ground.data }, { on := 22, ground := Ground.data }], guard := none }) (v := (.bool false)) rfl (by kernel_rfl) (by kernel_rfl) (by kernel_rfl) (by kernel_rfl) (by kernel_rfl) (fun _ _ _ h => h) (BL.cls wr) ?_ ?_
      · refine Or.inl ⟨rfl, fun w hSw => ?_⟩
        exact EffR.same (by go_simp)
      try simp only [Act.put, List.setIfInBounds_toArray, List.set_cons_zero, List.set_cons_succ]
      refine wpAnyU_take (i := 24) (oi := { dst := some 41, op := Op.move (Operand.tmp 40), type := 4, pos := "keep.go:271", after := #[{ on := 23, ground := Ground.data }, { on := 11, ground := Ground.chain }], guard := none }) (v := (.bool false)) rfl (by kernel_rfl) (by kernel_rfl) (by kernel_rfl) (by kernel_rfl) (by kernel_rfl) (fun _ _ _ h => h) (BL.cls wr) ?_ ?_
      · refine Or.inl ⟨rfl, fun w hSw => ?_⟩
        exact EffR.same (by go_simp)
      try simp only [Act.put, List.setIfInBounds_toArray, List.set_cons_zero, List.set_cons_succ]
      refine wpAnyU_take (i := 25) (oi := { dst := some 42, op := Op.move (Operand.tmp 0), type := 39, pos := "keep.go:271", after := #[{ on := 24, ground := Ground.guard }], guard := some (24, false) }) (v := (.slice (some ⟨ba, offa, none⟩) n capa)) rfl (by kernel_rfl) (by kernel_rfl) (by kernel_rfl) (by kernel_rfl) (by kernel_rfl) (fun _ _ _ h => h) (BL.cls wr) ?_ ?_
      · refine Or.inl ⟨rfl, fun w hSw => ?_⟩
        exact EffR.same (by go_simp)
      try simp only [Act.put, List.setIfInBounds_toArray, List.set_cons_zero, List.set_cons_succ]
      refine wpAnyU_take (i := 26) (oi := { dst := some 43, op := Op.move (Operand.tmp 5), type := 3, pos := "keep.go:271", after := #[{ on := 24, ground := Ground.guard }], guard := some (24, false) }) (v := (.int .i64 (k : Int))) rfl (by kernel_rfl) (by kernel_rfl) (by kernel_rfl) (by kernel_rfl) (by kernel_rfl) (fun _ _ _ h => h) (BL.cls wr) ?_ ?_
      · refine Or.inl ⟨rfl, fun w hSw => ?_⟩
        exact EffR.same (by go_simp)
      try simp only [Act.put, List.setIfInBounds_toArray, List.set_cons_zero, List.set_cons_succ]
      refine wpAnyU_take (i := 27) (oi := { dst := some 44, op := Op.indexAddr 39 (Operand.tmp 42) (Operand.tmp 43), type := 0, pos := "keep.go:271", after := #[{ on := 25, ground := Ground.data }, { on := 26, ground := Ground.data }, { on := 24, ground := Ground.guard }], guard := some (24, false) }) (v := (.pointer (some ⟨ba, offa + k * 7, none⟩))) rfl (by kernel_rfl) (by kernel_rfl) (by kernel_rfl) (by kernel_rfl) (by kernel_rfl) (fun _ _ _ h => h) (BL.cls wr) ?_ ?_
      · refine Or.inl ⟨rfl, fun w hSw => ?_⟩
        exact EffR.same (by go_simp)
      try simp only [Act.put, List.setIfInBounds_toArray, List.set_cons_zero, List.set_cons_succ]
      refine wpAnyU_take (i := 28) (oi := { dst := some 45, op := Op.fieldAddr 76 (Operand.tmp 44) 2, type := 0, pos := "keep.go:271", after := #[{ on := 27, ground := Ground.data }, { on := 24, ground := Ground.guard }], guard := some (24, false) }) (v := (.pointer (some ⟨ba, offa + k * 7 + 2, none⟩))) rfl (by kernel_rfl) (by kernel_rfl) (by kernel_rfl) (by kernel_rfl) (by kernel_rfl) (fun _ _ _ h => h) (BL.cls wr) ?_ ?_
      · refine Or.inl ⟨rfl, fun w hSw => ?_⟩
        exact EffR.same (by go_simp)
      try simp only [Act.put, List.setIfInBounds_toArray, List.set_cons_zero, List.set_cons_succ]
      refine wpAnyU_take (i := 29) (oi := { dst := some 46, op := Op.load 63 (Operand.tmp 45), type := 63, pos := "keep.go:271", after := #[{ on := 28, ground := Ground.data }, { on := 24, ground := Ground.guard }], guard := some (24, false) }) (v := (.agg #[.int .i64 xc, .int .i64 xn, .int .i64 xa, .slice u1 un1 uc1, .slice u2 un2 uc2])) rfl (by kernel_rfl) (by kernel_rfl) (by kernel_rfl) (by kernel_rfl) (by kernel_rfl) (fun _ _ _ h => h) (BL.cls wr) ?_ ?_
      · refine Or.inl ⟨rfl, fun w hSw => ?_⟩
        exact eff_load_mid 63 (.tmp 45) rfl ba (offa + k * 7 + 2) rfl [.int .i64 xc, .int .i64 xn, .int .i64 xa, .slice u1 un1 uc1, .slice u2 un2 uc2] _ (fun j v h => BL.cell hSw (by have h7 := HCA.out (2 + j) v (by rcases j with _ | _ | _ | _ | _ | j; all_goals first | exact h | (simp at h)); simpa [Nat.add_assoc] using h7)) Tryz.underlying63 rfl (by rw [show ((Tryz.prog.info? 63).map (·.size)) = some 5 from by kernel_rfl]; rfl)
      try simp only [Act.put, List.setIfInBounds_toArray, List.set_cons_zero, List.set_cons_succ]
      refine wpAnyU_take (i := 30) (oi := { dst := some 47, op := Op.move (Operand.tmp 1), type := 39, pos := "keep.go:271", after := #[{ on := 24, ground := Ground.guard }], guard := some (24, false) }) (v := (.slice (some ⟨bb, offb, none⟩) n capb)) rfl (by kernel_rfl) (by kernel_rfl) (by kernel_rfl) (by kernel_rfl) (by kernel_rfl) (fun _ _ _ h => h) (BL.cls wr) ?_ ?_
      · refine Or.inl ⟨rfl, fun w hSw => ?_⟩
        exact EffR.same (by go_simp)
      try simp only [Act.put, List.setIfInBounds_toArray, List.set_cons_zero, List.set_cons_succ]
      refine wpAnyU_take (i := 31) (oi := { dst := some 48, op := Op.move (Operand.tmp 5), type := 3, pos := "keep.go:271", after := #[{ on := 24, ground := Ground.guard }], guard := some (24, false) }) (v := (.int .i64 (k : Int))) rfl (by kernel_rfl) (by kernel_rfl) (by kernel_rfl) (by kernel_rfl) (by kernel_rfl) (fun _ _ _ h => h) (BL.cls wr) ?_ ?_
      · refine Or.inl ⟨rfl, fun w hSw => ?_⟩
        exact EffR.same (by go_simp)
      try simp only [Act.put, List.setIfInBounds_toArray, List.set_cons_zero, List.set_cons_succ]
      refine wpAnyU_take (i := 32) (oi := { dst := some 49, op := Op.indexAddr 39 (Operand.tmp 47) (Operand.tmp 48), type := 0, pos := "keep.go:271", after := #[{ on := 30, ground := Ground.data }, { on := 31, ground := Ground.data }, { on := 24, ground := Ground.guard }], guard := some (24, false) }) (v := (.pointer (some ⟨bb, offb + k * 7, none⟩))) rfl (by kernel_rfl) (by kernel_rfl) (by kernel_rfl) (by kernel_rfl) (by kernel_rfl) (fun _ _ _ h => h) (BL.cls wr) ?_ ?_
      · refine Or.inl ⟨rfl, fun w hSw => ?_⟩
        exact EffR.same (by go_simp)
      try simp only [Act.put, List.setIfInBounds_toArray, List.set_cons_zero, List.set_cons_succ]
      refine wpAnyU_take (i := 33) (oi := { dst := some 50, op := Op.fieldAddr 76 (Operand.tmp 49) 2, type := 0, pos := "keep.go:271", after := #[{ on := 32, ground := Ground.data }, { on := 24, ground := Ground.guard }], guard := some (24, false) }) (v := (.pointer (some ⟨bb, offb + k * 7 + 2, none⟩))) rfl (by kernel_rfl) (by kernel_rfl) (by kernel_rfl) (by kernel_rfl) (by kernel_rfl) (fun _ _ _ h => h) (BL.cls wr) ?_ ?_
      · refine Or.inl ⟨rfl, fun w hSw => ?_⟩
        exact EffR.same (by go_simp)
      try simp only [Act.put, List.setIfInBounds_toArray, List.set_cons_zero, List.set_cons_succ]
      refine wpAnyU_take (i := 34) (oi := { dst := some 51, op := Op.load 63 (Operand.tmp 50), type := 63, pos := "keep.go:271", after := #[{ on := 33, ground := Ground.data }, { on := 24, ground := Ground.guard }], guard := some (24, false) }) (v := (.agg #[.int .i64 xc, .int .i64 xn, .int .i64 xa, .slice v1 vn1 vc1, .slice v2 vn2 vc2])) rfl (by kernel_rfl) (by kernel_rfl) (by kernel_rfl) (by kernel_rfl) (by kernel_rfl) (fun _ _ _ h => h) (BL.cls wr) ?_ ?_
      · refine Or.inl ⟨rfl, fun w hSw => ?_⟩
        exact eff_load_mid 63 (.tmp 50) rfl bb (offb + k * 7 + 2) rfl [.int .i64 xc, .int .i64 xn, .int .i64 xa, .slice v1 vn1 vc1, .slice v2 vn2 vc2] _ (fun j v h => BL.cell hSw (by have h7 := HCB.out (2 + j) v (by rcases j with _ | _ | _ | _ | _ | j; all_goals first | exact h | (simp at h)); simpa [Nat.add_assoc] using h7)) Tryz.underlying63 rfl (by rw [show ((Tryz.prog.info? 63).map (·.size)) = some 5 from by kernel_rfl]; rfl)
      try simp only [Act.put, List.setIfInBounds_toArray, List.set_cons_zero, List.set_cons_succ]
      refine wpAnyU_take (i := 35) (oi := { dst := some 52, op := Op.call { callee := Callee.value (Operand.func 22), args := #[Operand.tmp 46, Operand.tmp 51], argTypes := #[63, 63] }, type := 4, pos := "keep.go:271", after := #[{ on := 29, ground := Ground.data }, { on := 34, ground := Ground.data }, { on := 24, ground := Ground.chain }, { on := 24, ground := Ground.guard }], guard := some (24, false) }) (v := (.bool true)) rfl (by kernel_rfl) (by kernel_rfl) (by kernel_rfl) (by kernel_rfl) (by kernel_rfl) (fun _ _ _ h => h) (BL.cls wr) ?_ ?_
      · refine Or.inl ⟨rfl, fun w hSw => ?_⟩
        go_simp
        show Calls _ _ _ _ _
        refine (KReply_any _ xc xn xa xc xn xa _ _ _ _ s.r.D s.r.D s.r.F s.r.F (HD1.out.mono hSw) (HF1.out.mono hSw) (HD2.out.mono hSw) (HF2.out.mono hSw)).mono ?_
        rintro e w1 ⟨rfl, hb⟩
        exact ⟨by rw [decide_eq_true ⟨rfl, rfl, rfl, rfl, rfl⟩], hb⟩
      try simp only [Act.put, List.setIfInBounds_toArray, List.set_cons_zero, List.set_cons_succ]
      refine wpAnyU_take (i := 36) (oi := { dst := some 53, op := Op.unOp UnOp.not 4 (Operand.tmp 52), type := 4, pos := "keep.go:271", after := #[{ on := 35, ground := Ground.data }, { on := 24, ground := Ground.guard }], guard := some (24, false) }) (v := (.bool false)) rfl (by kernel_rfl) (by kernel_rfl) (by kernel_rfl) (by kernel_rfl) (by kernel_rfl) (fun _ _ _ h => h) (BL.cls wr) ?_ ?_
      · refine Or.inl ⟨rfl, fun w hSw => ?_⟩
        exact EffR.same (by go_simp)
      try simp only [Act.put, List.setIfInBounds_toArray, List.set_cons_zero, List.set_cons_succ]
      refine wpAnyU_take (i := 37) (oi := { dst := some 54, op := Op.pick (Operand.tmp 41) (Operand.const (Value.bool true)) (Operand.tmp 53), type := 4, pos := "keep.go:271", after := #[{ on := 24, ground := Ground.data }, { on := 36, ground := Ground.data }], guard := none }) (v := (.bool false)) rfl (by kernel_rfl) (by kernel_rfl) (by kernel_rfl) (by kernel_rfl) (by kernel_rfl) (fun _ _ _ h => h) (BL.cls wr) ?_ ?_
      · refine Or.inl ⟨rfl, fun w hSw => ?_⟩
        exact EffR.same (by go_simp)
      try simp only [Act.put, List.setIfInBounds_toArray, List.set_cons_zero, List.set_cons_succ]
      refine wpAnyU_done (by kernel_rfl) (fun w1 hb1 => ?_) _
      go_wp2_with fail
      exact ⟨⟨k + 1, by omega, by push_cast; rfl, bgoS HBL.out hb1⟩, by simp [intOf]; omega⟩
    · obtain rfl : k = n := by omega
      go_wp2_with fail
      go_ret
      exact ⟨rfl, HBL.out⟩

set_option maxRecDepth 100000 in
set_option maxHeartbeats 3200000 in
theorem KLedger_same (w : World) (la : Int) (va vb : Value) (L : List BaT) (ha : Rs BaT.vs 4 w va L) (hb : Rs BaT.vs 4 w vb L) :
    Calls Tryz.prog 43 #[.agg #[.int .i64 la, va], .agg #[.int .i64 la, vb]] w fun e w' => e = .returned (.bool true) ∧ Below w.heap.size w w' := by
  obtain ⟨aa, capa, rfl, hcapa, hma⟩ := ha.shape
  obtain ⟨ab, capb, rfl, hcapb, hmb⟩ := hb.shape
  obtain ⟨n, hn⟩ : ∃ n, n = L.length := ⟨_, rfl⟩
  rw [← hn] at ha hb hcapa hcapb ⊢
  have hb2 := Below.alloc (Below.alloc (Below.refl w.heap.size w) (Nat.le_refl _) (.cells #[.int .i64 la, .slice aa n capa] 35)) (by simp) (.cells #[.int .i64 la, .slice ab n capb] 35)
  have hc1 : HT ((w.alloc (.cells #[.int .i64 la, .slice aa n capa] 35)).alloc (.cells #[.int .i64 la, .slice ab n capb] 35)) w.heap.size 35 [.int .i64 la, .slice aa n capa] := (HT.new (w := w)).below ((Below.refl _ _).alloc (Nat.le_refl _) _)
  have hc2 : HT ((w.alloc (.cells #[.int .i64 la, .slice aa n capa] 35)).alloc (.cells #[.int .i64 la, .slice ab n capb] 35)) (w.heap.size + 1) 35 [.int .i64 la, .slice ab n capb] := by
    have := HT.new (w := w.alloc (.cells #[.int .i64 la, .slice aa n capa] 35)) (t := 35) (C := [.int .i64 la, .slice ab n capb])
    rw [show (w.alloc (.cells #[.int .i64 la, .slice aa n capa] 35)).heap.size = w.heap.size + 1 by simp] at this
    exact this
  have HA := Lib.hid ha
  have HB := Lib.hid hb
  have HN := Lib.hid hn
  have HB2 := Lib.hid hb2
  have HC1 := Lib.hid hc1
  have HC2 := Lib.hid hc2
  clear ha hb hn hb2 hc1 hc2
  go_enter Tryz.func43, Tryz.ntmps43
  go_wp2_with fail
  generalize hW : (w.alloc (.cells #[.int .i64 la, .slice aa n capa] 35)).alloc (.cells #[.int .i64 la, .slice ab n capb] 35) = W at *
  clear hW
  have HAW := Lib.hid (HA.out.mono HB2.out)
  have HBW := Lib.hid (HB.out.mono HB2.out)
  have HRW : Hid (∀ wr, Below w.heap.size w wr → Rs BaT.vs 4 wr (.slice aa n capa) L ∧ Rs BaT.vs 4 wr (.slice ab n capb) L) := fun wr hb => ⟨HA.out.mono hb, HB.out.mono hb⟩
  clear HA HB HAW HBW
  generalize hgx : w.heap.size = gx at *
  have HGX : Hid (w.heap.size = gx) := hgx
  clear hgx
  go_loopw [5] (fun v5 wr => ∃ k : Nat, k ≤ n ∧ v5 = .int .i64 k ∧ HT wr gx 35 [.int .i64 la, .slice aa n capa] ∧ HT wr (gx + 1) 35 [.int .i64 la, .slice ab n capb] ∧ Below gx w wr) (fun i _ => n - (intOf i).toNat)
  case atStart => exact ⟨0, Nat.zero_le _, rfl, HC1.out, HC2.out, HB2.out⟩
  case round =>
    obtain ⟨k, hk, rfl, hx, hy, hbel⟩ := hrel
    have HBL := Lib.hid hbel
    have HX := Lib.hid hx
    have HY := Lib.hid hy
    have hx1 := HX.out.cell (j := 1) rfl
    have hy1 := HY.out.cell (j := 1) rfl
    by_cases hlt : k < n
    · have hkL : k < L.length := by rw [← HN.out]; exact hlt
      obtain ⟨ra, rb⟩ := HRW.out wr hbel
      rw [HN.out] at ra rb
      obtain ⟨ba, offa, rfl, _, hca⟩ := ra.at (by omega) (by decide)
      obtain ⟨bb, offb, rfl, _, hcb⟩ := rb.at (by omega) (by decide)
      obtain ⟨c, hc⟩ : ∃ c, c = L[k] := ⟨_, rfl⟩
      have HCA : Hid (∀ j v, [.int .i64 c.kind, .int .i64 c.who, .int .i64 c.cur, .int .i64 c.sum][j]? = some v → wr.cell? ⟨ba, offa + k * 4 + j, none⟩ = some v) := fun j v h => hca k hkL j v (by rw [← hc]; exact h)
      have HCB : Hid (∀ j v, [.int .i64 c.kind, .int .i64 c.who, .int .i64 c.cur, .int .i64 c.sum][j]? = some v → wr.cell? ⟨bb, offb + k * 4 + j, none⟩ = some v) := fun j v h => hcb k hkL j v (by rw [← hc]; exact h)
      have hk0 : (0 : Int) ≤ k := by omega
      have hk1 : (k : Int) < n := by omega
      have HX1 := Lib.hid hx1
      have HY1 := Lib.hid hy1
      clear hca hcb hbel hc hx hy ra rb
      go_wp2_with fail
      clear hx1 hy1
      refine wp_region_bl 29 (by kernel_rfl) ?_
      refine wpAnyU_take (i := 0) (oi := { dst := some 27, op := Op.fieldAddr 35 (Operand.tmp 2) 1, type := 0, pos := "keep.go:102", after := #[], guard := none }) (v := (.pointer (some ⟨gx, 1, none⟩))) rfl (by kernel_rfl) (by kernel_rfl) (by kernel_rfl) (by kernel_rfl) (by kernel_rfl) (fun _ _ _ h => h) (BL.cls wr) ?_ ?_
      · refine Or.inl ⟨rfl, fun w hSw => ?_⟩
        exact EffR.same (by go_simp)
      try simp only [Act.put, List.setIfInBounds_toArray, List.set_cons_zero, List.set_cons_succ]
      refine wpAnyU_take (i := 1) (oi := { dst := some 28, op := Op.load 33 (Operand.tmp 27), type := 33, pos := "keep.go:102", after := #[{ on := 0, ground := Ground.data }], guard := none }) (v := (.slice (some ⟨ba, offa, none⟩) n capa)) rfl (by kernel_rfl) (by kernel_rfl) (by kernel_rfl) (by kernel_rfl) (by kernel_rfl) (fun _ _ _ h => h) (BL.cls wr) ?_ ?_
      · refine Or.inl ⟨rfl, fun w hSw => ?_⟩
        have e0 : w.cell? ⟨gx, 1, none⟩ = some (.slice (some ⟨ba, offa, none⟩) n capa) := BL.cell hSw HX1.out
        exact EffR.same (by go_simp)
      try simp only [Act.put, List.setIfInBounds_toArray, List.set_cons_zero, List.set_cons_succ]
      refine wpAnyU_take (i := 2) (oi := { dst := some 29, op := Op.move (Operand.tmp 5), type := 3, pos := "keep.go:102", after := #[], guard := none }) (v := (.int .i64 (k : Int))) rfl (by kernel_rfl) (by kernel_rfl) (by kernel_rfl) (by kernel_rfl) (by kernel_rfl) (fun _ _ _ h => h) (BL.cls wr) ?_ ?_
      · refine Or.inl ⟨rfl, fun w hSw => ?_⟩
        exact EffR.same (by go_simp)
      try simp only [Act.put, List.setIfInBounds_toArray, List.set_cons_zero, List.set_cons_succ]
      refine wpAnyU_take (i := 3) (oi := { dst := some 30, op := Op.indexAddr 33 (Operand.tmp 28) (Operand.tmp 29), type := 0, pos := "keep.go:102", after := #[{ on := 1, ground := Ground.data }, { on := 2, ground := Ground.data }], guard := none }) (v := (.pointer (some ⟨ba, offa + k * 4, none⟩))) rfl (by kernel_rfl) (by kernel_rfl) (by kernel_rfl) (by kernel_rfl) (by kernel_rfl) (fun _ _ _ h => h) (BL.cls wr) ?_ ?_
      · refine Or.inl ⟨rfl, fun w hSw => ?_⟩
        exact EffR.same (by go_simp)
      try simp only [Act.put, List.setIfInBounds_toArray, List.set_cons_zero, List.set_cons_succ]
      refine wpAnyU_take (i := 4) (oi := { dst := some 31, op := Op.fieldAddr 102 (Operand.tmp 30) 0, type := 0, pos := "keep.go:102", after := #[{ on := 3, ground := Ground.data }], guard := none }) (v := (.pointer (some ⟨ba, offa + k * 4, none⟩))) rfl (by kernel_rfl) (by kernel_rfl) (by kernel_rfl) (by kernel_rfl) (by kernel_rfl) (fun _ _ _ h => h) (BL.cls wr) ?_ ?_
      · refine Or.inl ⟨rfl, fun w hSw => ?_⟩
        exact EffR.same (by go_simp)
      try simp only [Act.put, List.setIfInBounds_toArray, List.set_cons_zero, List.set_cons_succ]
      refine wpAnyU_take (i := 5) (oi := { dst := some 32, op := Op.load 100 (Operand.tmp 31), type := 100, pos := "keep.go:102", after := #[{ on := 4, ground := Ground.data }], guard := none }) (v := (.agg #[.int .i64 c.kind, .int .i64 c.who, .int .i64 c.cur])) rfl (by kernel_rfl) (by kernel_rfl) (by kernel_rfl) (by kernel_rfl) (by kernel_rfl) (fun _ _ _ h => h) (BL.cls wr) ?_ ?_
      · refine Or.inl ⟨rfl, fun w hSw => ?_⟩
        exact eff_load_mid 100 (.tmp 31) rfl ba (offa + k * 4) rfl [.int .i64 c.kind, .int .i64 c.who, .int .i64 c.cur] _ (fun j v h => BL.cell hSw (by have h7 := HCA.out (0 + j) v (by rcases j with _ | _ | _ | j; all_goals first | exact h | (simp at h)); simpa [Nat.add_assoc] using h7)) Tryz.underlying100 rfl (by rw [show ((Tryz.prog.info? 100).map (·.size)) = some 3 from by kernel_rfl]; rfl)
      try simp only [Act.put, List.setIfInBounds_toArray, List.set_cons_zero, List.set_cons_succ]
      refine wpAnyU_take (i := 6) (oi := { dst := some 33, op := Op.fieldAddr 35 (Operand.tmp 3) 1, type := 0, pos := "keep.go:102", after := #[], guard := none }) (v := (.pointer (some ⟨gx + 1, 1, none⟩))) rfl (by kernel_rfl) (by kernel_rfl) (by kernel_rfl) (by kernel_rfl) (by kernel_rfl) (fun _ _ _ h => h) (BL.cls wr) ?_ ?_
      · refine Or.inl ⟨rfl, fun w hSw => ?_⟩
        exact EffR.same (by go_simp)
      try simp only [Act.put, List.setIfInBounds_toArray, List.set_cons_zero, List.set_cons_succ]
      refine wpAnyU_take (i := 7) (oi := { dst := some 34, op := Op.load 33 (Operand.tmp 33), type := 33, pos := "keep.go:102", after := #[{ on := 6, ground := Ground.data }], guard := none }) (v := (.slice (some ⟨bb, offb, none⟩) n capb)) rfl (by kernel_rfl) (by kernel_rfl) (by kernel_rfl) (by kernel_rfl) (by kernel_rfl) (fun _ _ _ h => h) (BL.cls wr) ?_ ?_
      · refine Or.inl ⟨rfl, fun w hSw => ?_⟩
        have e0 : w.cell? ⟨gx + 1, 1, none⟩ = some (.slice (some ⟨bb, offb, none⟩) n capb) := BL.cell hSw HY1.out
        exact EffR.same (by go_simp)
      try simp only [Act.put, List.setIfInBounds_toArray, List.set_cons_zero, List.set_cons_succ]
      refine wpAnyU_take (i := 8) (oi := { dst := some 35, op := Op.move (Operand.tmp 5), type := 3, pos := "keep.go:102", after := #[], guard := none }) (v := (.int .i64 (k : Int))) rfl (by kernel_rfl) (by kernel_rfl) (by kernel_rfl) (by kernel_rfl) (by kernel_rfl) (fun _ _ _ h => h) (BL.cls wr) ?_ ?_
      · refine Or.inl ⟨rfl, fun w hSw => ?_⟩
        exact EffR.same (by go_simp)
      try simp only [Act.put, List.setIfInBounds_toArray, List.set_cons_zero, List.set_cons_succ]
      refine wpAnyU_take (i := 9) (oi := { dst := some 36, op := Op.indexAddr 33 (Operand.tmp 34) (Operand.tmp 35), type := 0, pos := "keep.go:102", after := #[{ on := 7, ground := Ground.data }, { on := 8, ground := Ground.data }], guard := none }) (v := (.pointer (some ⟨bb, offb + k * 4, none⟩))) rfl (by kernel_rfl) (by kernel_rfl) (by kernel_rfl) (by kernel_rfl) (by kernel_rfl) (fun _ _ _ h => h) (BL.cls wr) ?_ ?_
      · refine Or.inl ⟨rfl, fun w hSw => ?_⟩
        exact EffR.same (by go_simp)
      try simp only [Act.put, List.setIfInBounds_toArray, List.set_cons_zero, List.set_cons_succ]
      refine wpAnyU_take (i := 10) (oi := { dst := some 37, op := Op.fieldAddr 102 (Operand.tmp 36) 0, type := 0, pos := "keep.go:102", after := #[{ on := 9, ground := Ground.data }], guard := none }) (v := (.pointer (some ⟨bb, offb + k * 4, none⟩))) rfl (by kernel_rfl) (by kernel_rfl) (by kernel_rfl) (by kernel_rfl) (by kernel_rfl) (fun _ _ _ h => h) (BL.cls wr) ?_ ?_
      · refine Or.inl ⟨rfl, fun w hSw => ?_⟩
        exact EffR.same (by go_simp)
      try simp only [Act.put, List.setIfInBounds_toArray, List.set_cons_zero, List.set_cons_succ]
      refine wpAnyU_take (i := 11) (oi := { dst := some 38, op := Op.load 100 (Operand.tmp 37), type := 100, pos := "keep.go:102", after := #[{ on := 10, ground := Ground.data }], guard := none }) (v := (.agg #[.int .i64 c.kind, .int .i64 c.who, .int .i64 c.cur])) rfl (by kernel_rfl) (by kernel_rfl) (by kernel_rfl) (by kernel_rfl) (by kernel_rfl) (fun _ _ _ h => h) (BL.cls wr) ?_ ?_
      · refine Or.inl ⟨rfl, fun w hSw => ?_⟩
        exact eff_load_mid 100 (.tmp 37) rfl bb (offb + k * 4) rfl [.int .i64 c.kind, .int .i64 c.who, .int .i64 c.cur] _ (fun j v h => BL.cell hSw (by have h7 := HCB.out (0 + j) v (by rcases j with _ | _ | _ | j; all_goals first | exact h | (simp at h)); simpa [Nat.add_assoc] using h7)) Tryz.underlying100 rfl (by rw [show ((Tryz.prog.info? 100).map (·.size)) = some 3 from by kernel_rfl]; rfl)
      try simp only [Act.put, List.setIfInBounds_toArray, List.set_cons_zero, List.set_cons_succ]
      refine wpAnyU_take (i := 12) (oi := { dst := some 39, op := Op.call { callee := Callee.value (Operand.func 103), args := #[Operand.tmp 32, Operand.tmp 38], argTypes := #[100, 100] }, type := 4, pos := "keep.go:102", after := #[{ on := 5, ground := Ground.data }, { on := 11, ground := Ground.data }], guard := none }) (v := (.bool true)) rfl (by kernel_rfl) (by kernel_rfl) (by kernel_rfl) (by kernel_rfl) (by kernel_rfl) (fun _ _ _ h => h) (BL.cls wr) ?_ ?_
      · refine Or.inl ⟨rfl, fun w hSw => ?_⟩
        go_simp
        show Calls _ _ _ _ _
        refine (KAcct_same _ _ _ _).mono ?_
        rintro e w1 ⟨rfl, hb⟩
        exact ⟨rfl, hb⟩
      try simp only [Act.put, List.setIfInBounds_toArray, List.set_cons_zero, List.set_cons_succ]
      refine wpAnyU_take (i := 13) (oi := { dst := some 40, op := Op.unOp UnOp.not 4 (Operand.tmp 39), type := 4, pos := "keep.go:102", after := #[{ on := 12, ground := Ground.data }], guard := none }) (v := (.bool false)) rfl (by kernel_rfl) (by kernel_rfl) (by kernel_rfl) (by kernel_rfl) (by kernel_rfl) (fun _ _ _ h => h) (BL.cls wr) ?_ ?_
      · refine Or.inl ⟨rfl, fun w hSw => ?_⟩
        exact EffR.same (by go_simp)
      try simp only [Act.put, List.setIfInBounds_toArray, List.set_cons_zero, List.set_cons_succ]
      refine wpAnyU_take (i := 14) (oi := { dst := some 41, op := Op.move (Operand.tmp 40), type := 4, pos := "keep.go:102", after := #[{ on := 13, ground := Ground.data }, { on := 12, ground := Ground.chain }], guard := none }) (v := (.bool false)) rfl (by kernel_rfl) (by kernel_rfl) (by kernel_rfl) (by kernel_rfl) (by kernel_rfl) (fun _ _ _ h => h) (BL.cls wr) ?_ ?_
      · refine Or.inl ⟨rfl, fun w hSw => ?_⟩
        exact EffR.same (by go_simp)
      try simp only [Act.put, List.setIfInBounds_toArray, List.set_cons_zero, List.set_cons_succ]
      refine wpAnyU_take (i := 15) (oi := { dst := some 42, op := Op.fieldAddr 35 (Operand.tmp 2) 1, type := 0, pos := "keep.go:102", after := #[{ on := 14, ground := Ground.guard }], guard := some (14, false) }) (v := (.pointer (some ⟨gx, 1, none⟩))) rfl (by kernel_rfl) (by kernel_rfl) (by kernel_rfl) (by kernel_rfl) (by kernel_rfl) (fun _ _ _ h => h) (BL.cls wr) ?_ ?_
      · refine Or.inl ⟨rfl, fun w hSw => ?_⟩
        exact EffR.same (by go_simp)
      try simp only [Act.put, List.setIfInBounds_toArray, List.set_cons_zero, List.set_cons_succ]
      refine wpAnyU_take (i := 16) (oi := { dst := some 43, op := Op.load 33 (Operand.tmp 42), type := 33, pos := "keep.go:102", after := #[{ on := 15, ground := Ground.data }, { on := 14, ground := Ground.guard }], guard := some (14, false) }) (v := (.slice (some ⟨ba, offa, none⟩) n capa)) rfl (by kernel_rfl) (by kernel_rfl) (by kernel_rfl) (by kernel_rfl) (by kernel_rfl) (fun _ _ _ h => h) (BL.cls wr) ?_ ?_
      · refine Or.inl ⟨rfl, fun w hSw => ?_⟩
        have e0 : w.cell? ⟨gx, 1, none⟩ = some (.slice (some ⟨ba, offa, none⟩) n capa) := BL.cell hSw HX1.out
        exact EffR.same (by go_simp)
      try simp only [Act.put, List.setIfInBounds_toArray, List.set_cons_zero, List.set_cons_succ]
      refine wpAnyU_take (i := 17) (oi := { dst := some 44, op := Op.move (Operand.tmp 5), type := 3, pos := "keep.go:102", after := #[{ on := 14, ground := Ground.guard }], guard := some (14, false) }) (v := (.int .i64 (k : Int))) rfl (by kernel_rfl) (by kernel_rfl) (by kernel_rfl) (by kernel_rfl) (by kernel_rfl) (fun _ _ _ h => h) (BL.cls wr) ?_ ?_
      · refine Or.inl ⟨rfl, fun w hSw => ?_⟩
        exact EffR.same (by go_simp)
      try simp only [Act.put, List.setIfInBounds_toArray, List.set_cons_zero, List.set_cons_succ]
      refine wpAnyU_take (i := 18) (oi := { dst := some 45, op := Op.indexAddr 33 (Operand.tmp 43) (Operand.tmp 44), type := 0, pos := "keep.go:102", after := #[{ on := 16, ground := Ground.data }, { on := 17, ground := Ground.data }, { on := 14, ground := Ground.guard }], guard := some (14, false) }) (v := (.pointer (some ⟨ba, offa + k * 4, none⟩))) rfl (by kernel_rfl) (by kernel_rfl) (by kernel_rfl) (by kernel_rfl) (by kernel_rfl) (fun _ _ _ h => h) (BL.cls wr) ?_ ?_
      · refine Or.inl ⟨rfl, fun w hSw => ?_⟩
        exact EffR.same (by go_simp)
      try simp only [Act.put, List.setIfInBounds_toArray, List.set_cons_zero, List.set_cons_succ]
      refine wpAnyU_take (i := 19) (oi := { dst := some 46, op := Op.fieldAddr 102 (Operand.tmp 45) 1, type := 0, pos := "keep.go:102", after := #[{ on := 18, ground := Ground.data }, { on := 14, ground := Ground.guard }], guard := some (14, false) }) (v := (.pointer (some ⟨ba, offa + k * 4 + 3, none⟩))) rfl (by kernel_rfl) (by kernel_rfl) (by kernel_rfl) (by kernel_rfl) (by kernel_rfl) (fun _ _ _ h => h) (BL.cls wr) ?_ ?_
      · refine Or.inl ⟨rfl, fun w hSw => ?_⟩
        exact EffR.same (by go_simp)
      try simp only [Act.put, List.setIfInBounds_toArray, List.set_cons_zero, List.set_cons_succ]
      refine wpAnyU_take (i := 20) (oi := { dst := some 47, op := Op.load 3 (Operand.tmp 46), type := 3, pos := "keep.go:102", after := #[{ on := 19, ground := Ground.data }, { on := 14, ground := Ground.guard }], guard := some (14, false) }) (v := (.int .i64 c.sum)) rfl (by kernel_rfl) (by kernel_rfl) (by kernel_rfl) (by kernel_rfl) (by kernel_rfl) (fun _ _ _ h => h) (BL.cls wr) ?_ ?_
      · refine Or.inl ⟨rfl, fun w hSw => ?_⟩
        have e0 : w.cell? ⟨ba, offa + k * 4 + 3, none⟩ = some (.int .i64 c.sum) := BL.cell hSw (HCA.out 3 _ rfl)
        exact EffR.same (by go_simp)
      try simp only [Act.put, List.setIfInBounds_toArray, List.set_cons_zero, List.set_cons_succ]
      refine wpAnyU_take (i := 21) (oi := { dst := some 48, op := Op.fieldAddr 35 (Operand.tmp 3) 1, type := 0, pos := "keep.go:102", after := #[{ on := 14, ground := Ground.guard }], guard := some (14, false) }) (v := (.pointer (some ⟨gx + 1, 1, none⟩))) rfl (by kernel_rfl) (by kernel_rfl) (by kernel_rfl) (by kernel_rfl) (by kernel_rfl) (fun _ _ _ h => h) (BL.cls wr) ?_ ?_
      · refine Or.inl ⟨rfl, fun w hSw => ?_⟩
        exact EffR.same (by go_simp)
      try simp only [Act.put, List.setIfInBounds_toArray, List.set_cons_zero, List.set_cons_succ]
      refine wpAnyU_take (i := 22) (oi := { dst := some 49, op := Op.load 33 (Operand.tmp 48), type := 33, pos := "keep.go:102", after := #[{ on := 21, ground := Ground.data }, { on := 14, ground := Ground.guard }], guard := some (14, false) }) (v := (.slice (some ⟨bb, offb, none⟩) n capb)) rfl (by kernel_rfl) (by kernel_rfl) (by kernel_rfl) (by kernel_rfl) (by kernel_rfl) (fun _ _ _ h => h) (BL.cls wr) ?_ ?_
      · refine Or.inl ⟨rfl, fun w hSw => ?_⟩
        have e0 : w.cell? ⟨gx + 1, 1, none⟩ = some (.slice (some ⟨bb, offb, none⟩) n capb) := BL.cell hSw HY1.out
        exact EffR.same (by go_simp)
      try simp only [Act.put, List.setIfInBounds_toArray, List.set_cons_zero, List.set_cons_succ]
      refine wpAnyU_take (i := 23) (oi := { dst := some 50, op := Op.move (Operand.tmp 5), type := 3, pos := "keep.go:102", after := #[{ on := 14, ground := Ground.guard }], guard := some (14, false) }) (v := (.int .i64 (k : Int))) rfl (by kernel_rfl) (by kernel_rfl) (by kernel_rfl) (by kernel_rfl) (by kernel_rfl) (fun _ _ _ h => h) (BL.cls wr) ?_ ?_
      · refine Or.inl ⟨rfl, fun w hSw => ?_⟩
        exact EffR.same (by go_simp)
      try simp only [Act.put, List.setIfInBounds_toArray, List.set_cons_zero, List.set_cons_succ]
      refine wpAnyU_take (i := 24) (oi := { dst := some 51, op := Op.indexAddr 33 (Operand.tmp 49) (Operand.tmp 50), type := 0, pos := "keep.go:102", after := #[{ on := 22, ground := Ground.data }, { on := 23, ground := Ground.data }, { on := 14, ground := Ground.guard }], guard := some (14, false) }) (v := (.pointer (some ⟨bb, offb + k * 4, none⟩))) rfl (by kernel_rfl) (by kernel_rfl) (by kernel_rfl) (by kernel_rfl) (by kernel_rfl) (fun _ _ _ h => h) (BL.cls wr) ?_ ?_
      · refine Or.inl ⟨rfl, fun w hSw => ?_⟩
        exact EffR.same (by go_simp)
      try simp only [Act.put, List.setIfInBounds_toArray, List.set_cons_zero, List.set_cons_succ]
      refine wpAnyU_take (i := 25) (oi := { dst := some 52, op := Op.fieldAddr 102 (Operand.tmp 51) 1, type := 0, pos := "keep.go:102", after := #[{ on := 24, ground := Ground.data }, { on := 14, ground := Ground.guard }], guard := some (14, false) }) (v := (.pointer (some ⟨bb, offb + k * 4 + 3, none⟩))) rfl (by kernel_rfl) (by kernel_rfl) (by kernel_rfl) (by kernel_rfl) (by kernel_rfl) (fun _ _ _ h => h) (BL.cls wr) ?_ ?_
      · refine Or.inl ⟨rfl, fun w hSw => ?_⟩
        exact EffR.same (by go_simp)
      try simp only [Act.put, List.setIfInBounds_toArray, List.set_cons_zero, List.set_cons_succ]
      refine wpAnyU_take (i := 26) (oi := { dst := some 53, op := Op.load 3 (Operand.tmp 52), type := 3, pos := "keep.go:102", after := #[{ on := 25, ground := Ground.data }, { on := 14, ground := Ground.guard }], guard := some (14, false) }) (v := (.int .i64 c.sum)) rfl (by kernel_rfl) (by kernel_rfl) (by kernel_rfl) (by kernel_rfl) (by kernel_rfl) (fun _ _ _ h => h) (BL.cls wr) ?_ ?_
      · refine Or.inl ⟨rfl, fun w hSw => ?_⟩
        have e0 : w.cell? ⟨bb, offb + k * 4 + 3, none⟩ = some (.int .i64 c.sum) := BL.cell hSw (HCB.out 3 _ rfl)
        exact EffR.same (by go_simp)
      try simp only [Act.put, List.setIfInBounds_toArray, List.set_cons_zero, List.set_cons_succ]
      refine wpAnyU_take (i := 27) (oi := { dst := some 54, op := Op.binOp BinOp.neq 3 (Operand.tmp 47) (Operand.tmp 53) 3, type := 4, pos := "keep.go:102", after := #[{ on := 20, ground := Ground.data }, { on := 26, ground := Ground.data }, { on := 14, ground := Ground.guard }], guard := some (14, false) }) (v := (.bool false)) rfl (by kernel_rfl) (by kernel_rfl) (by kernel_rfl) (by kernel_rfl) (by kernel_rfl) (fun _ _ _ h => h) (BL.cls wr) ?_ ?_
      · refine Or.inl ⟨rfl, fun w hSw => ?_⟩
        exact EffR.same (by go_simp)
      try simp only [Act.put, List.setIfInBounds_toArray, List.set_cons_zero, List.set_cons_succ]
      refine wpAnyU_take (i := 28) (oi := { dst := some 55, op := Op.pick (Operand.tmp 41) (Operand.const (Value.bool true)) (Operand.tmp 54), type := 4, pos := "keep.go:102", after := #[{ on := 14, ground := Ground.data }, { on := 27, ground := Ground.data }], guard := none }) (v := (.bool false)) rfl (by kernel_rfl) (by kernel_rfl) (by kernel_rfl) (by kernel_rfl) (by kernel_rfl) (fun _ _ _ h => h) (BL.cls wr) ?_ ?_
      · refine Or.inl ⟨rfl, fun w hSw => ?_⟩
        exact EffR.same (by go_simp)
      try simp only [Act.put, List.setIfInBounds_toArray, List.set_cons_zero, List.set_cons_succ]
      refine wpAnyU_done (by kernel_rfl) (fun w1 hb1 => ?_) _
      have HQ := Lib.hid (Below.trans HBL.out (hb1.mono (by have h8 := HBL.out.size; have h9 := HGX.out; omega)))
      have HX9 := Lib.hid (HX.out.below hb1)
      have HY9 := Lib.hid (HY.out.below hb1)
      go_wp2_with fail
      exact ⟨⟨k + 1, by omega, by push_cast; rfl, HX9.out, HY9.out, HQ.out⟩, by simp [intOf]; omega⟩
    · obtain rfl : k = n := by omega
      clear hx hy
      go_wp2_with fail
      go_ret
      exact ⟨rfl, by rw [HGX.out]; exact HBL.out⟩
end Cam
