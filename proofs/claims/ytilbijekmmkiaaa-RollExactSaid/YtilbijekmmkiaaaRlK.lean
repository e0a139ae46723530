import Derived.Test.YtilbijekmmkiaaaUniT
import Derived.Test.YtilbijekmmkiaaaRlP
/- cambistkeep: Members, Insts, Assets, Roll over values that are the same. -/
namespace Cam
open Go Go.RowKit Go.Proofs
abbrev ivs (l : List Int) : List Value := l.map (Value.int .i64)
theorem ivs_at {L : List Int} {j : Nat} (h : j < L.length) : (ivs L)[j]? = some (.int .i64 L[j]) := by
 rw [List.getElem?_map, List.getElem?_eq_getElem h]; rfl
theorem KAsset_same (w : World) (a b c d : Int) : Calls Try.prog 21 #[.agg #[.int .i64 a, .int .i64 b, .int .i64 c, .int .i64 d], .agg #[.int .i64 a, .int .i64 b, .int .i64 c, .int .i64 d]] w fun e w' => e = .returned (.bool true) ∧ Below w.heap.size w w' := by
 have HB := Lib.hid ((((Below.refl w.heap.size w).alloc (Nat.le_refl _) (.cells #[.int .i64 a, .int .i64 b, .int .i64 c, .int .i64 d] 42)).alloc (by simp) (.cells #[.int .i64 a, .int .i64 b, .int .i64 c, .int .i64 d] 42)))
 go_enter Try.func21, Try.ntmps21
 go_wp2_with fail
 go_ret
 exact ⟨rfl, HB.out⟩
set_option maxRecDepth 100000 in
set_option maxHeartbeats 3200000 in
theorem KMembers_same (w : World) (va vb : Value) (L : List MbT) (ha : Rs MbT.vs 3 w va L) (hb : Rs MbT.vs 3 w vb L) :
  Calls Try.prog 19 #[va, vb] w fun e w' => e = .returned (.bool true) ∧ Below w.heap.size w w' := by
 obtain ⟨aa, capa, rfl, hcapa, hma⟩ := ha.shape
 obtain ⟨ab, capb, rfl, hcapb, hmb⟩ := hb.shape
 obtain ⟨n, hn⟩ : ∃ n, n = L.length := ⟨_, rfl⟩
 rw [← hn] at ha hb hcapa hcapb ⊢
 have HA := Lib.hid ha
 have HB := Lib.hid hb
 have HN := Lib.hid hn
 clear ha hb hn
 go_enter Try.func19, Try.ntmps19
 go_wp2_with fail
 go_loopw [5] (fun i wr => ∃ k : Nat, k ≤ n ∧ i = .int .i64 k ∧ Below w.heap.size w wr) (fun i _ => n - (intOf i).toNat)
 case atStart => exact ⟨0, Nat.zero_le _, rfl, Below.refl _ _⟩
 case round =>
  obtain ⟨k, hk, rfl, hbel⟩ := hrel
  have HBL := Lib.hid hbel
  by_cases hlt : k < n
  ·
   have hkL : k < L.length := by rw [← HN.out]; exact hlt
   obtain ⟨ba, offa, rfl, _, hca⟩ := (HA.out.rew HN.out hbel).at (by omega) (by decide)
   obtain ⟨bb, offb, rfl, _, hcb⟩ := (HB.out.rew HN.out hbel).at (by omega) (by decide)
   obtain ⟨c, hc⟩ : ∃ c, c = L[k] := ⟨_, rfl⟩
   have HCA : Hid (∀ j v, [.int .i64 c.no, .int .i64 c.state, .int .i64 c.need][j]? = some v → wr.cell? ⟨ba, offa + k * 3 + j, none⟩ = some v) := fun j v h => hca k hkL j v (by rw [← hc]; exact h)
   have HCB : Hid (∀ j v, [.int .i64 c.no, .int .i64 c.state, .int .i64 c.need][j]? = some v → wr.cell? ⟨bb, offb + k * 3 + j, none⟩ = some v) := fun j v h => hcb k hkL j v (by rw [← hc]; exact h)
   have hk0 : (0 : Int) ≤ k := by omega
   have hk1 : (k : Int) < n := by omega
   clear hca hcb hbel hc
   go_wp2_with fail
   refine wp_region_bl 37 (by kernel_rfl) ?_
   refine otks (i := 0) (oi := { dst := some 17, op := Op.move (Operand.tmp 0), type := 22, pos := "keep.go:114", after := #[], guard := none }) (v := (.slice (some ⟨ba, offa, none⟩) n capa)) rfl (by kernel_rfl) (BL.cls wr) rfl (fun w hSw => by go_simp) ?_
   try simp only [Act.put, zA, zB, zC]
   refine otks (i := 1) (oi := { dst := some 18, op := Op.move (Operand.tmp 5), type := 3, pos := "keep.go:114", after := #[], guard := none }) (v := (.int .i64 (k : Int))) rfl (by kernel_rfl) (BL.cls wr) rfl (fun w hSw => by go_simp) ?_
   try simp only [Act.put, zA, zB, zC]
   refine otks (i := 2) (oi := { dst := some 19, op := Op.indexAddr 22 (Operand.tmp 17) (Operand.tmp 18), type := 0, pos := "keep.go:114", after := #[{ on := 0, ground := Ground.data }, { on := 1, ground := Ground.data }], guard := none }) (v := (.pointer (some ⟨ba, offa + k * 3, none⟩))) rfl (by kernel_rfl) (BL.cls wr) rfl (fun w hSw => by go_simp) ?_
   try simp only [Act.put, zA, zB, zC]
   refine otks (i := 3) (oi := { dst := some 20, op := Op.fieldAddr 33 (Operand.tmp 19) 0, type := 0, pos := "keep.go:114", after := #[{ on := 2, ground := Ground.data }], guard := none }) (v := (.pointer (some ⟨ba, offa + k * 3, none⟩))) rfl (by kernel_rfl) (BL.cls wr) rfl (fun w hSw => by go_simp) ?_
   try simp only [Act.put, zA, zB, zC]
   refine otk (i := 4) (oi := { dst := some 21, op := Op.load 3 (Operand.tmp 20), type := 3, pos := "keep.go:114", after := #[{ on := 3, ground := Ground.data }], guard := none }) (v := (.int .i64 c.no)) rfl (by kernel_rfl) (BL.cls wr) ?_ ?_
   ·
    refine Or.inl ⟨rfl, fun w hSw => ?_⟩
    have e0 : w.cell? ⟨ba, offa + k * 3, none⟩ = some (.int .i64 c.no) := BL.cell hSw (HCA.out 0 _ rfl)
    exact EffR.same (by go_simp)
   try simp only [Act.put, zA, zB, zC]
   refine otks (i := 5) (oi := { dst := some 22, op := Op.move (Operand.tmp 1), type := 22, pos := "keep.go:114", after := #[], guard := none }) (v := (.slice (some ⟨bb, offb, none⟩) n capb)) rfl (by kernel_rfl) (BL.cls wr) rfl (fun w hSw => by go_simp) ?_
   try simp only [Act.put, zA, zB, zC]
   refine otks (i := 6) (oi := { dst := some 23, op := Op.move (Operand.tmp 5), type := 3, pos := "keep.go:114", after := #[], guard := none }) (v := (.int .i64 (k : Int))) rfl (by kernel_rfl) (BL.cls wr) rfl (fun w hSw => by go_simp) ?_
   try simp only [Act.put, zA, zB, zC]
   refine otks (i := 7) (oi := { dst := some 24, op := Op.indexAddr 22 (Operand.tmp 22) (Operand.tmp 23), type := 0, pos := "keep.go:114", after := #[{ on := 5, ground := Ground.data }, { on := 6, ground := Ground.data }], guard := none }) (v := (.pointer (some ⟨bb, offb + k * 3, none⟩))) rfl (by kernel_rfl) (BL.cls wr) rfl (fun w hSw => by go_simp) ?_
   try simp only [Act.put, zA, zB, zC]
   refine otks (i := 8) (oi := { dst := some 25, op := Op.fieldAddr 33 (Operand.tmp 24) 0, type := 0, pos := "keep.go:114", after := #[{ on := 7, ground := Ground.data }], guard := none }) (v := (.pointer (some ⟨bb, offb + k * 3, none⟩))) rfl (by kernel_rfl) (BL.cls wr) rfl (fun w hSw => by go_simp) ?_
   try simp only [Act.put, zA, zB, zC]
   refine otk (i := 9) (oi := { dst := some 26, op := Op.load 3 (Operand.tmp 25), type := 3, pos := "keep.go:114", after := #[{ on := 8, ground := Ground.data }], guard := none }) (v := (.int .i64 c.no)) rfl (by kernel_rfl) (BL.cls wr) ?_ ?_
   ·
    refine Or.inl ⟨rfl, fun w hSw => ?_⟩
    have e0 : w.cell? ⟨bb, offb + k * 3, none⟩ = some (.int .i64 c.no) := BL.cell hSw (HCB.out 0 _ rfl)
    exact EffR.same (by go_simp)
   try simp only [Act.put, zA, zB, zC]
   refine otks (i := 10) (oi := { dst := some 27, op := Op.binOp BinOp.neq 3 (Operand.tmp 21) (Operand.tmp 26) 3, type := 4, pos := "keep.go:114", after := #[{ on := 4, ground := Ground.data }, { on := 9, ground := Ground.data }], guard := none }) (v := (.bool false)) rfl (by kernel_rfl) (BL.cls wr) rfl (fun w hSw => by go_simp) ?_
   try simp only [Act.put, zA, zB, zC]
   refine otks (i := 11) (oi := { dst := some 28, op := Op.move (Operand.tmp 27), type := 4, pos := "keep.go:114", after := #[{ on := 10, ground := Ground.data }], guard := none }) (v := (.bool false)) rfl (by kernel_rfl) (BL.cls wr) rfl (fun w hSw => by go_simp) ?_
   try simp only [Act.put, zA, zB, zC]
   refine otks (i := 12) (oi := { dst := some 29, op := Op.move (Operand.tmp 0), type := 22, pos := "keep.go:114", after := #[{ on := 11, ground := Ground.guard }], guard := some (11, false) }) (v := (.slice (some ⟨ba, offa, none⟩) n capa)) rfl (by kernel_rfl) (BL.cls wr) rfl (fun w hSw => by go_simp) ?_
   try simp only [Act.put, zA, zB, zC]
   refine otks (i := 13) (oi := { dst := some 30, op := Op.move (Operand.tmp 5), type := 3, pos := "keep.go:114", after := #[{ on := 11, ground := Ground.guard }], guard := some (11, false) }) (v := (.int .i64 (k : Int))) rfl (by kernel_rfl) (BL.cls wr) rfl (fun w hSw => by go_simp) ?_
   try simp only [Act.put, zA, zB, zC]
   refine otks (i := 14) (oi := { dst := some 31, op := Op.indexAddr 22 (Operand.tmp 29) (Operand.tmp 30), type := 0, pos := "keep.go:114", after := #[{ on := 12, ground := Ground.data }, { on := 13, ground := Ground.data }, { on := 11, ground := Ground.guard }], guard := some (11, false) }) (v := (.pointer (some ⟨ba, offa + k * 3, none⟩))) rfl (by kernel_rfl) (BL.cls wr) rfl (fun w hSw => by go_simp) ?_
   try simp only [Act.put, zA, zB, zC]
   refine otks (i := 15) (oi := { dst := some 32, op := Op.fieldAddr 33 (Operand.tmp 31) 1, type := 0, pos := "keep.go:114", after := #[{ on := 14, ground := Ground.data }, { on := 11, ground := Ground.guard }], guard := some (11, false) }) (v := (.pointer (some ⟨ba, offa + k * 3 + 1, none⟩))) rfl (by kernel_rfl) (BL.cls wr) rfl (fun w hSw => by go_simp) ?_
   try simp only [Act.put, zA, zB, zC]
   refine otk (i := 16) (oi := { dst := some 33, op := Op.load 3 (Operand.tmp 32), type := 3, pos := "keep.go:114", after := #[{ on := 15, ground := Ground.data }, { on := 11, ground := Ground.guard }], guard := some (11, false) }) (v := (.int .i64 c.state)) rfl (by kernel_rfl) (BL.cls wr) ?_ ?_
   ·
    refine Or.inl ⟨rfl, fun w hSw => ?_⟩
    have e0 : w.cell? ⟨ba, offa + k * 3 + 1, none⟩ = some (.int .i64 c.state) := BL.cell hSw (HCA.out 1 _ rfl)
    exact EffR.same (by go_simp)
   try simp only [Act.put, zA, zB, zC]
   refine otks (i := 17) (oi := { dst := some 34, op := Op.move (Operand.tmp 1), type := 22, pos := "keep.go:114", after := #[{ on := 11, ground := Ground.guard }], guard := some (11, false) }) (v := (.slice (some ⟨bb, offb, none⟩) n capb)) rfl (by kernel_rfl) (BL.cls wr) rfl (fun w hSw => by go_simp) ?_
   try simp only [Act.put, zA, zB, zC]
   refine otks (i := 18) (oi := { dst := some 35, op := Op.move (Operand.tmp 5), type := 3, pos := "keep.go:114", after := #[{ on := 11, ground := Ground.guard }], guard := some (11, false) }) (v := (.int .i64 (k : Int))) rfl (by kernel_rfl) (BL.cls wr) rfl (fun w hSw => by go_simp) ?_
   try simp only [Act.put, zA, zB, zC]
   refine otks (i := 19) (oi := { dst := some 36, op := Op.indexAddr 22 (Operand.tmp 34) (Operand.tmp 35), type := 0, pos := "keep.go:114", after := #[{ on := 17, ground := Ground.data }, { on := 18, ground := Ground.data }, { on := 11, ground := Ground.guard }], guard := some (11, false) }) (v := (.pointer (some ⟨bb, offb + k * 3, none⟩))) rfl (by kernel_rfl) (BL.cls wr) rfl (fun w hSw => by go_simp) ?_
   try simp only [Act.put, zA, zB, zC]
   refine otks (i := 20) (oi := { dst := some 37, op := Op.fieldAddr 33 (Operand.tmp 36) 1, type := 0, pos := "keep.go:114", after := #[{ on := 19, ground := Ground.data }, { on := 11, ground := Ground.guard }], guard := some (11, false) }) (v := (.pointer (some ⟨bb, offb + k * 3 + 1, none⟩))) rfl (by kernel_rfl) (BL.cls wr) rfl (fun w hSw => by go_simp) ?_
   try simp only [Act.put, zA, zB, zC]
   refine otk (i := 21) (oi := { dst := some 38, op := Op.load 3 (Operand.tmp 37), type := 3, pos := "keep.go:114", after := #[{ on := 20, ground := Ground.data }, { on := 11, ground := Ground.guard }], guard := some (11, false) }) (v := (.int .i64 c.state)) rfl (by kernel_rfl) (BL.cls wr) ?_ ?_
   ·
    refine Or.inl ⟨rfl, fun w hSw => ?_⟩
    have e0 : w.cell? ⟨bb, offb + k * 3 + 1, none⟩ = some (.int .i64 c.state) := BL.cell hSw (HCB.out 1 _ rfl)
    exact EffR.same (by go_simp)
   try simp only [Act.put, zA, zB, zC]
   refine otks (i := 22) (oi := { dst := some 39, op := Op.binOp BinOp.neq 3 (Operand.tmp 33) (Operand.tmp 38) 3, type := 4, pos := "keep.go:114", after := #[{ on := 16, ground := Ground.data }, { on := 21, ground := Ground.data }, { on := 11, ground := Ground.guard }], guard := some (11, false) }) (v := (.bool false)) rfl (by kernel_rfl) (BL.cls wr) rfl (fun w hSw => by go_simp) ?_
   try simp only [Act.put, zA, zB, zC]
   refine otks (i := 23) (oi := { dst := some 40, op := Op.pick (Operand.tmp 28) (Operand.const (Value.bool true)) (Operand.tmp 39), type := 4, pos := "keep.go:114", after := #[{ on := 11, ground := Ground.data }, { on := 22, ground := Ground.data }], guard := none }) (v := (.bool false)) rfl (by kernel_rfl) (BL.cls wr) rfl (fun w hSw => by go_simp) ?_
   try simp only [Act.put, zA, zB, zC]
   refine otks (i := 24) (oi := { dst := some 41, op := Op.move (Operand.tmp 40), type := 4, pos := "keep.go:114", after := #[{ on := 23, ground := Ground.data }, { on := 11, ground := Ground.chain }], guard := none }) (v := (.bool false)) rfl (by kernel_rfl) (BL.cls wr) rfl (fun w hSw => by go_simp) ?_
   try simp only [Act.put, zA, zB, zC]
   refine otks (i := 25) (oi := { dst := some 42, op := Op.move (Operand.tmp 0), type := 22, pos := "keep.go:114", after := #[{ on := 24, ground := Ground.guard }], guard := some (24, false) }) (v := (.slice (some ⟨ba, offa, none⟩) n capa)) rfl (by kernel_rfl) (BL.cls wr) rfl (fun w hSw => by go_simp) ?_
   try simp only [Act.put, zA, zB, zC]
   refine otks (i := 26) (oi := { dst := some 43, op := Op.move (Operand.tmp 5), type := 3, pos := "keep.go:114", after := #[{ on := 24, ground := Ground.guard }], guard := some (24, false) }) (v := (.int .i64 (k : Int))) rfl (by kernel_rfl) (BL.cls wr) rfl (fun w hSw => by go_simp) ?_
   try simp only [Act.put, zA, zB, zC]
   refine otks (i := 27) (oi := { dst := some 44, op := Op.indexAddr 22 (Operand.tmp 42) (Operand.tmp 43), type := 0, pos := "keep.go:114", after := #[{ on := 25, ground := Ground.data }, { on := 26, ground := Ground.data }, { on := 24, ground := Ground.guard }], guard := some (24, false) }) (v := (.pointer (some ⟨ba, offa + k * 3, none⟩))) rfl (by kernel_rfl) (BL.cls wr) rfl (fun w hSw => by go_simp) ?_
   try simp only [Act.put, zA, zB, zC]
   refine otks (i := 28) (oi := { dst := some 45, op := Op.fieldAddr 33 (Operand.tmp 44) 2, type := 0, pos := "keep.go:114", after := #[{ on := 27, ground := Ground.data }, { on := 24, ground := Ground.guard }], guard := some (24, false) }) (v := (.pointer (some ⟨ba, offa + k * 3 + 2, none⟩))) rfl (by kernel_rfl) (BL.cls wr) rfl (fun w hSw => by go_simp) ?_
   try simp only [Act.put, zA, zB, zC]
   refine otk (i := 29) (oi := { dst := some 46, op := Op.load 3 (Operand.tmp 45), type := 3, pos := "keep.go:114", after := #[{ on := 28, ground := Ground.data }, { on := 24, ground := Ground.guard }], guard := some (24, false) }) (v := (.int .i64 c.need)) rfl (by kernel_rfl) (BL.cls wr) ?_ ?_
   ·
    refine Or.inl ⟨rfl, fun w hSw => ?_⟩
    have e0 : w.cell? ⟨ba, offa + k * 3 + 2, none⟩ = some (.int .i64 c.need) := BL.cell hSw (HCA.out 2 _ rfl)
    exact EffR.same (by go_simp)
   try simp only [Act.put, zA, zB, zC]
   refine otks (i := 30) (oi := { dst := some 47, op := Op.move (Operand.tmp 1), type := 22, pos := "keep.go:114", after := #[{ on := 24, ground := Ground.guard }], guard := some (24, false) }) (v := (.slice (some ⟨bb, offb, none⟩) n capb)) rfl (by kernel_rfl) (BL.cls wr) rfl (fun w hSw => by go_simp) ?_
   try simp only [Act.put, zA, zB, zC]
   refine otks (i := 31) (oi := { dst := some 48, op := Op.move (Operand.tmp 5), type := 3, pos := "keep.go:114", after := #[{ on := 24, ground := Ground.guard }], guard := some (24, false) }) (v := (.int .i64 (k : Int))) rfl (by kernel_rfl) (BL.cls wr) rfl (fun w hSw => by go_simp) ?_
   try simp only [Act.put, zA, zB, zC]
   refine otks (i := 32) (oi := { dst := some 49, op := Op.indexAddr 22 (Operand.tmp 47) (Operand.tmp 48), type := 0, pos := "keep.go:114", after := #[{ on := 30, ground := Ground.data }, { on := 31, ground := Ground.data }, { on := 24, ground := Ground.guard }], guard := some (24, false) }) (v := (.pointer (some ⟨bb, offb + k * 3, none⟩))) rfl (by kernel_rfl) (BL.cls wr) rfl (fun w hSw => by go_simp) ?_
   try simp only [Act.put, zA, zB, zC]
   refine otks (i := 33) (oi := { dst := some 50, op := Op.fieldAddr 33 (Operand.tmp 49) 2, type := 0, pos := "keep.go:114", after := #[{ on := 32, ground := Ground.data }, { on := 24, ground := Ground.guard }], guard := some (24, false) }) (v := (.pointer (some ⟨bb, offb + k * 3 + 2, none⟩))) rfl (by kernel_rfl) (BL.cls wr) rfl (fun w hSw => by go_simp) ?_
   try simp only [Act.put, zA, zB, zC]
   refine otk (i := 34) (oi := { dst := some 51, op := Op.load 3 (Operand.tmp 50), type := 3, pos := "keep.go:114", after := #[{ on := 33, ground := Ground.data }, { on := 24, ground := Ground.guard }], guard := some (24, false) }) (v := (.int .i64 c.need)) rfl (by kernel_rfl) (BL.cls wr) ?_ ?_
   ·
    refine Or.inl ⟨rfl, fun w hSw => ?_⟩
    have e0 : w.cell? ⟨bb, offb + k * 3 + 2, none⟩ = some (.int .i64 c.need) := BL.cell hSw (HCB.out 2 _ rfl)
    exact EffR.same (by go_simp)
   try simp only [Act.put, zA, zB, zC]
   refine otks (i := 35) (oi := { dst := some 52, op := Op.binOp BinOp.neq 3 (Operand.tmp 46) (Operand.tmp 51) 3, type := 4, pos := "keep.go:114", after := #[{ on := 29, ground := Ground.data }, { on := 34, ground := Ground.data }, { on := 24, ground := Ground.guard }], guard := some (24, false) }) (v := (.bool false)) rfl (by kernel_rfl) (BL.cls wr) rfl (fun w hSw => by go_simp) ?_
   try simp only [Act.put, zA, zB, zC]
   refine otks (i := 36) (oi := { dst := some 53, op := Op.pick (Operand.tmp 41) (Operand.const (Value.bool true)) (Operand.tmp 52), type := 4, pos := "keep.go:114", after := #[{ on := 24, ground := Ground.data }, { on := 35, ground := Ground.data }], guard := none }) (v := (.bool false)) rfl (by kernel_rfl) (BL.cls wr) rfl (fun w hSw => by go_simp) ?_
   try simp only [Act.put, zA, zB, zC]
   refine wpAnyU_done (by kernel_rfl) (fun w1 hb1 => ?_) _
   go_wp2_with fail
   exact ⟨⟨k + 1, by omega, by push_cast; rfl, bgoS HBL.out hb1⟩, by simp [intOf]; omega⟩
  ·
   obtain rfl : k = n := by omega
   go_wp2_with fail
   go_ret
   exact ⟨rfl, HBL.out⟩
set_option maxRecDepth 100000 in
set_option maxHeartbeats 3200000 in
theorem KAssets_same (w : World) (va vb : Value) (L : List AsT) (ha : Rs AsT.vs 4 w va L) (hb : Rs AsT.vs 4 w vb L) :
  Calls Try.prog 43 #[va, vb] w fun e w' => e = .returned (.bool true) ∧ Below w.heap.size w w' := by
 obtain ⟨aa, capa, rfl, hcapa, hma⟩ := ha.shape
 obtain ⟨ab, capb, rfl, hcapb, hmb⟩ := hb.shape
 obtain ⟨n, hn⟩ : ∃ n, n = L.length := ⟨_, rfl⟩
 rw [← hn] at ha hb hcapa hcapb ⊢
 have HA := Lib.hid ha
 have HB := Lib.hid hb
 have HN := Lib.hid hn
 clear ha hb hn
 go_enter Try.func43, Try.ntmps43
 go_wp2_with fail
 go_loopw [5] (fun i wr => ∃ k : Nat, k ≤ n ∧ i = .int .i64 k ∧ Below w.heap.size w wr) (fun i _ => n - (intOf i).toNat)
 case atStart => exact ⟨0, Nat.zero_le _, rfl, Below.refl _ _⟩
 case round =>
  obtain ⟨k, hk, rfl, hbel⟩ := hrel
  have HBL := Lib.hid hbel
  by_cases hlt : k < n
  ·
   have hkL : k < L.length := by rw [← HN.out]; exact hlt
   obtain ⟨ba, offa, rfl, _, hca⟩ := (HA.out.rew HN.out hbel).at (by omega) (by decide)
   obtain ⟨bb, offb, rfl, _, hcb⟩ := (HB.out.rew HN.out hbel).at (by omega) (by decide)
   obtain ⟨c, hc⟩ : ∃ c, c = L[k] := ⟨_, rfl⟩
   have HCA : Hid (∀ j v, [.int .i64 c.no, .int .i64 c.cur, .int .i64 c.price, .int .i64 c.cut][j]? = some v → wr.cell? ⟨ba, offa + k * 4 + j, none⟩ = some v) := fun j v h => hca k hkL j v (by rw [← hc]; exact h)
   have HCB : Hid (∀ j v, [.int .i64 c.no, .int .i64 c.cur, .int .i64 c.price, .int .i64 c.cut][j]? = some v → wr.cell? ⟨bb, offb + k * 4 + j, none⟩ = some v) := fun j v h => hcb k hkL j v (by rw [← hc]; exact h)
   have hk0 : (0 : Int) ≤ k := by omega
   have hk1 : (k : Int) < n := by omega
   clear hca hcb hbel hc
   go_wp2_with fail
   refine wp_region_bl 10 (by kernel_rfl) ?_
   refine otks (i := 0) (oi := { dst := some 17, op := Op.move (Operand.tmp 0), type := 24, pos := "keep.go:151", after := #[], guard := none }) (v := (.slice (some ⟨ba, offa, none⟩) n capa)) rfl (by kernel_rfl) (BL.cls wr) rfl (fun w hSw => by go_simp) ?_
   try simp only [Act.put, zA, zB, zC]
   refine otks (i := 1) (oi := { dst := some 18, op := Op.move (Operand.tmp 5), type := 3, pos := "keep.go:151", after := #[], guard := none }) (v := (.int .i64 (k : Int))) rfl (by kernel_rfl) (BL.cls wr) rfl (fun w hSw => by go_simp) ?_
   try simp only [Act.put, zA, zB, zC]
   refine otks (i := 2) (oi := { dst := some 19, op := Op.indexAddr 24 (Operand.tmp 17) (Operand.tmp 18), type := 0, pos := "keep.go:151", after := #[{ on := 0, ground := Ground.data }, { on := 1, ground := Ground.data }], guard := none }) (v := (.pointer (some ⟨ba, offa + k * 4, none⟩))) rfl (by kernel_rfl) (BL.cls wr) rfl (fun w hSw => by go_simp) ?_
   try simp only [Act.put, zA, zB, zC]
   refine otk (i := 3) (oi := { dst := some 20, op := Op.load 42 (Operand.tmp 19), type := 42, pos := "keep.go:151", after := #[{ on := 2, ground := Ground.data }], guard := none }) (v := (.agg #[.int .i64 c.no, .int .i64 c.cur, .int .i64 c.price, .int .i64 c.cut])) rfl (by kernel_rfl) (BL.cls wr) ?_ ?_
   ·
    refine Or.inl ⟨rfl, fun w hSw => ?_⟩
    exact eff_load_mid 42 (.tmp 19) rfl ba (offa + k * 4) rfl [.int .i64 c.no, .int .i64 c.cur, .int .i64 c.price, .int .i64 c.cut] _ (fun j v h => BL.cell hSw (by have h7 := HCA.out (0 + j) v (by rcases j with _ | _ | _ | _ | j; all_goals first | exact h | (simp at h)); simpa [Nat.add_assoc] using h7)) Try.underlying42 rfl (by rw [show ((Try.prog.info? 42).map (·.size)) = some 4 from by kernel_rfl]; rfl)
   try simp only [Act.put, zA, zB, zC]
   refine otks (i := 4) (oi := { dst := some 21, op := Op.move (Operand.tmp 1), type := 24, pos := "keep.go:151", after := #[], guard := none }) (v := (.slice (some ⟨bb, offb, none⟩) n capb)) rfl (by kernel_rfl) (BL.cls wr) rfl (fun w hSw => by go_simp) ?_
   try simp only [Act.put, zA, zB, zC]
   refine otks (i := 5) (oi := { dst := some 22, op := Op.move (Operand.tmp 5), type := 3, pos := "keep.go:151", after := #[], guard := none }) (v := (.int .i64 (k : Int))) rfl (by kernel_rfl) (BL.cls wr) rfl (fun w hSw => by go_simp) ?_
   try simp only [Act.put, zA, zB, zC]
   refine otks (i := 6) (oi := { dst := some 23, op := Op.indexAddr 24 (Operand.tmp 21) (Operand.tmp 22), type := 0, pos := "keep.go:151", after := #[{ on := 4, ground := Ground.data }, { on := 5, ground := Ground.data }], guard := none }) (v := (.pointer (some ⟨bb, offb + k * 4, none⟩))) rfl (by kernel_rfl) (BL.cls wr) rfl (fun w hSw => by go_simp) ?_
   try simp only [Act.put, zA, zB, zC]
   refine otk (i := 7) (oi := { dst := some 24, op := Op.load 42 (Operand.tmp 23), type := 42, pos := "keep.go:151", after := #[{ on := 6, ground := Ground.data }], guard := none }) (v := (.agg #[.int .i64 c.no, .int .i64 c.cur, .int .i64 c.price, .int .i64 c.cut])) rfl (by kernel_rfl) (BL.cls wr) ?_ ?_
   ·
    refine Or.inl ⟨rfl, fun w hSw => ?_⟩
    exact eff_load_mid 42 (.tmp 23) rfl bb (offb + k * 4) rfl [.int .i64 c.no, .int .i64 c.cur, .int .i64 c.price, .int .i64 c.cut] _ (fun j v h => BL.cell hSw (by have h7 := HCB.out (0 + j) v (by rcases j with _ | _ | _ | _ | j; all_goals first | exact h | (simp at h)); simpa [Nat.add_assoc] using h7)) Try.underlying42 rfl (by rw [show ((Try.prog.info? 42).map (·.size)) = some 4 from by kernel_rfl]; rfl)
   try simp only [Act.put, zA, zB, zC]
   refine otk (i := 8) (oi := { dst := some 25, op := Op.call { callee := Callee.value (Operand.func 21), args := #[Operand.tmp 20, Operand.tmp 24], argTypes := #[42, 42] }, type := 4, pos := "keep.go:151", after := #[{ on := 3, ground := Ground.data }, { on := 7, ground := Ground.data }], guard := none }) (v := (.bool true)) rfl (by kernel_rfl) (BL.cls wr) ?_ ?_
   ·
    refine Or.inl ⟨rfl, fun w hSw => ?_⟩
    go_simp
    show Calls _ _ _ _ _
    refine (KAsset_same _ _ _ _ _).mono ?_
    rintro e w1 ⟨rfl, hb⟩
    exact ⟨rfl, hb⟩
   try simp only [Act.put, zA, zB, zC]
   refine otks (i := 9) (oi := { dst := some 26, op := Op.unOp UnOp.not 4 (Operand.tmp 25), type := 4, pos := "keep.go:151", after := #[{ on := 8, ground := Ground.data }], guard := none }) (v := (.bool false)) rfl (by kernel_rfl) (BL.cls wr) rfl (fun w hSw => by go_simp) ?_
   try simp only [Act.put, zA, zB, zC]
   refine wpAnyU_done (by kernel_rfl) (fun w1 hb1 => ?_) _
   go_wp2_with fail
   exact ⟨⟨k + 1, by omega, by push_cast; rfl, bgoS HBL.out hb1⟩, by simp [intOf]; omega⟩
  ·
   obtain rfl : k = n := by omega
   go_wp2_with fail
   go_ret
   exact ⟨rfl, HBL.out⟩
set_option maxRecDepth 100000 in
set_option maxHeartbeats 3200000 in
theorem KInst_any (w : World) (x0 x1 x2 x3 x4 x5 x6 x7 x8 x9 x10 x11 y0 y1 y2 y3 y4 y5 y6 y7 y8 y9 y10 y11 : Int) :
  Calls Try.prog 20 #[.agg #[.int .i64 x0, .int .i64 x1, .int .i64 x2, .int .i64 x3, .int .i64 x4, .int .i64 x5, .int .i64 x6, .int .i64 x7, .int .i64 x8, .int .i64 x9, .int .i64 x10, .int .i64 x11], .agg #[.int .i64 y0, .int .i64 y1, .int .i64 y2, .int .i64 y3, .int .i64 y4, .int .i64 y5, .int .i64 y6, .int .i64 y7, .int .i64 y8, .int .i64 y9, .int .i64 y10, .int .i64 y11]] w fun e w' => e = .returned (.bool (decide ([x0, x1, x2, x3, x4, x5, x6, x7, x8, x9, x10, x11] = [y0, y1, y2, y3, y4, y5, y6, y7, y8, y9, y10, y11]))) ∧ Below w.heap.size w w' := by
 have hb1 : Below w.heap.size w (w.alloc (.cells #[.int .i64 x0, .int .i64 x1, .int .i64 x2, .int .i64 x3, .int .i64 x4, .int .i64 x5, .int .i64 x6, .int .i64 x7, .int .i64 x8, .int .i64 x9, .int .i64 x10, .int .i64 x11] 38)) := (Below.refl _ _).alloc (Nat.le_refl _) _
 have hb2 : Below w.heap.size w ((w.alloc (.cells #[.int .i64 x0, .int .i64 x1, .int .i64 x2, .int .i64 x3, .int .i64 x4, .int .i64 x5, .int .i64 x6, .int .i64 x7, .int .i64 x8, .int .i64 x9, .int .i64 x10, .int .i64 x11] 38)).alloc (.cells #[.int .i64 y0, .int .i64 y1, .int .i64 y2, .int .i64 y3, .int .i64 y4, .int .i64 y5, .int .i64 y6, .int .i64 y7, .int .i64 y8, .int .i64 y9, .int .i64 y10, .int .i64 y11] 38)) := hb1.alloc hb1.size _
 have hc1 : HT ((w.alloc (.cells #[.int .i64 x0, .int .i64 x1, .int .i64 x2, .int .i64 x3, .int .i64 x4, .int .i64 x5, .int .i64 x6, .int .i64 x7, .int .i64 x8, .int .i64 x9, .int .i64 x10, .int .i64 x11] 38)).alloc (.cells #[.int .i64 y0, .int .i64 y1, .int .i64 y2, .int .i64 y3, .int .i64 y4, .int .i64 y5, .int .i64 y6, .int .i64 y7, .int .i64 y8, .int .i64 y9, .int .i64 y10, .int .i64 y11] 38)) w.heap.size 38 (ivs [x0, x1, x2, x3, x4, x5, x6, x7, x8, x9, x10, x11]) := (HT.new (w := w) (t := 38) (C := ivs [x0, x1, x2, x3, x4, x5, x6, x7, x8, x9, x10, x11])).below ((Below.refl _ _).alloc (Nat.le_refl _) _)
 have hc2 : HT ((w.alloc (.cells #[.int .i64 x0, .int .i64 x1, .int .i64 x2, .int .i64 x3, .int .i64 x4, .int .i64 x5, .int .i64 x6, .int .i64 x7, .int .i64 x8, .int .i64 x9, .int .i64 x10, .int .i64 x11] 38)).alloc (.cells #[.int .i64 y0, .int .i64 y1, .int .i64 y2, .int .i64 y3, .int .i64 y4, .int .i64 y5, .int .i64 y6, .int .i64 y7, .int .i64 y8, .int .i64 y9, .int .i64 y10, .int .i64 y11] 38)) (w.heap.size + 1) 38 (ivs [y0, y1, y2, y3, y4, y5, y6, y7, y8, y9, y10, y11]) := by
  have := HT.new (w := w.alloc (.cells #[.int .i64 x0, .int .i64 x1, .int .i64 x2, .int .i64 x3, .int .i64 x4, .int .i64 x5, .int .i64 x6, .int .i64 x7, .int .i64 x8, .int .i64 x9, .int .i64 x10, .int .i64 x11] 38)) (t := 38) (C := ivs [y0, y1, y2, y3, y4, y5, y6, y7, y8, y9, y10, y11])
  rw [show (w.alloc (.cells #[.int .i64 x0, .int .i64 x1, .int .i64 x2, .int .i64 x3, .int .i64 x4, .int .i64 x5, .int .i64 x6, .int .i64 x7, .int .i64 x8, .int .i64 x9, .int .i64 x10, .int .i64 x11] 38)).heap.size = w.heap.size + 1 by simp] at this
  exact this
 have HB2 := Lib.hid hb2
 have HC1 := Lib.hid hc1
 have HC2 := Lib.hid hc2
 clear hb1 hb2 hc1 hc2
 obtain ⟨d, hd⟩ : ∃ d : Bool, d = decide ([x0, x1, x2, x3, x4, x5, x6, x7, x8, x9, x10, x11] = [y0, y1, y2, y3, y4, y5, y6, y7, y8, y9, y10, y11]) := ⟨_, rfl⟩
 rw [← hd]
 have HD := Lib.hid hd
 clear hd
 go_enter Try.func20, Try.ntmps20
 go_wp2_with fail
 generalize hW : (w.alloc (.cells #[.int .i64 x0, .int .i64 x1, .int .i64 x2, .int .i64 x3, .int .i64 x4, .int .i64 x5, .int .i64 x6, .int .i64 x7, .int .i64 x8, .int .i64 x9, .int .i64 x10, .int .i64 x11] 38)).alloc (.cells #[.int .i64 y0, .int .i64 y1, .int .i64 y2, .int .i64 y3, .int .i64 y4, .int .i64 y5, .int .i64 y6, .int .i64 y7, .int .i64 y8, .int .i64 y9, .int .i64 y10, .int .i64 y11] 38) = W at *
 clear hW
 generalize hgx : w.heap.size = gx at *
 have HGX : Hid (w.heap.size = gx) := hgx
 clear hgx
 go_loopw [5] (fun v5 wr => ∃ k : Nat, k ≤ 6 ∧ v5 = .int .i64 k ∧ HT wr gx 38 (ivs [x0, x1, x2, x3, x4, x5, x6, x7, x8, x9, x10, x11]) ∧ HT wr (gx + 1) 38 (ivs [y0, y1, y2, y3, y4, y5, y6, y7, y8, y9, y10, y11]) ∧ (∀ j, j < k → (ivs [x0, x1, x2, x3, x4, x5, x6, x7, x8, x9, x10, x11])[6 + j]? = (ivs [y0, y1, y2, y3, y4, y5, y6, y7, y8, y9, y10, y11])[6 + j]?) ∧ Below gx w wr) (fun i _ => 6 - (intOf i).toNat)
 case atStart => exact ⟨0, by omega, rfl, HC1.out, HC2.out, fun j hj => by omega, HB2.out⟩
 case round =>
  obtain ⟨k, hk, rfl, hx, hy, heq, hbel⟩ := hrel
  have HX := Lib.hid hx
  have HY := Lib.hid hy
  have HEQ := Lib.hid heq
  have HBEL := Lib.hid hbel
  clear hx hy heq hbel
  by_cases hlt : k < 6
  ·
   obtain ⟨a, ha⟩ : ∃ a, (ivs [x0, x1, x2, x3, x4, x5, x6, x7, x8, x9, x10, x11])[6 + k]? = some (.int .i64 a) := ⟨_, ivs_at (by show 6 + k < 12; omega)⟩
   obtain ⟨b, hb⟩ : ∃ b, (ivs [y0, y1, y2, y3, y4, y5, y6, y7, y8, y9, y10, y11])[6 + k]? = some (.int .i64 b) := ⟨_, ivs_at (by show 6 + k < 12; omega)⟩
   have hcx := HX.out.cell ha
   have hcy := HY.out.cell hb
   have HA := Lib.hid ha
   have HB := Lib.hid hb
   clear ha hb
   go_wp2_with fail
   go_quiet (fail)
   have HQ := Lib.hid (below_drewN' HBEL.out nq)
   have HX2 := Lib.hid (HX.out.below (below_drewN' (Below.refl _ _) nq))
   have HY2 := Lib.hid (HY.out.below (below_drewN' (Below.refl _ _) nq))
   by_cases hne : a = b
   ·
    have hne' : (a != b) = false := by rw [hne]; simp
    have HNE := Lib.hid hne
    clear hne
    go_wp2_with fail
    go_roundw
    case rel => exact ⟨k + 1, by omega, by go_num, HX2.out, HY2.out, fun j hj => by
     by_cases h : j < k
     ·
      exact HEQ.out j h
     ·
      obtain rfl : j = k := by omega
      rw [HA.out, HB.out, HNE.out], HQ.out⟩
    case measure => simp [intOf]; omega
   ·
    have hne' : (a != b) = true := by rw [bne_iff_ne]; exact hne
    have hll : [x0, x1, x2, x3, x4, x5, x6, x7, x8, x9, x10, x11] ≠ [y0, y1, y2, y3, y4, y5, y6, y7, y8, y9, y10, y11] := fun h => hne (by have h1 := HA.out; rw [h, HB.out] at h1; injection h1 with h1; injection h1 with _ h2; exact h2.symm)
    have HLL := Lib.hid hll
    clear hne hll
    go_wp2_with fail
    go_ret
    exact ⟨by rw [HD.out, decide_eq_false HLL.out]; rfl, by rw [HGX.out]; exact HQ.out⟩
  ·
   obtain rfl : k = 6 := by omega
   have HALL : Hid (x0 = y0 → x1 = y1 → x2 = y2 → x3 = y3 → x4 = y4 → decide ([x0, x1, x2, x3, x4, x5, x6, x7, x8, x9, x10, x11] = [y0, y1, y2, y3, y4, y5, y6, y7, y8, y9, y10, y11]) = (x5 == y5)) := by
    show x0 = y0 → x1 = y1 → x2 = y2 → x3 = y3 → x4 = y4 → _
    have h0 := HEQ.out 0 (by omega)
    have h1 := HEQ.out 1 (by omega)
    have h2 := HEQ.out 2 (by omega)
    have h3 := HEQ.out 3 (by omega)
    have h4 := HEQ.out 4 (by omega)
    have h5 := HEQ.out 5 (by omega)
    simp at h0 h1 h2 h3 h4 h5
    intros
    subst_vars
    rw [Bool.eq_iff_iff]
    simp
   have hx0 := HX.out.cell (j := 0) rfl
   have hy0 := HY.out.cell (j := 0) rfl
   have hx1 := HX.out.cell (j := 1) rfl
   have hy1 := HY.out.cell (j := 1) rfl
   have hx2 := HX.out.cell (j := 2) rfl
   have hy2 := HY.out.cell (j := 2) rfl
   have hx3 := HX.out.cell (j := 3) rfl
   have hy3 := HY.out.cell (j := 3) rfl
   have hx4 := HX.out.cell (j := 4) rfl
   have hy4 := HY.out.cell (j := 4) rfl
   have hx5 := HX.out.cell (j := 5) rfl
   have hy5 := HY.out.cell (j := 5) rfl
   go_wp2_with fail
   ·
    rename_i g0 g1 g2 g3 g4
    go_ret
    exact ⟨by rw [HD.out, HALL.out g0 g1 g2 g3 g4]; rfl, by rw [HGX.out]; exact HBEL.out⟩
   ·
    rename_i hn
    go_ret
    exact ⟨by rw [HD.out, decide_eq_false (show [x0, x1, x2, x3, x4, x5, x6, x7, x8, x9, x10, x11] ≠ [y0, y1, y2, y3, y4, y5, y6, y7, y8, y9, y10, y11] from fun h => hn (congrArg (fun L : List Int => L.getD 4 0) h))]; rfl, by rw [HGX.out]; exact HBEL.out⟩
   ·
    rename_i hn
    go_ret
    exact ⟨by rw [HD.out, decide_eq_false (show [x0, x1, x2, x3, x4, x5, x6, x7, x8, x9, x10, x11] ≠ [y0, y1, y2, y3, y4, y5, y6, y7, y8, y9, y10, y11] from fun h => hn (congrArg (fun L : List Int => L.getD 3 0) h))]; rfl, by rw [HGX.out]; exact HBEL.out⟩
   ·
    rename_i hn
    go_ret
    exact ⟨by rw [HD.out, decide_eq_false (show [x0, x1, x2, x3, x4, x5, x6, x7, x8, x9, x10, x11] ≠ [y0, y1, y2, y3, y4, y5, y6, y7, y8, y9, y10, y11] from fun h => hn (congrArg (fun L : List Int => L.getD 2 0) h))]; rfl, by rw [HGX.out]; exact HBEL.out⟩
   ·
    rename_i hn
    go_ret
    exact ⟨by rw [HD.out, decide_eq_false (show [x0, x1, x2, x3, x4, x5, x6, x7, x8, x9, x10, x11] ≠ [y0, y1, y2, y3, y4, y5, y6, y7, y8, y9, y10, y11] from fun h => hn (congrArg (fun L : List Int => L.getD 1 0) h))]; rfl, by rw [HGX.out]; exact HBEL.out⟩
   ·
    rename_i hn
    go_ret
    exact ⟨by rw [HD.out, decide_eq_false (show [x0, x1, x2, x3, x4, x5, x6, x7, x8, x9, x10, x11] ≠ [y0, y1, y2, y3, y4, y5, y6, y7, y8, y9, y10, y11] from fun h => hn (congrArg (fun L : List Int => L.getD 0 0) h))]; rfl, by rw [HGX.out]; exact HBEL.out⟩
theorem KInst_same (w : World) (x0 x1 x2 x3 x4 x5 x6 x7 x8 x9 x10 x11 : Int) : Calls Try.prog 20 #[.agg #[.int .i64 x0, .int .i64 x1, .int .i64 x2, .int .i64 x3, .int .i64 x4, .int .i64 x5, .int .i64 x6, .int .i64 x7, .int .i64 x8, .int .i64 x9, .int .i64 x10, .int .i64 x11], .agg #[.int .i64 x0, .int .i64 x1, .int .i64 x2, .int .i64 x3, .int .i64 x4, .int .i64 x5, .int .i64 x6, .int .i64 x7, .int .i64 x8, .int .i64 x9, .int .i64 x10, .int .i64 x11]] w fun e w' => e = .returned (.bool true) ∧ Below w.heap.size w w' :=
 (KInst_any w x0 x1 x2 x3 x4 x5 x6 x7 x8 x9 x10 x11 x0 x1 x2 x3 x4 x5 x6 x7 x8 x9 x10 x11).mono fun e w' h => ⟨by rw [h.1, decide_eq_true rfl], h.2⟩
set_option maxRecDepth 100000 in
set_option maxHeartbeats 3200000 in
theorem KInsts_same (w : World) (va vb : Value) (L : List InT) (ha : Rs InT.vs 12 w va L) (hb : Rs InT.vs 12 w vb L) :
  Calls Try.prog 42 #[va, vb] w fun e w' => e = .returned (.bool true) ∧ Below w.heap.size w w' := by
 obtain ⟨aa, capa, rfl, hcapa, hma⟩ := ha.shape
 obtain ⟨ab, capb, rfl, hcapb, hmb⟩ := hb.shape
 obtain ⟨n, hn⟩ : ∃ n, n = L.length := ⟨_, rfl⟩
 rw [← hn] at ha hb hcapa hcapb ⊢
 have HA := Lib.hid ha
 have HB := Lib.hid hb
 have HN := Lib.hid hn
 clear ha hb hn
 go_enter Try.func42, Try.ntmps42
 go_wp2_with fail
 go_loopw [5] (fun i wr => ∃ k : Nat, k ≤ n ∧ i = .int .i64 k ∧ Below w.heap.size w wr) (fun i _ => n - (intOf i).toNat)
 case atStart => exact ⟨0, Nat.zero_le _, rfl, Below.refl _ _⟩
 case round =>
  obtain ⟨k, hk, rfl, hbel⟩ := hrel
  have HBL := Lib.hid hbel
  by_cases hlt : k < n
  ·
   have hkL : k < L.length := by rw [← HN.out]; exact hlt
   obtain ⟨ba, offa, rfl, _, hca⟩ := (HA.out.rew HN.out hbel).at (by omega) (by decide)
   obtain ⟨bb, offb, rfl, _, hcb⟩ := (HB.out.rew HN.out hbel).at (by omega) (by decide)
   obtain ⟨c, hc⟩ : ∃ c, c = L[k] := ⟨_, rfl⟩
   have HCA : Hid (∀ j v, [.int .i64 c.no, .int .i64 c.cur, .int .i64 c.mult, .int .i64 c.add, .int .i64 c.set, .int .i64 c.price, .int .i64 c.h0, .int .i64 c.h1, .int .i64 c.h2, .int .i64 c.h3, .int .i64 c.h4, .int .i64 c.h5][j]? = some v → wr.cell? ⟨ba, offa + k * 12 + j, none⟩ = some v) := fun j v h => hca k hkL j v (by rw [← hc]; exact h)
   have HCB : Hid (∀ j v, [.int .i64 c.no, .int .i64 c.cur, .int .i64 c.mult, .int .i64 c.add, .int .i64 c.set, .int .i64 c.price, .int .i64 c.h0, .int .i64 c.h1, .int .i64 c.h2, .int .i64 c.h3, .int .i64 c.h4, .int .i64 c.h5][j]? = some v → wr.cell? ⟨bb, offb + k * 12 + j, none⟩ = some v) := fun j v h => hcb k hkL j v (by rw [← hc]; exact h)
   have hk0 : (0 : Int) ≤ k := by omega
   have hk1 : (k : Int) < n := by omega
   clear hca hcb hbel hc
   go_wp2_with fail
   refine wp_region_bl 10 (by kernel_rfl) ?_
   refine otks (i := 0) (oi := { dst := some 17, op := Op.move (Operand.tmp 0), type := 23, pos := "keep.go:135", after := #[], guard := none }) (v := (.slice (some ⟨ba, offa, none⟩) n capa)) rfl (by kernel_rfl) (BL.cls wr) rfl (fun w hSw => by go_simp) ?_
   try simp only [Act.put, zA, zB, zC]
   refine otks (i := 1) (oi := { dst := some 18, op := Op.move (Operand.tmp 5), type := 3, pos := "keep.go:135", after := #[], guard := none }) (v := (.int .i64 (k : Int))) rfl (by kernel_rfl) (BL.cls wr) rfl (fun w hSw => by go_simp) ?_
   try simp only [Act.put, zA, zB, zC]
   refine otks (i := 2) (oi := { dst := some 19, op := Op.indexAddr 23 (Operand.tmp 17) (Operand.tmp 18), type := 0, pos := "keep.go:135", after := #[{ on := 0, ground := Ground.data }, { on := 1, ground := Ground.data }], guard := none }) (v := (.pointer (some ⟨ba, offa + k * 12, none⟩))) rfl (by kernel_rfl) (BL.cls wr) rfl (fun w hSw => by go_simp) ?_
   try simp only [Act.put, zA, zB, zC]
   refine otk (i := 3) (oi := { dst := some 20, op := Op.load 38 (Operand.tmp 19), type := 38, pos := "keep.go:135", after := #[{ on := 2, ground := Ground.data }], guard := none }) (v := (.agg #[.int .i64 c.no, .int .i64 c.cur, .int .i64 c.mult, .int .i64 c.add, .int .i64 c.set, .int .i64 c.price, .int .i64 c.h0, .int .i64 c.h1, .int .i64 c.h2, .int .i64 c.h3, .int .i64 c.h4, .int .i64 c.h5])) rfl (by kernel_rfl) (BL.cls wr) ?_ ?_
   ·
    refine Or.inl ⟨rfl, fun w hSw => ?_⟩
    exact eff_load_mid 38 (.tmp 19) rfl ba (offa + k * 12) rfl [.int .i64 c.no, .int .i64 c.cur, .int .i64 c.mult, .int .i64 c.add, .int .i64 c.set, .int .i64 c.price, .int .i64 c.h0, .int .i64 c.h1, .int .i64 c.h2, .int .i64 c.h3, .int .i64 c.h4, .int .i64 c.h5] _ (fun j v h => BL.cell hSw (by have h7 := HCA.out (0 + j) v (by rcases j with _ | _ | _ | _ | _ | _ | _ | _ | _ | _ | _ | _ | j; all_goals first | exact h | (simp at h)); simpa [Nat.add_assoc] using h7)) Try.underlying38 rfl (by rw [show ((Try.prog.info? 38).map (·.size)) = some 12 from by kernel_rfl]; rfl)
   try simp only [Act.put, zA, zB, zC]
   refine otks (i := 4) (oi := { dst := some 21, op := Op.move (Operand.tmp 1), type := 23, pos := "keep.go:135", after := #[], guard := none }) (v := (.slice (some ⟨bb, offb, none⟩) n capb)) rfl (by kernel_rfl) (BL.cls wr) rfl (fun w hSw => by go_simp) ?_
   try simp only [Act.put, zA, zB, zC]
   refine otks (i := 5) (oi := { dst := some 22, op := Op.move (Operand.tmp 5), type := 3, pos := "keep.go:135", after := #[], guard := none }) (v := (.int .i64 (k : Int))) rfl (by kernel_rfl) (BL.cls wr) rfl (fun w hSw => by go_simp) ?_
   try simp only [Act.put, zA, zB, zC]
   refine otks (i := 6) (oi := { dst := some 23, op := Op.indexAddr 23 (Operand.tmp 21) (Operand.tmp 22), type := 0, pos := "keep.go:135", after := #[{ on := 4, ground := Ground.data }, { on := 5, ground := Ground.data }], guard := none }) (v := (.pointer (some ⟨bb, offb + k * 12, none⟩))) rfl (by kernel_rfl) (BL.cls wr) rfl (fun w hSw => by go_simp) ?_
   try simp only [Act.put, zA, zB, zC]
   refine otk (i := 7) (oi := { dst := some 24, op := Op.load 38 (Operand.tmp 23), type := 38, pos := "keep.go:135", after := #[{ on := 6, ground := Ground.data }], guard := none }) (v := (.agg #[.int .i64 c.no, .int .i64 c.cur, .int .i64 c.mult, .int .i64 c.add, .int .i64 c.set, .int .i64 c.price, .int .i64 c.h0, .int .i64 c.h1, .int .i64 c.h2, .int .i64 c.h3, .int .i64 c.h4, .int .i64 c.h5])) rfl (by kernel_rfl) (BL.cls wr) ?_ ?_
   ·
    refine Or.inl ⟨rfl, fun w hSw => ?_⟩
    exact eff_load_mid 38 (.tmp 23) rfl bb (offb + k * 12) rfl [.int .i64 c.no, .int .i64 c.cur, .int .i64 c.mult, .int .i64 c.add, .int .i64 c.set, .int .i64 c.price, .int .i64 c.h0, .int .i64 c.h1, .int .i64 c.h2, .int .i64 c.h3, .int .i64 c.h4, .int .i64 c.h5] _ (fun j v h => BL.cell hSw (by have h7 := HCB.out (0 + j) v (by rcases j with _ | _ | _ | _ | _ | _ | _ | _ | _ | _ | _ | _ | j; all_goals first | exact h | (simp at h)); simpa [Nat.add_assoc] using h7)) Try.underlying38 rfl (by rw [show ((Try.prog.info? 38).map (·.size)) = some 12 from by kernel_rfl]; rfl)
   try simp only [Act.put, zA, zB, zC]
   refine otk (i := 8) (oi := { dst := some 25, op := Op.call { callee := Callee.value (Operand.func 20), args := #[Operand.tmp 20, Operand.tmp 24], argTypes := #[38, 38] }, type := 4, pos := "keep.go:135", after := #[{ on := 3, ground := Ground.data }, { on := 7, ground := Ground.data }], guard := none }) (v := (.bool true)) rfl (by kernel_rfl) (BL.cls wr) ?_ ?_
   ·
    refine Or.inl ⟨rfl, fun w hSw => ?_⟩
    go_simp
    show Calls _ _ _ _ _
    refine (KInst_same _ _ _ _ _ _ _ _ _ _ _ _ _).mono ?_
    rintro e w1 ⟨rfl, hb⟩
    exact ⟨rfl, hb⟩
   try simp only [Act.put, zA, zB, zC]
   refine otks (i := 9) (oi := { dst := some 26, op := Op.unOp UnOp.not 4 (Operand.tmp 25), type := 4, pos := "keep.go:135", after := #[{ on := 8, ground := Ground.data }], guard := none }) (v := (.bool false)) rfl (by kernel_rfl) (BL.cls wr) rfl (fun w hSw => by go_simp) ?_
   try simp only [Act.put, zA, zB, zC]
   refine wpAnyU_done (by kernel_rfl) (fun w1 hb1 => ?_) _
   go_wp2_with fail
   exact ⟨⟨k + 1, by omega, by push_cast; rfl, bgoS HBL.out hb1⟩, by simp [intOf]; omega⟩
  ·
   obtain rfl : k = n := by omega
   go_wp2_with fail
   go_ret
   exact ⟨rfl, HBL.out⟩
set_option maxRecDepth 100000 in
set_option maxHeartbeats 3200000 in
theorem KRoll_same (w : World) (v0 v1 v2 u0 u1 u2 : Value) (L0 : List MbT) (L1 : List InT) (L2 : List AsT) (h0 : Rs MbT.vs 3 w v0 L0) (k0 : Rs MbT.vs 3 w u0 L0) (h1 : Rs InT.vs 12 w v1 L1) (k1 : Rs InT.vs 12 w u1 L1) (h2 : Rs AsT.vs 4 w v2 L2) (k2 : Rs AsT.vs 4 w u2 L2) :
  Calls Try.prog 23 #[.agg #[v0, v1, v2], .agg #[u0, u1, u2]] w fun e w' => e = .returned (.bool true) ∧ Below w.heap.size w w' := by
 obtain ⟨a0, c0, rfl, _, _⟩ := h0.shape
 obtain ⟨b0, d0, rfl, _, _⟩ := k0.shape
 have HA0 := Lib.hid h0
 have HK0 := Lib.hid k0
 clear h0 k0
 obtain ⟨a1, c1, rfl, _, _⟩ := h1.shape
 obtain ⟨b1, d1, rfl, _, _⟩ := k1.shape
 have HA1 := Lib.hid h1
 have HK1 := Lib.hid k1
 clear h1 k1
 obtain ⟨a2, c2, rfl, _, _⟩ := h2.shape
 obtain ⟨b2, d2, rfl, _, _⟩ := k2.shape
 have HA2 := Lib.hid h2
 have HK2 := Lib.hid k2
 clear h2 k2
 have hb2 := Below.alloc (Below.alloc (Below.refl w.heap.size w) (Nat.le_refl _) (.cells #[.slice a0 L0.length c0, .slice a1 L1.length c1, .slice a2 L2.length c2] 26)) (by simp) (.cells #[.slice b0 L0.length d0, .slice b1 L1.length d1, .slice b2 L2.length d2] 26)
 have hc1 : HT ((w.alloc (.cells #[.slice a0 L0.length c0, .slice a1 L1.length c1, .slice a2 L2.length c2] 26)).alloc (.cells #[.slice b0 L0.length d0, .slice b1 L1.length d1, .slice b2 L2.length d2] 26)) w.heap.size 26 [.slice a0 L0.length c0, .slice a1 L1.length c1, .slice a2 L2.length c2] := (HT.new (w := w)).below ((Below.refl _ _).alloc (Nat.le_refl _) _)
 have hc2 : HT ((w.alloc (.cells #[.slice a0 L0.length c0, .slice a1 L1.length c1, .slice a2 L2.length c2] 26)).alloc (.cells #[.slice b0 L0.length d0, .slice b1 L1.length d1, .slice b2 L2.length d2] 26)) (w.heap.size + 1) 26 [.slice b0 L0.length d0, .slice b1 L1.length d1, .slice b2 L2.length d2] := by
  have := HT.new (w := w.alloc (.cells #[.slice a0 L0.length c0, .slice a1 L1.length c1, .slice a2 L2.length c2] 26)) (t := 26) (C := [.slice b0 L0.length d0, .slice b1 L1.length d1, .slice b2 L2.length d2])
  rw [show (w.alloc (.cells #[.slice a0 L0.length c0, .slice a1 L1.length c1, .slice a2 L2.length c2] 26)).heap.size = w.heap.size + 1 by simp] at this
  exact this
 have HX0 := Lib.hid hc1
 have HY0 := Lib.hid hc2
 have HB0 := Lib.hid hb2
 clear hb2 hc1 hc2
 go_enter Try.func23, Try.ntmps23
 have rc := KMembers_same ((w.alloc (.cells #[.slice a0 L0.length c0, .slice a1 L1.length c1, .slice a2 L2.length c2] 26)).alloc (.cells #[.slice b0 L0.length d0, .slice b1 L1.length d1, .slice b2 L2.length d2] 26)) _ _ L0 (HA0.out.mono HB0.out) (HK0.out.mono HB0.out)
 go_wp2_with fail
 refine rc.mono ?_
 clear rc
 rintro e w1 ⟨rfl, hb⟩
 have HB1 := Lib.hid (bgo HB0.out hb HB0.out.size)
 have HX1 := Lib.hid (HX0.out.below hb)
 have HY1 := Lib.hid (HY0.out.below hb)
 clear hb HX0 HY0
 have rc := KInsts_same w1 _ _ L1 (HA1.out.mono HB1.out) (HK1.out.mono HB1.out)
 have hx := HX1.out.cell (j := 1) rfl
 have hy := HY1.out.cell (j := 1) rfl
 go_wp2_with fail
 clear hx hy
 refine rc.mono ?_
 clear rc
 rintro e w2 ⟨rfl, hb⟩
 have HB2 := Lib.hid (bgo HB1.out hb HB1.out.size)
 have HX2 := Lib.hid (HX1.out.below hb)
 have HY2 := Lib.hid (HY1.out.below hb)
 clear hb HB1 HX1 HY1
 have rc := KAssets_same w2 _ _ L2 (HA2.out.mono HB2.out) (HK2.out.mono HB2.out)
 have hx := HX2.out.cell (j := 2) rfl
 have hy := HY2.out.cell (j := 2) rfl
 go_wp2_with fail
 clear hx hy
 refine rc.mono ?_
 clear rc
 rintro e w3 ⟨rfl, hb⟩
 have HB3 := Lib.hid (bgo HB2.out hb HB2.out.size)
 have HX3 := Lib.hid (HX2.out.below hb)
 have HY3 := Lib.hid (HY2.out.below hb)
 clear hb HB2 HX2 HY2
 go_wp2_with fail
 go_ret
 exact ⟨rfl, HB3.out⟩
end Cam
