import Derived.Test.YtlnclfiiplpaiaaPgP
/- the page's journal: Open, room. -/
namespace Cam
open Go Go.RowKit Go.Proofs
theorem PLX.gen {w : World} {gl hf g : Nat} {F : Nat → Prop} {T : LT} (h : PLX w gl hf F g T) : w.cell? ⟨gl, 2, none⟩ = some (.int .i64 (T.half.gen : Int)) := by
 obtain ⟨vsn, vrc, h1, _⟩ := h
 exact h1.cell rfl
theorem PMem.keep {w w' : World} {g gs : Nat} {vo : Value} {n : Nat} {D : DK} (h : PMem w g gs vo n D) (hb : Below w.heap.size w w') : PMem w' g gs vo n D := h.below hb
set_option maxRecDepth 100000 in
set_option maxHeartbeats 6400000 in
theorem popen_ok (w : World) (g gs : Nat) (vo : Value) (n : Nat) (D : DK) (h : PMem w g gs vo n D) (hfull : D.now = sets D.syn D.op) (hoff : D.off = false) (hn : 4 ≤ n) :
  Calls Try.prog 49 #[.pointer (some ⟨g, 0, none⟩)] w fun e w' => ∃ gl hf F, e = .returned (.tuple #[.pointer (some ⟨gl, 0, none⟩), .int .i64 0]) ∧ PLX w' gl hf F g (openT n D.now) ∧ (openT n D.now).from_ = hf * (n / 2) ∧ hf ≤ 1 ∧ (∀ k, F k → w.heap.size ≤ k) ∧ Below w.heap.size w w' := by
 obtain ⟨hc0, _, _, hc3, _⟩ := h.cells
 rw [hoff] at hc3
 have hn4 : decide ((n : Int) < 4) = false := by simp; omega
 have hp1 := ppart_any w g gs vo n D h hfull 0 0 (by omega)
 rw [show ((0 : Nat) : Int) = 0 from rfl, Nat.zero_mul] at hp1
 have hp2 : Hid (∀ w1, Below w.heap.size w w1 → Calls Try.prog 63 #[.pointer (some ⟨g, 0, none⟩), .int .i64 1] w1 (PPart w1 g 1 ⟨n / 2, readL (halfOf D.now (n / 2) (n / 2)), false⟩)) := fun w1 hb => by
  have h9 := ppart_any w1 g gs vo n D (h.below hb) hfull 1 (n / 2) (by omega)
  rw [Nat.one_mul] at h9
  exact h9
 obtain ⟨A, hA⟩ : ∃ z, z = halfOf D.now 0 (n / 2) := ⟨_, rfl⟩
 obtain ⟨B, hB⟩ : ∃ z, z = halfOf D.now (n / 2) (n / 2) := ⟨_, rfl⟩
 have HTT : Hid (openT n D.now = if 0 < (readL A).gen ∧ (readL B).gen ≤ (readL A).gen then ⟨0, readL A, false⟩ else ⟨n / 2, readL B, false⟩) := by
  show _ = _
  rw [hA, hB]
  unfold halfOf
  rw [List.drop_zero]
  rfl
 rw [← hA] at hp1
 rw [← hB] at hp2
 clear hA hB h hoff hfull hn
 go_enter Try.func49, Try.ntmps49
 go_wp2_with fail
 refine hp1.mono ?_
 clear hp1
 rintro e w1 ⟨ga, FA, rfl, hpa, hfa, hb1⟩
 have hp3 := hp2.out w1 hb1
 have HPA1 := Lib.hid hpa
 have HFA := Lib.hid hfa
 have HBA := Lib.hid hb1
 clear hpa hfa hb1 hp2 hc0 hc3
 go_wp2_with fail
 refine hp3.mono ?_
 clear hp3
 rintro e w2 ⟨gb, FB, rfl, hpb, hfb, hb2⟩
 have HPA := Lib.hid (HPA1.out.below hb2)
 have HPB := Lib.hid hpb
 have HFB : Hid (∀ k, FB k → w.heap.size ≤ k) := fun k e => Nat.le_trans HBA.out.size (hfb k e)
 have HBW := Lib.hid (HBA.out.next hb2)
 have hca := HPA.out.gen
 have hcb := HPB.out.gen
 obtain ⟨GA, hGA⟩ : ∃ z, z = (readL A).gen := ⟨_, rfl⟩
 obtain ⟨GB, hGB⟩ : ∃ z, z = (readL B).gen := ⟨_, rfl⟩
 have HCA : Hid (w2.cell? ⟨ga, 2, none⟩ = some (.int .i64 (GA : Int))) := by rw [hGA]; exact hca
 have HCB : Hid (w2.cell? ⟨gb, 2, none⟩ = some (.int .i64 (GB : Int))) := by rw [hGB]; exact hcb
 have HGA := Lib.hid hGA
 have HGB := Lib.hid hGB
 obtain ⟨b0, hb0⟩ : ∃ z : Bool, decide (GB ≤ GA) = z := ⟨_, rfl⟩
 obtain ⟨b1, hb1⟩ : ∃ z : Bool, decide (0 < GA) = z := ⟨_, rfl⟩
 have HB0 := Lib.hid hb0
 have HB1 := Lib.hid hb1
 clear hca hcb hGA hGB hpb hfb hb2 hb0 hb1 HPA1 HBA
 go_upto_region 6 with fail
 refine wp_region_bl 16 (by kernel_rfl) ?_
 refine wpAnyU_take (i := 0) (oi := { dst := some 19, op := Op.move (Operand.tmp 4), type := 69, pos := "ref.go:198", after := #[], guard := none }) (v := (.pointer (some ⟨ga, 0, none⟩))) rfl (by kernel_rfl) (by kernel_rfl) (by kernel_rfl) (by kernel_rfl) (by kernel_rfl) (fun _ _ _ h => h) (BL.cls w2) ?_ ?_
 ·
  refine Or.inl ⟨rfl, fun w hSw => ?_⟩
  exact EffR.same (by go_simp)
 try simp only [Act.put, zA, zB, zC]
 refine wpAnyU_take (i := 1) (oi := { dst := some 20, op := Op.nilCheck (Operand.tmp 19), type := 0, pos := "ref.go:198", after := #[{ on := 0, ground := Ground.data }], guard := none }) (v := (.pointer (some ⟨ga, 0, none⟩))) rfl (by kernel_rfl) (by kernel_rfl) (by kernel_rfl) (by kernel_rfl) (by kernel_rfl) (fun _ _ _ h => h) (BL.cls w2) ?_ ?_
 ·
  refine Or.inl ⟨rfl, fun w hSw => ?_⟩
  exact EffR.same (by go_simp)
 try simp only [Act.put, zA, zB, zC]
 refine wpAnyU_take (i := 2) (oi := { dst := some 21, op := Op.fieldAddr 107 (Operand.tmp 20) 2, type := 0, pos := "ref.go:198", after := #[{ on := 1, ground := Ground.data }], guard := none }) (v := (.pointer (some ⟨ga, 2, none⟩))) rfl (by kernel_rfl) (by kernel_rfl) (by kernel_rfl) (by kernel_rfl) (by kernel_rfl) (fun _ _ _ h => h) (BL.cls w2) ?_ ?_
 ·
  refine Or.inl ⟨rfl, fun w hSw => ?_⟩
  exact EffR.same (by go_simp)
 try simp only [Act.put, zA, zB, zC]
 refine wpAnyU_take (i := 3) (oi := { dst := some 22, op := Op.load 3 (Operand.tmp 21), type := 3, pos := "ref.go:198", after := #[{ on := 2, ground := Ground.data }], guard := none }) (v := (.int .i64 (GA : Int))) rfl (by kernel_rfl) (by kernel_rfl) (by kernel_rfl) (by kernel_rfl) (by kernel_rfl) (fun _ _ _ h => h) (BL.cls w2) ?_ ?_
 ·
  refine Or.inl ⟨rfl, fun w hSw => ?_⟩
  have e0 := BL.cell hSw HCA.out
  exact EffR.same (by go_simp)
 try simp only [Act.put, zA, zB, zC]
 refine wpAnyU_take (i := 4) (oi := { dst := some 23, op := Op.move (Operand.tmp 5), type := 69, pos := "ref.go:198", after := #[], guard := none }) (v := (.pointer (some ⟨gb, 0, none⟩))) rfl (by kernel_rfl) (by kernel_rfl) (by kernel_rfl) (by kernel_rfl) (by kernel_rfl) (fun _ _ _ h => h) (BL.cls w2) ?_ ?_
 ·
  refine Or.inl ⟨rfl, fun w hSw => ?_⟩
  exact EffR.same (by go_simp)
 try simp only [Act.put, zA, zB, zC]
 refine wpAnyU_take (i := 5) (oi := { dst := some 24, op := Op.nilCheck (Operand.tmp 23), type := 0, pos := "ref.go:198", after := #[{ on := 4, ground := Ground.data }], guard := none }) (v := (.pointer (some ⟨gb, 0, none⟩))) rfl (by kernel_rfl) (by kernel_rfl) (by kernel_rfl) (by kernel_rfl) (by kernel_rfl) (fun _ _ _ h => h) (BL.cls w2) ?_ ?_
 ·
  refine Or.inl ⟨rfl, fun w hSw => ?_⟩
  exact EffR.same (by go_simp)
 try simp only [Act.put, zA, zB, zC]
 refine wpAnyU_take (i := 6) (oi := { dst := some 25, op := Op.fieldAddr 107 (Operand.tmp 24) 2, type := 0, pos := "ref.go:198", after := #[{ on := 5, ground := Ground.data }], guard := none }) (v := (.pointer (some ⟨gb, 2, none⟩))) rfl (by kernel_rfl) (by kernel_rfl) (by kernel_rfl) (by kernel_rfl) (by kernel_rfl) (fun _ _ _ h => h) (BL.cls w2) ?_ ?_
 ·
  refine Or.inl ⟨rfl, fun w hSw => ?_⟩
  exact EffR.same (by go_simp)
 try simp only [Act.put, zA, zB, zC]
 refine wpAnyU_take (i := 7) (oi := { dst := some 26, op := Op.load 3 (Operand.tmp 25), type := 3, pos := "ref.go:198", after := #[{ on := 6, ground := Ground.data }], guard := none }) (v := (.int .i64 (GB : Int))) rfl (by kernel_rfl) (by kernel_rfl) (by kernel_rfl) (by kernel_rfl) (by kernel_rfl) (fun _ _ _ h => h) (BL.cls w2) ?_ ?_
 ·
  refine Or.inl ⟨rfl, fun w hSw => ?_⟩
  have e0 := BL.cell hSw HCB.out
  exact EffR.same (by go_simp)
 try simp only [Act.put, zA, zB, zC]
 refine wpAnyU_take (i := 8) (oi := { dst := some 27, op := Op.binOp BinOp.geq 3 (Operand.tmp 22) (Operand.tmp 26) 3, type := 4, pos := "ref.go:198", after := #[{ on := 3, ground := Ground.data }, { on := 7, ground := Ground.data }], guard := none }) (v := (.bool b0)) rfl (by kernel_rfl) (by kernel_rfl) (by kernel_rfl) (by kernel_rfl) (by kernel_rfl) (fun _ _ _ h => h) (BL.cls w2) ?_ ?_
 ·
  refine Or.inl ⟨rfl, fun w hSw => ?_⟩
  have e0 := HB0.out
  exact EffR.same (by go_simp)
 try simp only [Act.put, zA, zB, zC]
 refine wpAnyU_take (i := 9) (oi := { dst := some 28, op := Op.move (Operand.tmp 27), type := 4, pos := "ref.go:198", after := #[{ on := 8, ground := Ground.data }], guard := none }) (v := (.bool b0)) rfl (by kernel_rfl) (by kernel_rfl) (by kernel_rfl) (by kernel_rfl) (by kernel_rfl) (fun _ _ _ h => h) (BL.cls w2) ?_ ?_
 ·
  refine Or.inl ⟨rfl, fun w hSw => ?_⟩
  exact EffR.same (by go_simp)
 try simp only [Act.put, zA, zB, zC]
 refine wpAnyU_take (i := 10) (oi := { dst := some 29, op := Op.move (Operand.tmp 4), type := 69, pos := "ref.go:198", after := #[{ on := 9, ground := Ground.guard }], guard := some (9, true) }) (v := (cond ((b0)) (.pointer (some ⟨ga, 0, none⟩)) undef)) rfl (by kernel_rfl) (by kernel_rfl) (by kernel_rfl) (by kernel_rfl) (by kernel_rfl) (fun _ _ _ h => h) (BL.cls w2) ?_ ?_
 ·
  cases b0 <;> first | exact Or.inr ⟨rfl, rfl⟩ | (refine Or.inl ⟨rfl, fun w hSw => ?_⟩; exact EffR.same (by go_simp))
 try simp only [Act.put, zA, zB, zC]
 refine wpAnyU_take (i := 11) (oi := { dst := some 30, op := Op.nilCheck (Operand.tmp 29), type := 0, pos := "ref.go:198", after := #[{ on := 10, ground := Ground.data }, { on := 9, ground := Ground.guard }], guard := some (9, true) }) (v := (cond ((b0)) (.pointer (some ⟨ga, 0, none⟩)) undef)) rfl (by kernel_rfl) (by kernel_rfl) (by kernel_rfl) (by kernel_rfl) (by kernel_rfl) (fun _ _ _ h => h) (BL.cls w2) ?_ ?_
 ·
  cases b0 <;> first | exact Or.inr ⟨rfl, rfl⟩ | (refine Or.inl ⟨rfl, fun w hSw => ?_⟩; exact EffR.same (by go_simp))
 try simp only [Act.put, zA, zB, zC]
 refine wpAnyU_take (i := 12) (oi := { dst := some 31, op := Op.fieldAddr 107 (Operand.tmp 30) 2, type := 0, pos := "ref.go:198", after := #[{ on := 11, ground := Ground.data }, { on := 9, ground := Ground.guard }], guard := some (9, true) }) (v := (cond ((b0)) (.pointer (some ⟨ga, 2, none⟩)) undef)) rfl (by kernel_rfl) (by kernel_rfl) (by kernel_rfl) (by kernel_rfl) (by kernel_rfl) (fun _ _ _ h => h) (BL.cls w2) ?_ ?_
 ·
  cases b0 <;> first | exact Or.inr ⟨rfl, rfl⟩ | (refine Or.inl ⟨rfl, fun w hSw => ?_⟩; exact EffR.same (by go_simp))
 try simp only [Act.put, zA, zB, zC]
 refine wpAnyU_take (i := 13) (oi := { dst := some 32, op := Op.load 3 (Operand.tmp 31), type := 3, pos := "ref.go:198", after := #[{ on := 12, ground := Ground.data }, { on := 9, ground := Ground.guard }], guard := some (9, true) }) (v := (cond ((b0)) (.int .i64 (GA : Int)) undef)) rfl (by kernel_rfl) (by kernel_rfl) (by kernel_rfl) (by kernel_rfl) (by kernel_rfl) (fun _ _ _ h => h) (BL.cls w2) ?_ ?_
 ·
  cases b0 <;> first | exact Or.inr ⟨rfl, rfl⟩ | (refine Or.inl ⟨rfl, fun w hSw => ?_⟩; have e0 := BL.cell hSw HCA.out; exact EffR.same (by go_simp))
 try simp only [Act.put, zA, zB, zC]
 refine wpAnyU_take (i := 14) (oi := { dst := some 33, op := Op.binOp BinOp.gtr 3 (Operand.tmp 32) (Operand.const (Value.int IntKind.i64 0)) 3, type := 4, pos := "ref.go:198", after := #[{ on := 13, ground := Ground.data }, { on := 9, ground := Ground.guard }], guard := some (9, true) }) (v := (cond ((b0)) (.bool b1) undef)) rfl (by kernel_rfl) (by kernel_rfl) (by kernel_rfl) (by kernel_rfl) (by kernel_rfl) (fun _ _ _ h => h) (BL.cls w2) ?_ ?_
 ·
  cases b0 <;> first | exact Or.inr ⟨rfl, rfl⟩ | (refine Or.inl ⟨rfl, fun w hSw => ?_⟩; have e0 := HB1.out; exact EffR.same (by go_simp))
 try simp only [Act.put, zA, zB, zC]
 obtain ⟨x15, hx15⟩ : ∃ b : Bool, b = (b0 && b1) := ⟨_, rfl⟩
 have HX15 := Lib.hid hx15
 clear hx15
 refine wpAnyU_take (i := 15) (oi := { dst := some 34, op := Op.pick (Operand.tmp 28) (Operand.tmp 33) (Operand.const (Value.bool false)), type := 4, pos := "ref.go:198", after := #[{ on := 9, ground := Ground.data }, { on := 14, ground := Ground.data }], guard := none }) (v := (.bool x15)) rfl (by kernel_rfl) (by kernel_rfl) (by kernel_rfl) (by kernel_rfl) (by kernel_rfl) (fun _ _ _ h => h) (BL.cls w2) ?_ ?_
 ·
  cases b0 <;> cases b1 <;> first | exact Or.inr ⟨rfl, rfl⟩ | (refine Or.inl ⟨rfl, fun w hSw => ?_⟩; have hx := HX15.out; simp at hx; subst hx; exact EffR.same (by go_simp))
 try simp only [Act.put, zA, zB, zC]
 refine wpAnyU_done (by kernel_rfl) (fun w1 hb1 => ?_) _
 have HWE := Lib.hid hb1
 clear hb1
 cases x15 with
 | true =>
  go_wp2_with fail
  go_ret2
  have h3 : b0 = true ∧ b1 = true := by have h1 := HX15.out; revert h1; clear HB0 HB1; cases b0 <;> cases b1 <;> simp
  have h4 : 0 < GA ∧ GB ≤ GA := by have h1 := HB0.out; have h2 := HB1.out; rw [h3.1] at h1; rw [h3.2] at h2; simp at h1 h2; omega
  have hT : openT n D.now = ⟨0, readL A, false⟩ := by
   rw [HTT.out, if_pos ⟨by rw [← HGA.out]; exact h4.1, by rw [← HGA.out, ← HGB.out]; exact h4.2⟩]
  rw [hT]
  exact ⟨ga, 0, FA, rfl, HPA.out.below HWE.out, by simp, by omega, HFA.out, HBW.out.next HWE.out⟩
 | false =>
  go_wp2_with fail
  go_ret2
  have h4 : ¬ (0 < GA ∧ GB ≤ GA) := fun h5 => by
   have h1 := HB0.out; have h2 := HB1.out; have h3 := HX15.out
   have h6 : b0 = true := by rw [← h1]; simp; omega
   have h7 : b1 = true := by rw [← h2]; simp; omega
   rw [h6, h7] at h3
   cases h3
  have hT : openT n D.now = ⟨n / 2, readL B, false⟩ := by
   rw [HTT.out, if_neg (fun h5 => h4 (by rw [HGA.out, HGB.out]; exact h5))]
  rw [hT]
  exact ⟨gb, 1, FB, rfl, HPB.out.below HWE.out, by simp, by omega, HFB.out, HBW.out.next HWE.out⟩
theorem popen_off (w : World) (g gs : Nat) (vo : Value) (n : Nat) (D : DK) (h : PMem w g gs vo n D) (hoff : D.off = true) :
  Calls Try.prog 49 #[.pointer (some ⟨g, 0, none⟩)] w fun e w' => e = .returned (.tuple #[.pointer none, .int .i64 7]) ∧ w = w' := by
 obtain ⟨hc0, _, _, hc3, _⟩ := h.cells
 rw [hoff] at hc3
 clear h hoff
 go_enter Try.func49, Try.ntmps49
 go_wp2_with fail
 go_ret2
 exact ⟨rfl, rfl⟩
theorem popen_few (w : World) (g gs : Nat) (vo : Value) (n : Nat) (D : DK) (h : PMem w g gs vo n D) (hoff : D.off = false) (hn : n < 4) :
  Calls Try.prog 49 #[.pointer (some ⟨g, 0, none⟩)] w fun e w' => e = .returned (.tuple #[.pointer none, .int .i64 3]) ∧ w = w' := by
 obtain ⟨hc0, _, _, hc3, _⟩ := h.cells
 rw [hoff] at hc3
 have hn4 : decide ((n : Int) < 4) = true := by simp; omega
 clear h hoff hn
 go_enter Try.func49, Try.ntmps49
 go_wp2_with fail
 go_ret2
 exact ⟨rfl, rfl⟩
theorem proom_any (w : World) (g gs : Nat) (vo : Value) (n : Nat) (D : DK) (h : PMem w g gs vo n D) (gl hf : Nat) (F : Nat → Prop) (T : LT) (hl : PLX w gl hf F g T) :
  Calls Try.prog 66 #[.pointer (some ⟨gl, 0, none⟩)] w fun e w' => e = .returned (.int .i64 ((n / 2 : Nat) : Int)) ∧ w = w' := by
 obtain ⟨hc0, _⟩ := h.cells
 obtain ⟨vsn, vrc, h1, _⟩ := hl
 have hl0 := h1.cell (j := 0) rfl
 have hdv : (n : Int).tdiv 2 = ((n / 2 : Nat) : Int) := by rw [Int.tdiv_eq_ediv_of_nonneg (by omega)]; omega
 have hdv2 : (n : Int) / 2 = ((n / 2 : Nat) : Int) := by omega
 obtain ⟨m, hm⟩ : ∃ z, z = n / 2 := ⟨_, rfl⟩
 rw [← hm] at hdv hdv2 ⊢
 have hn1 := h.ok.n1
 have hm3 : (0 : Int) ≤ m ∧ (m : Int) ≤ 65536 ∧ (0 : Int) ≤ n ∧ (n : Int) ≤ 65536 := by omega
 clear h h1 hm
 go_enter Try.func66, Try.ntmps66
 go_wp2_with fail
 go_ret
 exact ⟨rfl, rfl⟩
end Cam
