import Derived.Test.YtilbijekmmkiaaaRlF
/- roll: twin. -/
namespace Cam
open Go Go.RowKit Go.Proofs
theorem splice_all {C cs : List Value} (h : cs.length = C.length) : splice C 0 cs = cs := by
 unfold splice
 simp [h]
theorem OwnR.keptS {α : Type} {enc : α → List Value} {K : Nat} {S : Nat → Prop} {t : TypeId} {w w' : World} {base : Nat} {v : Value} {L : List α} (h : OwnR enc K t w base v L) (hk : Kept S w w') (hS : ∀ k, v.ownBlock = some k → ¬ S k) : OwnR enc K t w' base v L := by
 refine ⟨h.1, h.2.1, ?_⟩
 rcases h.2.2 with h2 | ⟨g, cap, cur, rfl, hg, hh, r⟩
 ·
  exact Or.inl h2
 ·
  exact Or.inr ⟨g, cap, cur, rfl, hg, (hk.block g (Array.getElem?_eq_some_iff.1 hh).1 (hS g rfl)).trans hh, r⟩
theorem Cls.and {S0 S R : World → Prop} (h : Cls S0 S) (hr : ∀ w w', R w → Below w.heap.size w w' → R w') : Cls S0 (fun w => S w ∧ R w) := ⟨fun w k => h.sub w k.1, fun w w' k hb => ⟨h.mono w w' k.1 hb, hr w w' k.2 hb⟩⟩
def OwnRoll (w : World) (base : Nat) (va vb vc : Value) (R : RollT) : Prop := OwnR MbT.vs 3 33 w base va R.M ∧ OwnR InT.vs 12 38 w base vb R.I ∧ OwnR AsT.vs 4 42 w base vc R.A
theorem OwnRoll.in {w : World} {base : Nat} {va vb vc : Value} {R : RollT} (h : OwnRoll w base va vb vc R) : RollIn w va vb vc R := ⟨h.1.rs, h.2.1.rs, h.2.2.rs⟩
theorem OwnRoll.below {w w' : World} {base : Nat} {va vb vc : Value} {R : RollT} (h : OwnRoll w base va vb vc R) (hb : Below w.heap.size w w') : OwnRoll w' base va vb vc R := ⟨h.1.below hb, h.2.1.below hb, h.2.2.below hb⟩
theorem OwnRoll.base {w : World} {base base' : Nat} {va vb vc : Value} {R : RollT} (h : OwnRoll w base va vb vc R) (hb : base' ≤ base) : OwnRoll w base' va vb vc R := ⟨h.1.base hb, h.2.1.base hb, h.2.2.base hb⟩
def Apart2 (u v : Value) : Prop := ∀ g, u.ownBlock = some g → v.ownBlock ≠ some g
theorem Apart2.symm {u v : Value} (h : Apart2 u v) : Apart2 v u := fun g h1 h2 => h g h2 h1
def Apart (va vb vc : Value) : Prop := Apart2 va vb ∧ Apart2 va vc ∧ Apart2 vb vc
def RollPost (w : World) (R : RollT) (e : Ending) (w' : World) : Prop :=
 ∃ aM nM cM aI nI cI aA nA cA, e = .returned (.agg #[.slice aM nM cM, .slice aI nI cI, .slice aA nA cA]) ∧ OwnRoll w' w.heap.size (.slice aM nM cM) (.slice aI nI cI) (.slice aA nA cA) R ∧ Apart (.slice aM nM cM) (.slice aI nI cI) (.slice aA nA cA) ∧ Below w.heap.size w w'
def few (R : RollT) : Prop := R.M.length ≤ 1000 ∧ R.I.length ≤ 1000 ∧ R.A.length ≤ 1000
set_option maxRecDepth 100000 in
set_option maxHeartbeats 3200000 in
theorem twin_any (w : World) (va vb vc : Value) (R : RollT) (h : RollIn w va vb vc R) (hf : few R) :
  Calls Try.prog 59 #[.agg #[va, vb, vc]] w (RollPost w R) := by
 have hb0 : Below w.heap.size w ((w.alloc (.cells #[va, vb, vc] 26)).alloc (.cells #[.slice none 0 0, .slice none 0 0, .slice none 0 0] 26)) := ((Below.refl _ _).alloc (Nat.le_refl _) _).alloc (by simp) _
 have hg0 : HT ((w.alloc (.cells #[va, vb, vc] 26)).alloc (.cells #[.slice none 0 0, .slice none 0 0, .slice none 0 0] 26)) w.heap.size 26 [va, vb, vc] := (HT.new (w := w) (t := 26) (C := [va, vb, vc])).below ((Below.refl _ _).alloc (Nat.le_refl _) _)
 have hg1 : HT ((w.alloc (.cells #[va, vb, vc] 26)).alloc (.cells #[.slice none 0 0, .slice none 0 0, .slice none 0 0] 26)) (w.heap.size + 1) 26 [.slice none 0 0, .slice none 0 0, .slice none 0 0] := by
  have := HT.new (w := w.alloc (.cells #[va, vb, vc] 26)) (t := 26) (C := [.slice none 0 0, .slice none 0 0, .slice none 0 0])
  rwa [show (w.alloc (.cells #[va, vb, vc] 26)).heap.size = w.heap.size + 1 by simp] at this
 have hsw : ((w.alloc (.cells #[va, vb, vc] 26)).alloc (.cells #[.slice none 0 0, .slice none 0 0, .slice none 0 0] 26)).heap.size = w.heap.size + 2 := by simp
 have hf2 : (R.M.length ≤ 100000) ∧ (R.I.length ≤ 100000) ∧ (R.A.length ≤ 100000) := by obtain ⟨h1, h2, h3⟩ := hf; omega
 have HR := Lib.hid h
 have HFEW := Lib.hid hf2
 have HB0 := Lib.hid hb0
 have HG0 := Lib.hid hg0
 have HG1 := Lib.hid hg1
 have HSW := Lib.hid hsw
 clear h hf hf2 hb0 hg0 hg1 hsw
 go_enter Try.func59, Try.ntmps59
 go_wp2_with fail
 generalize hW : ((w.alloc (.cells #[va, vb, vc] 26)).alloc (.cells #[.slice none 0 0, .slice none 0 0, .slice none 0 0] 26)) = W at *
 clear hW
 refine wp_region_bl 10 (by kernel_rfl) ?_
 refine wpAnyU_take (i := 0) (oi := { dst := some 3, op := Op.fieldAddr 26 (Operand.tmp 1) 0, type := 0, pos := "roll.go:88", after := #[], guard := none }) (v := (.pointer (some ⟨w.heap.size, 0, none⟩))) rfl (by kernel_rfl) (by kernel_rfl) (by kernel_rfl) (by kernel_rfl) (by kernel_rfl) (fun _ _ _ h => h) (BL.cls W) ?_ ?_
 ·
  refine Or.inl ⟨rfl, fun w hSw => ?_⟩
  exact EffR.same (by go_simp)
 try simp only [Act.put, zA, zB, zC]
 refine wpAnyU_take (i := 1) (oi := { dst := some 4, op := Op.load 22 (Operand.tmp 3), type := 22, pos := "roll.go:88", after := #[{ on := 0, ground := Ground.data }], guard := none }) (v := (va)) rfl (by kernel_rfl) (by kernel_rfl) (by kernel_rfl) (by kernel_rfl) (by kernel_rfl) (fun _ _ _ h => h) (BL.cls W) ?_ ?_
 ·
  refine Or.inl ⟨rfl, fun w hSw => ?_⟩
  have e0 := BL.cell hSw (HG0.out.cell (j := 0) rfl)
  exact EffR.same (by go_simp)
 try simp only [Act.put, zA, zB, zC]
 refine wpAnyU_take (i := 3) (oi := { dst := some 6, op := Op.fieldAddr 26 (Operand.tmp 1) 1, type := 0, pos := "roll.go:88", after := #[], guard := none }) (v := (.pointer (some ⟨w.heap.size, 1, none⟩))) rfl (by kernel_rfl) (by kernel_rfl) (by kernel_rfl) (by kernel_rfl) (by kernel_rfl) (fun _ _ _ h => h) (BL.cls W) ?_ ?_
 ·
  refine Or.inl ⟨rfl, fun w hSw => ?_⟩
  exact EffR.same (by go_simp)
 try simp only [Act.put, zA, zB, zC]
 refine wpAnyU_take (i := 4) (oi := { dst := some 7, op := Op.load 23 (Operand.tmp 6), type := 23, pos := "roll.go:88", after := #[{ on := 3, ground := Ground.data }], guard := none }) (v := (vb)) rfl (by kernel_rfl) (by kernel_rfl) (by kernel_rfl) (by kernel_rfl) (by kernel_rfl) (fun _ _ _ h => h) (BL.cls W) ?_ ?_
 ·
  refine Or.inl ⟨rfl, fun w hSw => ?_⟩
  have e0 := BL.cell hSw (HG0.out.cell (j := 1) rfl)
  exact EffR.same (by go_simp)
 try simp only [Act.put, zA, zB, zC]
 refine wpAnyU_take (i := 6) (oi := { dst := some 9, op := Op.fieldAddr 26 (Operand.tmp 1) 2, type := 0, pos := "roll.go:88", after := #[], guard := none }) (v := (.pointer (some ⟨w.heap.size, 2, none⟩))) rfl (by kernel_rfl) (by kernel_rfl) (by kernel_rfl) (by kernel_rfl) (by kernel_rfl) (fun _ _ _ h => h) (BL.cls W) ?_ ?_
 ·
  refine Or.inl ⟨rfl, fun w hSw => ?_⟩
  exact EffR.same (by go_simp)
 try simp only [Act.put, zA, zB, zC]
 refine wpAnyU_take (i := 7) (oi := { dst := some 10, op := Op.load 24 (Operand.tmp 9), type := 24, pos := "roll.go:88", after := #[{ on := 6, ground := Ground.data }], guard := none }) (v := (vc)) rfl (by kernel_rfl) (by kernel_rfl) (by kernel_rfl) (by kernel_rfl) (by kernel_rfl) (fun _ _ _ h => h) (BL.cls W) ?_ ?_
 ·
  refine Or.inl ⟨rfl, fun w hSw => ?_⟩
  have e0 := BL.cell hSw (HG0.out.cell (j := 2) rfl)
  exact EffR.same (by go_simp)
 try simp only [Act.put, zA, zB, zC]
 refine wpAnyU_ready (rs := [2]) (by kernel_rfl) (by simp) ?_
 refine AllReadyU.cons (o := { dst := some 5, op := Op.call { callee := Callee.value (Operand.func 69), args := #[Operand.tmp 4], argTypes := #[22] }, type := 22, pos := "roll.go:88", after := #[{ on := 1, ground := Ground.data }], guard := none }) rfl (fun wA2 hA2 K hK => ?_) AllReadyU.nil
 go_simp
 refine (CloneM_any wA2 va R.M ((HR.out.1.mono HB0.out).mono hA2) HFEW.out.1).mono ?_
 rintro e wn2 ⟨aM, nM, cM, rfl, hon, hbn, _⟩
 have HGEM : Hid (∀ g, (Value.slice aM nM cM).ownBlock = some g → w.heap.size + 2 ≤ g) := fun g h2 => by have h1 := OwnR.ge hon g h2; have h3 := Below.size hA2; have h4 := HSW.out; omega
 refine hK.out _ _ (fun x => (BL W) x ∧ OwnR MbT.vs 3 33 x w.heap.size (.slice aM nM cM) R.M) (Cls.and (BL.cls W) (fun _ _ h hb => OwnR.below h hb)) ⟨Below.next hA2 hbn, OwnR.base hon (Nat.le_trans (by have := HSW.out; omega) (Below.size hA2))⟩ ?_
 clear hK K
 try simp only [Act.put, zA, zB, zC]
 refine wpAnyU_ready (rs := [5]) (by kernel_rfl) (by simp) ?_
 refine AllReadyU.cons (o := { dst := some 8, op := Op.call { callee := Callee.value (Operand.func 70), args := #[Operand.tmp 7], argTypes := #[23] }, type := 23, pos := "roll.go:88", after := #[{ on := 4, ground := Ground.data }, { on := 2, ground := Ground.chain }], guard := none }) rfl (fun wA5 hA5 K hK => ?_) AllReadyU.nil
 go_simp
 refine (CloneI_any wA5 vb R.I ((HR.out.2.1.mono HB0.out).mono hA5.1) HFEW.out.2.1).mono ?_
 rintro e wn5 ⟨aI, nI, cI, rfl, hon, hbn, _⟩
 have HPMI : Hid (Apart2 (.slice aM nM cM) (.slice aI nI cI)) := fun g h1 h2 => by have := OwnR.lt hA5.2 g h1; have := OwnR.ge hon g h2; omega
 have HGEI : Hid (∀ g, (Value.slice aI nI cI).ownBlock = some g → w.heap.size + 2 ≤ g) := fun g h2 => by have h1 := OwnR.ge hon g h2; have h3 := Below.size hA5.1; have h4 := HSW.out; omega
 refine hK.out _ _ (fun x => (fun x => (BL W) x ∧ OwnR MbT.vs 3 33 x w.heap.size (.slice aM nM cM) R.M) x ∧ OwnR InT.vs 12 38 x w.heap.size (.slice aI nI cI) R.I) (Cls.and (Cls.and (BL.cls W) (fun _ _ h hb => OwnR.below h hb)) (fun _ _ h hb => OwnR.below h hb)) ⟨⟨Below.next hA5.1 hbn, OwnR.below hA5.2 hbn⟩, OwnR.base hon (Nat.le_trans (by have := HSW.out; omega) (Below.size hA5.1))⟩ ?_
 clear hK K
 try simp only
 refine wpAnyU_ready (rs := [8]) (by kernel_rfl) (by simp) ?_
 refine AllReadyU.cons (o := { dst := some 11, op := Op.call { callee := Callee.value (Operand.func 71), args := #[Operand.tmp 10], argTypes := #[24] }, type := 24, pos := "roll.go:88", after := #[{ on := 7, ground := Ground.data }, { on := 5, ground := Ground.chain }], guard := none }) rfl (fun wA8 hA8 K hK => ?_) AllReadyU.nil
 go_simp
 refine (CloneA_any wA8 vc R.A ((HR.out.2.2.mono HB0.out).mono hA8.1.1) HFEW.out.2.2).mono ?_
 rintro e wn8 ⟨aA, nA, cA, rfl, hon, hbn, _⟩
 have HPMA : Hid (Apart2 (.slice aM nM cM) (.slice aA nA cA)) := fun g h1 h2 => by have := OwnR.lt hA8.1.2 g h1; have := OwnR.ge hon g h2; omega
 have HPIA : Hid (Apart2 (.slice aI nI cI) (.slice aA nA cA)) := fun g h1 h2 => by have := OwnR.lt hA8.2 g h1; have := OwnR.ge hon g h2; omega
 have HGEA : Hid (∀ g, (Value.slice aA nA cA).ownBlock = some g → w.heap.size + 2 ≤ g) := fun g h2 => by have h1 := OwnR.ge hon g h2; have h3 := Below.size hA8.1.1; have h4 := HSW.out; omega
 refine hK.out _ _ (fun x => (fun x => (fun x => (BL W) x ∧ OwnR MbT.vs 3 33 x w.heap.size (.slice aM nM cM) R.M) x ∧ OwnR InT.vs 12 38 x w.heap.size (.slice aI nI cI) R.I) x ∧ OwnR AsT.vs 4 42 x w.heap.size (.slice aA nA cA) R.A) (Cls.and (Cls.and (Cls.and (BL.cls W) (fun _ _ h hb => OwnR.below h hb)) (fun _ _ h hb => OwnR.below h hb)) (fun _ _ h hb => OwnR.below h hb)) ⟨⟨⟨Below.next hA8.1.1 hbn, OwnR.below hA8.1.2 hbn⟩, OwnR.below hA8.2 hbn⟩, OwnR.base hon (Nat.le_trans (by have := HSW.out; omega) (Below.size hA8.1.1))⟩ ?_
 clear hK K
 try simp only
 refine wpAnyU_take (i := 9) (oi := { dst := some 12, op := Op.build 26 #[(0, Operand.tmp 5), (1, Operand.tmp 8), (2, Operand.tmp 11)], type := 26, pos := "roll.go:88", after := #[{ on := 2, ground := Ground.data }, { on := 5, ground := Ground.data }, { on := 8, ground := Ground.data }], guard := none }) (v := (.agg #[.slice aM nM cM, .slice aI nI cI, .slice aA nA cA])) rfl (by kernel_rfl) (by kernel_rfl) (by kernel_rfl) (by kernel_rfl) (by kernel_rfl) (fun _ _ _ h => h) (Cls.and (Cls.and (Cls.and (BL.cls W) (fun _ _ h hb => OwnR.below h hb)) (fun _ _ h hb => OwnR.below h hb)) (fun _ _ h hb => OwnR.below h hb)) ?_ ?_
 ·
  refine Or.inl ⟨rfl, fun w hSw => ?_⟩
  exact EffR.same (by go_simp)
 try simp only [Act.put, zA, zB, zC]
 refine wpAnyU_last (o := { dst := none, op := Op.store 26 (Operand.tmp 2) (Operand.tmp 12), type := 0, pos := "roll.go:88", after := #[{ on := 9, ground := Ground.data }, { on := 8, ground := Ground.chain }, { on := 0, ground := Ground.phase }, { on := 1, ground := Ground.phase }, { on := 2, ground := Ground.phase }, { on := 3, ground := Ground.phase }, { on := 4, ground := Ground.phase }, { on := 5, ground := Ground.phase }, { on := 6, ground := Ground.phase }, { on := 7, ground := Ground.phase }, { on := 8, ground := Ground.phase }, { on := 9, ground := Ground.phase }], guard := none }) (by kernel_rfl) (by kernel_rfl) rfl (fun w1 hb1 K hK => ?_)
 have hg1 := HG1.out.below hb1.1.1.1
 refine step_store_mid rfl 26 (.tmp 2) (.tmp 12) rfl (w.heap.size + 1) 0 [.slice aM nM cM, .slice aI nI cI, .slice aA nA cA] rfl rfl (fun j hj => ⟨hg1.isSome (by simpa using hj), hg1.frozen _⟩) (by rw [rol_sz]; rfl) (by simp [Value.oneCell']) ?_
 have hput := hg1.puts (o := 0) (vs := [.slice aM nM cM, .slice aI nI cI, .slice aA nA cA]) (by simp)
 rw [splice_all (by simp)] at hput
 have HPUT := Lib.hid hput
 have hk9 := setCells_kept (w.heap.size + 1) [.slice aM nM cM, .slice aI nI cI, .slice aA nA cA] 0 w1
 have HOWM := Lib.hid (OwnR.keptS hb1.1.1.2 hk9 (fun k h (e : k = w.heap.size + 1) => by have := HGEM.out k h; omega))
 have HOWI := Lib.hid (OwnR.keptS hb1.1.2 hk9 (fun k h (e : k = w.heap.size + 1) => by have := HGEI.out k h; omega))
 have HOWA := Lib.hid (OwnR.keptS hb1.2 hk9 (fun k h (e : k = w.heap.size + 1) => by have := HGEA.out k h; omega))
 have HBF : Hid (Below w.heap.size w (w1.setCells (w.heap.size + 1) 0 [.slice aM nM cM, .slice aI nI cI, .slice aA nA cA])) := Below.puts (bgo HB0.out hb1.1.1.1 HB0.out.size) (by omega) _ _
 obtain ⟨w9, hw9⟩ : ∃ zz, zz = w1.setCells (w.heap.size + 1) 0 [.slice aM nM cM, .slice aI nI cI, .slice aA nA cA] := ⟨_, rfl⟩
 rw [← hw9] at HPUT HBF HOWM HOWI HOWA ⊢
 clear hput hk9 hb1 hw9 hg1
 refine hK.out _ _ ?_
 clear hK K
 try simp only [Act.put]
 go_wp2_with fail
 refine bodyPost_ret (results_ht1 rfl HPUT.out rfl Try.underlying26 rfl rol_sz) rfl ?_
 exact ⟨_, _, _, _, _, _, _, _, _, rfl, ⟨HOWM.out, HOWI.out, HOWA.out⟩, ⟨HPMI.out, HPMA.out, HPIA.out⟩, HBF.out⟩
end Cam
