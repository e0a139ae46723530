import Derived.Test.YtgjiphgehohooaaWdW
import Derived.Test.YtgjiphgehohooaaWdLaw3
import Derived.Test.YtgjiphgehohooaaRefX
import Derived.Deep.RegionHeld3
import Derived.Deep.DeepCutAuto
/- WideOrder. -/
namespace Cam
open Go Go.RowKit Go.Proofs

/-- three wides in blocks, and what was ahead -/
abbrev SO (w : World) (gv gu gx : Nat) (pv qv pu qu px qx : Int) (wx : World) : Prop :=
  (wx.cell? ⟨gv, 0, none⟩ = some (.int .i64 pv) ∧ wx.cell? ⟨gv, 1, none⟩ = some (.int .u64 qv)) ∧ (wx.cell? ⟨gu, 0, none⟩ = some (.int .i64 pu) ∧ wx.cell? ⟨gu, 1, none⟩ = some (.int .u64 qu)) ∧ (wx.cell? ⟨gx, 0, none⟩ = some (.int .i64 px) ∧ wx.cell? ⟨gx, 1, none⟩ = some (.int .u64 qx)) ∧ Below w.heap.size w wx
theorem keepO {w W w1 : World} {gv gu gx : Nat} {pv qv pu qu px qx : Int} (hb : Below W.heap.size W w1) (h : SO w gv gu gx pv qv pu qu px qx W) : SO w gv gu gx pv qv pu qu px qx w1 :=
  ⟨keep2 hb h.1, keep2 hb h.2.1, keep2 hb h.2.2.1, h.2.2.2.next hb⟩
theorem keepO5 {w W w1 : World} {gs gt gv gu gx : Nat} {ps qs pt qt pv qv pu qu px qx : Int} (hb : Below W.heap.size W w1)
    (h : (W.cell? ⟨gs, 0, none⟩ = some (.int .i64 ps) ∧ W.cell? ⟨gs, 1, none⟩ = some (.int .u64 qs)) ∧ (W.cell? ⟨gt, 0, none⟩ = some (.int .i64 pt) ∧ W.cell? ⟨gt, 1, none⟩ = some (.int .u64 qt)) ∧ SO w gv gu gx pv qv pu qu px qx W) :
    (w1.cell? ⟨gs, 0, none⟩ = some (.int .i64 ps) ∧ w1.cell? ⟨gs, 1, none⟩ = some (.int .u64 qs)) ∧ (w1.cell? ⟨gt, 0, none⟩ = some (.int .i64 pt) ∧ w1.cell? ⟨gt, 1, none⟩ = some (.int .u64 qt)) ∧ SO w gv gu gx pv qv pu qu px qx w1 :=
  ⟨keep2 hb h.1, keep2 hb h.2.1, keepO hb h.2.2⟩
theorem of_form (n : Int) (hn : -9223372036854775808 ≤ n ∧ n ≤ 9223372036854775807) : ∃ p q, IsW p q n ∧ ∀ w, Calls Try.prog 13 #[.int .i64 n] w fun e w' => e = .returned (.agg #[.int .i64 p, .int .u64 q]) ∧ Below w.heap.size w w' := by
  obtain ⟨p, q, hpq, epq⟩ := wideV_form (v := n) (by rw [isWide_iff]; omega)
  have ti := fun w => Of_any w n hn
  rw [epq] at ti
  exact ⟨p, q, hpq, ti⟩
/-- Sum of two wides in a literal slice -/
theorem sum2_any (x y p q r s : Int) (hx : IsW p q x) (hy : IsW r s y) :
    ∃ m n E, IsW m n (wSum [x, y]) ∧ (E = 0 ∨ E = 1) ∧ (E = 0 → wSum [x, y] = x + y) ∧ ∀ w g, g = w.heap.size → Calls Try.prog 23 #[.slice (some ⟨g, 0, none⟩) 2 2] (w.alloc (.cells #[.int .i64 p, .int .u64 q, .int .i64 r, .int .u64 s] 29)) fun e w' => e = .returned (.tuple #[.agg #[.int .i64 m, .int .u64 n], .int .i64 E]) ∧ Below w.heap.size w w' := by
  obtain ⟨m, n, hmn, emn⟩ := wideV_form (wSum_wide [x, y])
  refine ⟨m, n, wSumE [x, y], hmn, wSumE_cases _, fun h => ?_, fun w g hg => (wSum_any _ _ [x, y] (Ws.lit2 hg x y p q r s hx hy _) ?_).mono ?_⟩
  · rw [(wSum_ok h).1]
    simp [sumI]
  · intro z hz
    simp only [List.mem_cons, List.not_mem_nil, or_false] at hz
    rcases hz with rfl | rfl
    · exact hx.wide
    · exact hy.wide
  · rintro e w' ⟨rfl, hb⟩
    exact ⟨by rw [emn], hb.un⟩

set_option maxRecDepth 100000 in
set_option maxHeartbeats 6400000 in
theorem WideOrder_walk (w : World) (a b pv qv v pu qu u px qx x : Int) (ha : -9223372036854775808 ≤ a ∧ a ≤ 9223372036854775807) (hb : -9223372036854775808 ≤ b ∧ b ≤ 9223372036854775807) (hv : IsW pv qv v) (hu : IsW pu qu u) (hx : IsW px qx x) :
    Calls Try.prog 9 #[.int .i64 a, .int .i64 b, .agg #[.int .i64 pv, .int .u64 qv], .agg #[.int .i64 pu, .int .u64 qu], .agg #[.int .i64 px, .int .u64 qx]] w fun e w' => e = .returned (.bool true) ∧ Below w.heap.size w w' := by
  obtain ⟨pa, qa, hpa, ofA⟩ := of_form a ha
  obtain ⟨pb, qb, hpb, ofB⟩ := of_form b hb
  obtain ⟨ps, qs, E1, hps, hE1, hs1, sm1⟩ := sum2_any v x pv qv px qx hv hx
  obtain ⟨pt, qt, E2, hpt, hE2, hs2, sm2⟩ := sum2_any u x pu qu px qx hu hx
  have lsab := fun w => Less_run w _ _ _ _ _ _ hpa hpb
  have lsvu := fun w => Less_run w _ _ _ _ _ _ hv hu
  have lsuv := fun w => Less_run w _ _ _ _ _ _ hu hv
  have smvu := fun w => same_run w _ _ _ _ _ _ hv hu
  have lsst : E1 = 0 → E2 = 0 → ∀ w, Calls Try.prog 17 #[.agg #[.int .i64 ps, .int .u64 qs], .agg #[.int .i64 pt, .int .u64 qt]] w fun e w' => e = .returned (.bool (decide (v < u))) ∧ Below w.heap.size w w' := by
    intro e1 e2 w
    have := Less_run w _ _ _ _ _ _ hps hpt
    rw [hs1 e1, hs2 e2, show decide (v + x < u + x) = decide (v < u) from decide_eq_decide.2 (by omega)] at this
    exact this
  have int := fun w => wInt_run w _ _ _ hpa
  have ri := fun w => rRight_any w a
  have HI : Hid ((rightB a = true ∧ wIntE a = 0 ∧ wInt a = a) ∨ (rightB a = false ∧ wIntE a = 1)) := by
    show _ ∨ _
    unfold wIntE wInt
    cases rightB a <;> simp
  have hS0' : SO w w.heap.size (w.heap.size + 1) (w.heap.size + 2) pv qv pu qu px qx (((w.alloc (.cells #[.int .i64 pv, .int .u64 qv] 29)).alloc (.cells #[.int .i64 pu, .int .u64 qu] 29)).alloc (.cells #[.int .i64 px, .int .u64 qx] 29)) := by
    have b1 := (Below.refl (w.alloc (.cells #[.int .i64 pv, .int .u64 qv] 29)).heap.size _).alloc (Nat.le_refl _) (.cells #[.int .i64 pu, .int .u64 qu] 29)
    have b2 := (Below.refl ((w.alloc (.cells #[.int .i64 pv, .int .u64 qv] 29)).alloc (.cells #[.int .i64 pu, .int .u64 qu] 29)).heap.size _).alloc (Nat.le_refl _) (.cells #[.int .i64 px, .int .u64 qx] 29)
    refine ⟨keep2 b2 (keep2 b1 (wcell (heap_alloc_new w _))), keep2 b2 ?_, ?_, ?_⟩
    · simp
    · have := wcell (heap_alloc_new ((w.alloc (.cells #[.int .i64 pv, .int .u64 qv] 29)).alloc (.cells #[.int .i64 pu, .int .u64 qu] 29)) (.cells #[.int .i64 px, .int .u64 qx] 29))
      simpa using this
    · exact (((Below.refl _ _).alloc (Nat.le_refl _) _).alloc (by simp) _).alloc (by simp; omega) _
  have Hlt : Hid ((v < u ∧ ¬ u < v ∧ ¬ v = u) ∨ (¬ v < u ∧ u < v ∧ ¬ v = u) ∨ (¬ v < u ∧ ¬ u < v ∧ v = u)) := by show _ ∨ _ ∨ _; omega
  have HS0 := Lib.hid hS0'
  have HE1 := Lib.hid hE1
  have HE2 := Lib.hid hE2
  have LSST := Lib.hid lsst
  clear hS0' ha hb hv hu hx hpa hpb hps hpt hs1 hs2 hE1 hE2 lsst
  go_enter Try.func9, Try.ntmps9
  go_wp2_with fail
  have hS0 := HS0.out
  clear HS0
  generalize hW : ((w.alloc (.cells #[.int .i64 pv, .int .u64 qv] 29)).alloc (.cells #[.int .i64 pu, .int .u64 qu] 29)).alloc (.cells #[.int .i64 px, .int .u64 qx] 29) = W at *
  clear hW
  generalize hgv : w.heap.size = gv at *
  have HGV := Lib.hid hgv
  clear hgv
  go_cut [50] (fun s50 wx => s50 = .bool false ∧ SO w gv (gv + 1) (gv + 2) pv qv pu qu px qx wx)
  case first =>
    have hlt := Hlt.out
    clear sm1 sm2 int ri Hlt
    rcases hlt with ⟨h1, h2, h3⟩ | ⟨h1, h2, h3⟩ | ⟨h1, h2, h3⟩
    · rw [show decide (v < u) = true from decide_eq_true (by omega)] at lsvu
      rw [show decide (u < v) = false from decide_eq_false (by omega)] at lsuv
      rw [show decide (v = u) = false from decide_eq_false (by omega)] at smvu
      clear h1 h2 h3
      refine wp_region_held_drew (S := SO w gv (gv + 1) (gv + 2) pv qv pu qu px qx) (by kernel_rfl) (keepO (Below.refl _ _).drew hS0) (fun hSd => ?_)
      clear hS0
      have hS0 := hSd
      clear hSd
      refine wpAnyH_take (i := 0) (oi := { dst := some 16, op := Op.move (Operand.tmp 0), type := 3, pos := "law.go:83", after := #[], guard := none }) (v := .int .i64 a) rfl (by kernel_rfl) (by kernel_rfl) (by kernel_rfl) (fun _ _ _ h => h) (Or.inl ⟨by rfl, by intro w hSw; go_simp⟩) hS0 ?_
      try simp only [Act.put, List.setIfInBounds_toArray, List.set_cons_zero, List.set_cons_succ]
      refine wpAnyH_take (i := 2) (oi := { dst := some 18, op := Op.move (Operand.tmp 1), type := 3, pos := "law.go:83", after := #[], guard := none }) (v := .int .i64 b) rfl (by kernel_rfl) (by kernel_rfl) (by kernel_rfl) (fun _ _ _ h => h) (Or.inl ⟨by rfl, by intro w hSw; go_simp⟩) hS0 ?_
      try simp only [Act.put, List.setIfInBounds_toArray, List.set_cons_zero, List.set_cons_succ]
      refine wpAnyH_take (i := 5) (oi := { dst := some 21, op := Op.move (Operand.tmp 0), type := 3, pos := "law.go:83", after := #[], guard := none }) (v := .int .i64 a) rfl (by kernel_rfl) (by kernel_rfl) (by kernel_rfl) (fun _ _ _ h => h) (Or.inl ⟨by rfl, by intro w hSw; go_simp⟩) hS0 ?_
      try simp only [Act.put, List.setIfInBounds_toArray, List.set_cons_zero, List.set_cons_succ]
      refine wpAnyH_take (i := 6) (oi := { dst := some 22, op := Op.move (Operand.tmp 1), type := 3, pos := "law.go:83", after := #[], guard := none }) (v := .int .i64 b) rfl (by kernel_rfl) (by kernel_rfl) (by kernel_rfl) (fun _ _ _ h => h) (Or.inl ⟨by rfl, by intro w hSw; go_simp⟩) hS0 ?_
      try simp only [Act.put, List.setIfInBounds_toArray, List.set_cons_zero, List.set_cons_succ]
      refine wpAnyH_take (i := 7) (oi := { dst := some 23, op := Op.binOp BinOp.lss 3 (Operand.tmp 21) (Operand.tmp 22) 3, type := 4, pos := "law.go:83", after := #[{ on := 5, ground := Ground.data }, { on := 6, ground := Ground.data }], guard := none }) (v := .bool (decide (a < b))) rfl (by kernel_rfl) (by kernel_rfl) (by kernel_rfl) (fun _ _ _ h => h) (Or.inl ⟨by rfl, by intro w hSw; go_simp⟩) hS0 ?_
      try simp only [Act.put, List.setIfInBounds_toArray, List.set_cons_zero, List.set_cons_succ]
      refine wpAnyH_ready (rs := [1]) (by kernel_rfl) (by simp) ?_
      refine AllReadyH.cons (o := { dst := some 17, op := Op.call { callee := Callee.value (Operand.func 13), args := #[Operand.tmp 16], argTypes := #[3] }, type := 29, pos := "law.go:83", after := #[{ on := 0, ground := Ground.data }], guard := none }) rfl (fun K hK => ?_) AllReadyH.nil
      go_simp
      go_at_call 13
      (with_reducible refine (ofA _).mono ?_)
      rintro e w1k ⟨rfl, hb1⟩
      have hS1 := keepO hb1 hS0
      clear hb1
      go_simp
      refine hK.out _ _ hS1 (fun _ => ?_)
      clear hK K
      try simp only [Act.put, List.setIfInBounds_toArray, List.set_cons_zero, List.set_cons_succ]
      refine wpAnyH_ready (rs := [3]) (by kernel_rfl) (by simp) ?_
      refine AllReadyH.cons (o := { dst := some 19, op := Op.call { callee := Callee.value (Operand.func 13), args := #[Operand.tmp 18], argTypes := #[3] }, type := 29, pos := "law.go:83", after := #[{ on := 2, ground := Ground.data }, { on := 1, ground := Ground.chain }], guard := none }) rfl (fun K hK => ?_) AllReadyH.nil
      go_simp
      go_at_call 13
      (with_reducible refine (ofB _).mono ?_)
      rintro e w2k ⟨rfl, hb2⟩
      have hS2 := keepO hb2 hS1
      clear hb2
      go_simp
      refine hK.out _ _ hS2 (fun _ => ?_)
      clear hK K
      try simp only [Act.put, List.setIfInBounds_toArray, List.set_cons_zero, List.set_cons_succ]
      refine wpAnyH_ready (rs := [4]) (by kernel_rfl) (by simp) ?_
      refine AllReadyH.cons (o := { dst := some 20, op := Op.call { callee := Callee.value (Operand.func 17), args := #[Operand.tmp 17, Operand.tmp 19], argTypes := #[29, 29] }, type := 4, pos := "law.go:83", after := #[{ on := 1, ground := Ground.data }, { on := 3, ground := Ground.data }, { on := 3, ground := Ground.chain }], guard := none }) rfl (fun K hK => ?_) AllReadyH.nil
      go_simp
      go_at_call 17
      (with_reducible refine (lsab _).mono ?_)
      rintro e w3k ⟨rfl, hb3⟩
      have hS3 := keepO hb3 hS2
      clear hb3
      go_simp
      refine hK.out _ _ hS3 (fun _ => ?_)
      clear hK K
      try simp only [Act.put, List.setIfInBounds_toArray, List.set_cons_zero, List.set_cons_succ]
      refine wpAnyH_take (i := 8) (oi := { dst := some 24, op := Op.binOp BinOp.neq 4 (Operand.tmp 20) (Operand.tmp 23) 4, type := 4, pos := "law.go:83", after := #[{ on := 4, ground := Ground.data }, { on := 7, ground := Ground.data }], guard := none }) (v := .bool false) rfl (by kernel_rfl) (by kernel_rfl) (by kernel_rfl) (fun _ _ _ h => h) (Or.inl ⟨by rfl, by intro w hSw; go_simp⟩) hS3 ?_
      try simp only [Act.put, List.setIfInBounds_toArray, List.set_cons_zero, List.set_cons_succ]
      refine wpAnyH_take (i := 9) (oi := { dst := some 25, op := Op.move (Operand.tmp 24), type := 4, pos := "law.go:83", after := #[{ on := 8, ground := Ground.data }, { on := 4, ground := Ground.chain }], guard := none }) (v := .bool false) rfl (by kernel_rfl) (by kernel_rfl) (by kernel_rfl) (fun _ _ _ h => h) (Or.inl ⟨by rfl, by intro w hSw; go_simp⟩) hS3 ?_
      try simp only [Act.put, List.setIfInBounds_toArray, List.set_cons_zero, List.set_cons_succ]
      refine wpAnyH_take (i := 10) (oi := { dst := some 26, op := Op.load 29 (Operand.tmp 7), type := 29, pos := "law.go:83", after := #[{ on := 9, ground := Ground.guard }], guard := some (9, false) }) (v := .agg #[.int .i64 pv, .int .u64 qv]) rfl (by kernel_rfl) (by kernel_rfl) (by kernel_rfl) (fun _ _ _ h => h) (Or.inl ⟨by rfl, by intro w hSw; obtain ⟨⟨h0, h1⟩, ⟨h2, h3⟩, ⟨h4, h5⟩, _⟩ := hSw; go_simp⟩) hS3 ?_
      try simp only [Act.put, List.setIfInBounds_toArray, List.set_cons_zero, List.set_cons_succ]
      refine wpAnyH_take (i := 11) (oi := { dst := some 27, op := Op.load 29 (Operand.tmp 8), type := 29, pos := "law.go:83", after := #[{ on := 9, ground := Ground.guard }], guard := some (9, false) }) (v := .agg #[.int .i64 pu, .int .u64 qu]) rfl (by kernel_rfl) (by kernel_rfl) (by kernel_rfl) (fun _ _ _ h => h) (Or.inl ⟨by rfl, by intro w hSw; obtain ⟨⟨h0, h1⟩, ⟨h2, h3⟩, ⟨h4, h5⟩, _⟩ := hSw; go_simp⟩) hS3 ?_
      try simp only [Act.put, List.setIfInBounds_toArray, List.set_cons_zero, List.set_cons_succ]
      refine wpAnyH_ready (rs := [12]) (by kernel_rfl) (by simp) ?_
      refine AllReadyH.cons (o := { dst := some 28, op := Op.call { callee := Callee.value (Operand.func 17), args := #[Operand.tmp 26, Operand.tmp 27], argTypes := #[29, 29] }, type := 4, pos := "law.go:83", after := #[{ on := 10, ground := Ground.data }, { on := 11, ground := Ground.data }, { on := 9, ground := Ground.chain }, { on := 9, ground := Ground.guard }], guard := some (9, false) }) rfl (fun K hK => ?_) AllReadyH.nil
      go_simp
      go_at_call 17
      (with_reducible refine (lsvu _).mono ?_)
      rintro e w4k ⟨rfl, hb4⟩
      have hS4 := keepO hb4 hS3
      clear hb4
      go_simp
      refine hK.out _ _ hS4 (fun _ => ?_)
      clear hK K
      try simp only [Act.put, List.setIfInBounds_toArray, List.set_cons_zero, List.set_cons_succ]
      refine wpAnyH_take (i := 13) (oi := { dst := some 29, op := Op.move (Operand.tmp 28), type := 4, pos := "law.go:83", after := #[{ on := 12, ground := Ground.data }, { on := 12, ground := Ground.chain }, { on := 9, ground := Ground.guard }], guard := some (9, false) }) (v := .bool true) rfl (by kernel_rfl) (by kernel_rfl) (by kernel_rfl) (fun _ _ _ h => h) (Or.inl ⟨by rfl, by intro w hSw; go_simp⟩) hS4 ?_
      try simp only [Act.put, List.setIfInBounds_toArray, List.set_cons_zero, List.set_cons_succ]
      refine wpAnyH_take (i := 14) (oi := { dst := some 30, op := Op.load 29 (Operand.tmp 8), type := 29, pos := "law.go:83", after := #[{ on := 13, ground := Ground.guard }], guard := some (13, true) }) (v := .agg #[.int .i64 pu, .int .u64 qu]) rfl (by kernel_rfl) (by kernel_rfl) (by kernel_rfl) (fun _ _ _ h => h) (Or.inl ⟨by rfl, by intro w hSw; obtain ⟨⟨h0, h1⟩, ⟨h2, h3⟩, ⟨h4, h5⟩, _⟩ := hSw; go_simp⟩) hS4 ?_
      try simp only [Act.put, List.setIfInBounds_toArray, List.set_cons_zero, List.set_cons_succ]
      refine wpAnyH_take (i := 15) (oi := { dst := some 31, op := Op.load 29 (Operand.tmp 7), type := 29, pos := "law.go:83", after := #[{ on := 13, ground := Ground.guard }], guard := some (13, true) }) (v := .agg #[.int .i64 pv, .int .u64 qv]) rfl (by kernel_rfl) (by kernel_rfl) (by kernel_rfl) (fun _ _ _ h => h) (Or.inl ⟨by rfl, by intro w hSw; obtain ⟨⟨h0, h1⟩, ⟨h2, h3⟩, ⟨h4, h5⟩, _⟩ := hSw; go_simp⟩) hS4 ?_
      try simp only [Act.put, List.setIfInBounds_toArray, List.set_cons_zero, List.set_cons_succ]
      refine wpAnyH_ready (rs := [16]) (by kernel_rfl) (by simp) ?_
      refine AllReadyH.cons (o := { dst := some 32, op := Op.call { callee := Callee.value (Operand.func 17), args := #[Operand.tmp 30, Operand.tmp 31], argTypes := #[29, 29] }, type := 4, pos := "law.go:83", after := #[{ on := 14, ground := Ground.data }, { on := 15, ground := Ground.data }, { on := 13, ground := Ground.chain }, { on := 13, ground := Ground.guard }], guard := some (13, true) }) rfl (fun K hK => ?_) AllReadyH.nil
      go_simp
      go_at_call 17
      (with_reducible refine (lsuv _).mono ?_)
      rintro e w5k ⟨rfl, hb5⟩
      have hS5 := keepO hb5 hS4
      clear hb5
      go_simp
      refine hK.out _ _ hS5 (fun _ => ?_)
      clear hK K
      try simp only [Act.put, List.setIfInBounds_toArray, List.set_cons_zero, List.set_cons_succ]
      refine wpAnyH_take (i := 17) (oi := { dst := some 33, op := Op.pick (Operand.tmp 29) (Operand.tmp 32) (Operand.const (Value.bool false)), type := 4, pos := "law.go:83", after := #[{ on := 13, ground := Ground.data }, { on := 16, ground := Ground.data }, { on := 9, ground := Ground.guard }], guard := some (9, false) }) (v := .bool false) rfl (by kernel_rfl) (by kernel_rfl) (by kernel_rfl) (fun _ _ _ h => h) (Or.inl ⟨by rfl, by intro w hSw; go_simp⟩) hS5 ?_
      try simp only [Act.put, List.setIfInBounds_toArray, List.set_cons_zero, List.set_cons_succ]
      refine wpAnyH_take (i := 18) (oi := { dst := some 34, op := Op.pick (Operand.tmp 25) (Operand.const (Value.bool true)) (Operand.tmp 33), type := 4, pos := "law.go:83", after := #[{ on := 9, ground := Ground.data }, { on := 17, ground := Ground.data }], guard := none }) (v := .bool false) rfl (by kernel_rfl) (by kernel_rfl) (by kernel_rfl) (fun _ _ _ h => h) (Or.inl ⟨by rfl, by intro w hSw; go_simp⟩) hS5 ?_
      try simp only [Act.put, List.setIfInBounds_toArray, List.set_cons_zero, List.set_cons_succ]
      refine wpAnyH_take (i := 19) (oi := { dst := some 35, op := Op.move (Operand.tmp 34), type := 4, pos := "law.go:83", after := #[{ on := 18, ground := Ground.data }, { on := 16, ground := Ground.chain }], guard := none }) (v := .bool false) rfl (by kernel_rfl) (by kernel_rfl) (by kernel_rfl) (fun _ _ _ h => h) (Or.inl ⟨by rfl, by intro w hSw; go_simp⟩) hS5 ?_
      try simp only [Act.put, List.setIfInBounds_toArray, List.set_cons_zero, List.set_cons_succ]
      refine wpAnyH_take (i := 20) (oi := { dst := some 36, op := Op.load 29 (Operand.tmp 7), type := 29, pos := "law.go:83", after := #[{ on := 19, ground := Ground.guard }], guard := some (19, false) }) (v := .agg #[.int .i64 pv, .int .u64 qv]) rfl (by kernel_rfl) (by kernel_rfl) (by kernel_rfl) (fun _ _ _ h => h) (Or.inl ⟨by rfl, by intro w hSw; obtain ⟨⟨h0, h1⟩, ⟨h2, h3⟩, ⟨h4, h5⟩, _⟩ := hSw; go_simp⟩) hS5 ?_
      try simp only [Act.put, List.setIfInBounds_toArray, List.set_cons_zero, List.set_cons_succ]
      refine wpAnyH_take (i := 21) (oi := { dst := some 37, op := Op.load 29 (Operand.tmp 8), type := 29, pos := "law.go:83", after := #[{ on := 19, ground := Ground.guard }], guard := some (19, false) }) (v := .agg #[.int .i64 pu, .int .u64 qu]) rfl (by kernel_rfl) (by kernel_rfl) (by kernel_rfl) (fun _ _ _ h => h) (Or.inl ⟨by rfl, by intro w hSw; obtain ⟨⟨h0, h1⟩, ⟨h2, h3⟩, ⟨h4, h5⟩, _⟩ := hSw; go_simp⟩) hS5 ?_
      try simp only [Act.put, List.setIfInBounds_toArray, List.set_cons_zero, List.set_cons_succ]
      refine wpAnyH_take (i := 30) (oi := { dst := some 46, op := Op.load 29 (Operand.tmp 7), type := 29, pos := "law.go:83", after := #[{ on := 19, ground := Ground.guard }], guard := some (19, false) }) (v := .agg #[.int .i64 pv, .int .u64 qv]) rfl (by kernel_rfl) (by kernel_rfl) (by kernel_rfl) (fun _ _ _ h => h) (Or.inl ⟨by rfl, by intro w hSw; obtain ⟨⟨h0, h1⟩, ⟨h2, h3⟩, ⟨h4, h5⟩, _⟩ := hSw; go_simp⟩) hS5 ?_
      try simp only [Act.put, List.setIfInBounds_toArray, List.set_cons_zero, List.set_cons_succ]
      refine wpAnyH_take (i := 31) (oi := { dst := some 47, op := Op.load 29 (Operand.tmp 8), type := 29, pos := "law.go:83", after := #[{ on := 19, ground := Ground.guard }], guard := some (19, false) }) (v := .agg #[.int .i64 pu, .int .u64 qu]) rfl (by kernel_rfl) (by kernel_rfl) (by kernel_rfl) (fun _ _ _ h => h) (Or.inl ⟨by rfl, by intro w hSw; obtain ⟨⟨h0, h1⟩, ⟨h2, h3⟩, ⟨h4, h5⟩, _⟩ := hSw; go_simp⟩) hS5 ?_
      try simp only [Act.put, List.setIfInBounds_toArray, List.set_cons_zero, List.set_cons_succ]
      refine wpAnyH_ready (rs := [22]) (by kernel_rfl) (by simp) ?_
      refine AllReadyH.cons (o := { dst := some 38, op := Op.call { callee := Callee.value (Operand.func 17), args := #[Operand.tmp 36, Operand.tmp 37], argTypes := #[29, 29] }, type := 4, pos := "law.go:83", after := #[{ on := 20, ground := Ground.data }, { on := 21, ground := Ground.data }, { on := 19, ground := Ground.chain }, { on := 19, ground := Ground.guard }], guard := some (19, false) }) rfl (fun K hK => ?_) AllReadyH.nil
      go_simp
      go_at_call 17
      (with_reducible refine (lsvu _).mono ?_)
      rintro e w6k ⟨rfl, hb6⟩
      have hS6 := keepO hb6 hS5
      clear hb6
      go_simp
      refine hK.out _ _ hS6 (fun _ => ?_)
      clear hK K
      try simp only [Act.put, List.setIfInBounds_toArray, List.set_cons_zero, List.set_cons_succ]
      refine wpAnyH_take (i := 23) (oi := { dst := some 39, op := Op.unOp UnOp.not 4 (Operand.tmp 38), type := 4, pos := "law.go:83", after := #[{ on := 22, ground := Ground.data }, { on := 19, ground := Ground.guard }], guard := some (19, false) }) (v := .bool false) rfl (by kernel_rfl) (by kernel_rfl) (by kernel_rfl) (fun _ _ _ h => h) (Or.inl ⟨by rfl, by intro w hSw; go_simp⟩) hS6 ?_
      try simp only [Act.put, List.setIfInBounds_toArray, List.set_cons_zero, List.set_cons_succ]
      refine wpAnyH_take (i := 24) (oi := { dst := some 40, op := Op.move (Operand.tmp 39), type := 4, pos := "law.go:83", after := #[{ on := 23, ground := Ground.data }, { on := 22, ground := Ground.chain }, { on := 19, ground := Ground.guard }], guard := some (19, false) }) (v := .bool false) rfl (by kernel_rfl) (by kernel_rfl) (by kernel_rfl) (fun _ _ _ h => h) (Or.inl ⟨by rfl, by intro w hSw; go_simp⟩) hS6 ?_
      try simp only [Act.put, List.setIfInBounds_toArray, List.set_cons_zero, List.set_cons_succ]
      refine wpAnyH_take (i := 25) (oi := { dst := some 41, op := Op.load 29 (Operand.tmp 8), type := 29, pos := "law.go:83", after := #[{ on := 24, ground := Ground.guard }], guard := some (24, true) }) (v := undef) rfl (by kernel_rfl) (by kernel_rfl) (by kernel_rfl) (fun _ _ _ h => h) (Or.inr ⟨by rfl, rfl⟩) hS6 ?_
      try simp only [Act.put, List.setIfInBounds_toArray, List.set_cons_zero, List.set_cons_succ]
      refine wpAnyH_take (i := 26) (oi := { dst := some 42, op := Op.load 29 (Operand.tmp 7), type := 29, pos := "law.go:83", after := #[{ on := 24, ground := Ground.guard }], guard := some (24, true) }) (v := undef) rfl (by kernel_rfl) (by kernel_rfl) (by kernel_rfl) (fun _ _ _ h => h) (Or.inr ⟨by rfl, rfl⟩) hS6 ?_
      try simp only [Act.put, List.setIfInBounds_toArray, List.set_cons_zero, List.set_cons_succ]
      refine wpAnyH_take (i := 27) (oi := { dst := some 43, op := Op.call { callee := Callee.value (Operand.func 17), args := #[Operand.tmp 41, Operand.tmp 42], argTypes := #[29, 29] }, type := 4, pos := "law.go:83", after := #[{ on := 25, ground := Ground.data }, { on := 26, ground := Ground.data }, { on := 24, ground := Ground.chain }, { on := 24, ground := Ground.guard }], guard := some (24, true) }) (v := undef) rfl (by kernel_rfl) (by kernel_rfl) (by kernel_rfl) (fun _ _ _ h => h) (Or.inr ⟨by rfl, rfl⟩) hS6 ?_
      try simp only [Act.put, List.setIfInBounds_toArray, List.set_cons_zero, List.set_cons_succ]
      refine wpAnyH_take (i := 28) (oi := { dst := some 44, op := Op.unOp UnOp.not 4 (Operand.tmp 43), type := 4, pos := "law.go:83", after := #[{ on := 27, ground := Ground.data }, { on := 24, ground := Ground.guard }], guard := some (24, true) }) (v := undef) rfl (by kernel_rfl) (by kernel_rfl) (by kernel_rfl) (fun _ _ _ h => h) (Or.inr ⟨by rfl, rfl⟩) hS6 ?_
      try simp only [Act.put, List.setIfInBounds_toArray, List.set_cons_zero, List.set_cons_succ]
      refine wpAnyH_take (i := 29) (oi := { dst := some 45, op := Op.pick (Operand.tmp 40) (Operand.tmp 44) (Operand.const (Value.bool false)), type := 4, pos := "law.go:83", after := #[{ on := 24, ground := Ground.data }, { on := 28, ground := Ground.data }, { on := 19, ground := Ground.guard }], guard := some (19, false) }) (v := .bool false) rfl (by kernel_rfl) (by kernel_rfl) (by kernel_rfl) (fun _ _ _ h => h) (Or.inl ⟨by rfl, by intro w hSw; go_simp⟩) hS6 ?_
      try simp only [Act.put, List.setIfInBounds_toArray, List.set_cons_zero, List.set_cons_succ]
      refine wpAnyH_ready (rs := [32]) (by kernel_rfl) (by simp) ?_
      refine AllReadyH.cons (o := { dst := some 48, op := Op.call { callee := Callee.value (Operand.func 12), args := #[Operand.tmp 46, Operand.tmp 47], argTypes := #[29, 29] }, type := 4, pos := "law.go:83", after := #[{ on := 30, ground := Ground.data }, { on := 31, ground := Ground.data }, { on := 27, ground := Ground.chain }, { on := 19, ground := Ground.guard }], guard := some (19, false) }) rfl (fun K hK => ?_) AllReadyH.nil
      go_simp
      go_at_call 12
      (with_reducible refine (smvu _).mono ?_)
      rintro e w7k ⟨rfl, hb7⟩
      have hS7 := keepO hb7 hS6
      clear hb7
      go_simp
      refine hK.out _ _ hS7 (fun _ => ?_)
      clear hK K
      try simp only [Act.put, List.setIfInBounds_toArray, List.set_cons_zero, List.set_cons_succ]
      refine wpAnyH_take (i := 33) (oi := { dst := some 49, op := Op.binOp BinOp.neq 4 (Operand.tmp 45) (Operand.tmp 48) 4, type := 4, pos := "law.go:83", after := #[{ on := 29, ground := Ground.data }, { on := 32, ground := Ground.data }, { on := 19, ground := Ground.guard }], guard := some (19, false) }) (v := .bool false) rfl (by kernel_rfl) (by kernel_rfl) (by kernel_rfl) (fun _ _ _ h => h) (Or.inl ⟨by rfl, by intro w hSw; go_simp⟩) hS7 ?_
      try simp only [Act.put, List.setIfInBounds_toArray, List.set_cons_zero, List.set_cons_succ]
      refine wpAnyH_take (i := 34) (oi := { dst := some 50, op := Op.pick (Operand.tmp 35) (Operand.const (Value.bool true)) (Operand.tmp 49), type := 4, pos := "law.go:83", after := #[{ on := 19, ground := Ground.data }, { on := 33, ground := Ground.data }], guard := none }) (v := .bool false) rfl (by kernel_rfl) (by kernel_rfl) (by kernel_rfl) (fun _ _ _ h => h) (Or.inl ⟨by rfl, by intro w hSw; go_simp⟩) hS7 ?_
      try simp only [Act.put, List.setIfInBounds_toArray, List.set_cons_zero, List.set_cons_succ]
      refine wpAnyH_done (by kernel_rfl) ?_ _
      go_wp2_with fail
      go_meet
      exact ⟨rfl, hS7⟩
    · rw [show decide (v < u) = false from decide_eq_false (by omega)] at lsvu
      rw [show decide (u < v) = true from decide_eq_true (by omega)] at lsuv
      rw [show decide (v = u) = false from decide_eq_false (by omega)] at smvu
      clear h1 h2 h3
      refine wp_region_held_drew (S := SO w gv (gv + 1) (gv + 2) pv qv pu qu px qx) (by kernel_rfl) (keepO (Below.refl _ _).drew hS0) (fun hSd => ?_)
      clear hS0
      have hS0 := hSd
      clear hSd
      refine wpAnyH_take (i := 0) (oi := { dst := some 16, op := Op.move (Operand.tmp 0), type := 3, pos := "law.go:83", after := #[], guard := none }) (v := .int .i64 a) rfl (by kernel_rfl) (by kernel_rfl) (by kernel_rfl) (fun _ _ _ h => h) (Or.inl ⟨by rfl, by intro w hSw; go_simp⟩) hS0 ?_
      try simp only [Act.put, List.setIfInBounds_toArray, List.set_cons_zero, List.set_cons_succ]
      refine wpAnyH_take (i := 2) (oi := { dst := some 18, op := Op.move (Operand.tmp 1), type := 3, pos := "law.go:83", after := #[], guard := none }) (v := .int .i64 b) rfl (by kernel_rfl) (by kernel_rfl) (by kernel_rfl) (fun _ _ _ h => h) (Or.inl ⟨by rfl, by intro w hSw; go_simp⟩) hS0 ?_
      try simp only [Act.put, List.setIfInBounds_toArray, List.set_cons_zero, List.set_cons_succ]
      refine wpAnyH_take (i := 5) (oi := { dst := some 21, op := Op.move (Operand.tmp 0), type := 3, pos := "law.go:83", after := #[], guard := none }) (v := .int .i64 a) rfl (by kernel_rfl) (by kernel_rfl) (by kernel_rfl) (fun _ _ _ h => h) (Or.inl ⟨by rfl, by intro w hSw; go_simp⟩) hS0 ?_
      try simp only [Act.put, List.setIfInBounds_toArray, List.set_cons_zero, List.set_cons_succ]
      refine wpAnyH_take (i := 6) (oi := { dst := some 22, op := Op.move (Operand.tmp 1), type := 3, pos := "law.go:83", after := #[], guard := none }) (v := .int .i64 b) rfl (by kernel_rfl) (by kernel_rfl) (by kernel_rfl) (fun _ _ _ h => h) (Or.inl ⟨by rfl, by intro w hSw; go_simp⟩) hS0 ?_
      try simp only [Act.put, List.setIfInBounds_toArray, List.set_cons_zero, List.set_cons_succ]
      refine wpAnyH_take (i := 7) (oi := { dst := some 23, op := Op.binOp BinOp.lss 3 (Operand.tmp 21) (Operand.tmp 22) 3, type := 4, pos := "law.go:83", after := #[{ on := 5, ground := Ground.data }, { on := 6, ground := Ground.data }], guard := none }) (v := .bool (decide (a < b))) rfl (by kernel_rfl) (by kernel_rfl) (by kernel_rfl) (fun _ _ _ h => h) (Or.inl ⟨by rfl, by intro w hSw; go_simp⟩) hS0 ?_
      try simp only [Act.put, List.setIfInBounds_toArray, List.set_cons_zero, List.set_cons_succ]
      refine wpAnyH_ready (rs := [1]) (by kernel_rfl) (by simp) ?_
      refine AllReadyH.cons (o := { dst := some 17, op := Op.call { callee := Callee.value (Operand.func 13), args := #[Operand.tmp 16], argTypes := #[3] }, type := 29, pos := "law.go:83", after := #[{ on := 0, ground := Ground.data }], guard := none }) rfl (fun K hK => ?_) AllReadyH.nil
      go_simp
      go_at_call 13
      (with_reducible refine (ofA _).mono ?_)
      rintro e w1k ⟨rfl, hb1⟩
      have hS1 := keepO hb1 hS0
      clear hb1
      go_simp
      refine hK.out _ _ hS1 (fun _ => ?_)
      clear hK K
      try simp only [Act.put, List.setIfInBounds_toArray, List.set_cons_zero, List.set_cons_succ]
      refine wpAnyH_ready (rs := [3]) (by kernel_rfl) (by simp) ?_
      refine AllReadyH.cons (o := { dst := some 19, op := Op.call { callee := Callee.value (Operand.func 13), args := #[Operand.tmp 18], argTypes := #[3] }, type := 29, pos := "law.go:83", after := #[{ on := 2, ground := Ground.data }, { on := 1, ground := Ground.chain }], guard := none }) rfl (fun K hK => ?_) AllReadyH.nil
      go_simp
      go_at_call 13
      (with_reducible refine (ofB _).mono ?_)
      rintro e w2k ⟨rfl, hb2⟩
      have hS2 := keepO hb2 hS1
      clear hb2
      go_simp
      refine hK.out _ _ hS2 (fun _ => ?_)
      clear hK K
      try simp only [Act.put, List.setIfInBounds_toArray, List.set_cons_zero, List.set_cons_succ]
      refine wpAnyH_ready (rs := [4]) (by kernel_rfl) (by simp) ?_
      refine AllReadyH.cons (o := { dst := some 20, op := Op.call { callee := Callee.value (Operand.func 17), args := #[Operand.tmp 17, Operand.tmp 19], argTypes := #[29, 29] }, type := 4, pos := "law.go:83", after := #[{ on := 1, ground := Ground.data }, { on := 3, ground := Ground.data }, { on := 3, ground := Ground.chain }], guard := none }) rfl (fun K hK => ?_) AllReadyH.nil
      go_simp
      go_at_call 17
      (with_reducible refine (lsab _).mono ?_)
      rintro e w3k ⟨rfl, hb3⟩
      have hS3 := keepO hb3 hS2
      clear hb3
      go_simp
      refine hK.out _ _ hS3 (fun _ => ?_)
      clear hK K
      try simp only [Act.put, List.setIfInBounds_toArray, List.set_cons_zero, List.set_cons_succ]
      refine wpAnyH_take (i := 8) (oi := { dst := some 24, op := Op.binOp BinOp.neq 4 (Operand.tmp 20) (Operand.tmp 23) 4, type := 4, pos := "law.go:83", after := #[{ on := 4, ground := Ground.data }, { on := 7, ground := Ground.data }], guard := none }) (v := .bool false) rfl (by kernel_rfl) (by kernel_rfl) (by kernel_rfl) (fun _ _ _ h => h) (Or.inl ⟨by rfl, by intro w hSw; go_simp⟩) hS3 ?_
      try simp only [Act.put, List.setIfInBounds_toArray, List.set_cons_zero, List.set_cons_succ]
      refine wpAnyH_take (i := 9) (oi := { dst := some 25, op := Op.move (Operand.tmp 24), type := 4, pos := "law.go:83", after := #[{ on := 8, ground := Ground.data }, { on := 4, ground := Ground.chain }], guard := none }) (v := .bool false) rfl (by kernel_rfl) (by kernel_rfl) (by kernel_rfl) (fun _ _ _ h => h) (Or.inl ⟨by rfl, by intro w hSw; go_simp⟩) hS3 ?_
      try simp only [Act.put, List.setIfInBounds_toArray, List.set_cons_zero, List.set_cons_succ]
      refine wpAnyH_take (i := 10) (oi := { dst := some 26, op := Op.load 29 (Operand.tmp 7), type := 29, pos := "law.go:83", after := #[{ on := 9, ground := Ground.guard }], guard := some (9, false) }) (v := .agg #[.int .i64 pv, .int .u64 qv]) rfl (by kernel_rfl) (by kernel_rfl) (by kernel_rfl) (fun _ _ _ h => h) (Or.inl ⟨by rfl, by intro w hSw; obtain ⟨⟨h0, h1⟩, ⟨h2, h3⟩, ⟨h4, h5⟩, _⟩ := hSw; go_simp⟩) hS3 ?_
      try simp only [Act.put, List.setIfInBounds_toArray, List.set_cons_zero, List.set_cons_succ]
      refine wpAnyH_take (i := 11) (oi := { dst := some 27, op := Op.load 29 (Operand.tmp 8), type := 29, pos := "law.go:83", after := #[{ on := 9, ground := Ground.guard }], guard := some (9, false) }) (v := .agg #[.int .i64 pu, .int .u64 qu]) rfl (by kernel_rfl) (by kernel_rfl) (by kernel_rfl) (fun _ _ _ h => h) (Or.inl ⟨by rfl, by intro w hSw; obtain ⟨⟨h0, h1⟩, ⟨h2, h3⟩, ⟨h4, h5⟩, _⟩ := hSw; go_simp⟩) hS3 ?_
      try simp only [Act.put, List.setIfInBounds_toArray, List.set_cons_zero, List.set_cons_succ]
      refine wpAnyH_ready (rs := [12]) (by kernel_rfl) (by simp) ?_
      refine AllReadyH.cons (o := { dst := some 28, op := Op.call { callee := Callee.value (Operand.func 17), args := #[Operand.tmp 26, Operand.tmp 27], argTypes := #[29, 29] }, type := 4, pos := "law.go:83", after := #[{ on := 10, ground := Ground.data }, { on := 11, ground := Ground.data }, { on := 9, ground := Ground.chain }, { on := 9, ground := Ground.guard }], guard := some (9, false) }) rfl (fun K hK => ?_) AllReadyH.nil
      go_simp
      go_at_call 17
      (with_reducible refine (lsvu _).mono ?_)
      rintro e w4k ⟨rfl, hb4⟩
      have hS4 := keepO hb4 hS3
      clear hb4
      go_simp
      refine hK.out _ _ hS4 (fun _ => ?_)
      clear hK K
      try simp only [Act.put, List.setIfInBounds_toArray, List.set_cons_zero, List.set_cons_succ]
      refine wpAnyH_take (i := 13) (oi := { dst := some 29, op := Op.move (Operand.tmp 28), type := 4, pos := "law.go:83", after := #[{ on := 12, ground := Ground.data }, { on := 12, ground := Ground.chain }, { on := 9, ground := Ground.guard }], guard := some (9, false) }) (v := .bool false) rfl (by kernel_rfl) (by kernel_rfl) (by kernel_rfl) (fun _ _ _ h => h) (Or.inl ⟨by rfl, by intro w hSw; go_simp⟩) hS4 ?_
      try simp only [Act.put, List.setIfInBounds_toArray, List.set_cons_zero, List.set_cons_succ]
      refine wpAnyH_take (i := 14) (oi := { dst := some 30, op := Op.load 29 (Operand.tmp 8), type := 29, pos := "law.go:83", after := #[{ on := 13, ground := Ground.guard }], guard := some (13, true) }) (v := undef) rfl (by kernel_rfl) (by kernel_rfl) (by kernel_rfl) (fun _ _ _ h => h) (Or.inr ⟨by rfl, rfl⟩) hS4 ?_
      try simp only [Act.put, List.setIfInBounds_toArray, List.set_cons_zero, List.set_cons_succ]
      refine wpAnyH_take (i := 15) (oi := { dst := some 31, op := Op.load 29 (Operand.tmp 7), type := 29, pos := "law.go:83", after := #[{ on := 13, ground := Ground.guard }], guard := some (13, true) }) (v := undef) rfl (by kernel_rfl) (by kernel_rfl) (by kernel_rfl) (fun _ _ _ h => h) (Or.inr ⟨by rfl, rfl⟩) hS4 ?_
      try simp only [Act.put, List.setIfInBounds_toArray, List.set_cons_zero, List.set_cons_succ]
      refine wpAnyH_take (i := 16) (oi := { dst := some 32, op := Op.call { callee := Callee.value (Operand.func 17), args := #[Operand.tmp 30, Operand.tmp 31], argTypes := #[29, 29] }, type := 4, pos := "law.go:83", after := #[{ on := 14, ground := Ground.data }, { on := 15, ground := Ground.data }, { on := 13, ground := Ground.chain }, { on := 13, ground := Ground.guard }], guard := some (13, true) }) (v := undef) rfl (by kernel_rfl) (by kernel_rfl) (by kernel_rfl) (fun _ _ _ h => h) (Or.inr ⟨by rfl, rfl⟩) hS4 ?_
      try simp only [Act.put, List.setIfInBounds_toArray, List.set_cons_zero, List.set_cons_succ]
      refine wpAnyH_take (i := 17) (oi := { dst := some 33, op := Op.pick (Operand.tmp 29) (Operand.tmp 32) (Operand.const (Value.bool false)), type := 4, pos := "law.go:83", after := #[{ on := 13, ground := Ground.data }, { on := 16, ground := Ground.data }, { on := 9, ground := Ground.guard }], guard := some (9, false) }) (v := .bool false) rfl (by kernel_rfl) (by kernel_rfl) (by kernel_rfl) (fun _ _ _ h => h) (Or.inl ⟨by rfl, by intro w hSw; go_simp⟩) hS4 ?_
      try simp only [Act.put, List.setIfInBounds_toArray, List.set_cons_zero, List.set_cons_succ]
      refine wpAnyH_take (i := 18) (oi := { dst := some 34, op := Op.pick (Operand.tmp 25) (Operand.const (Value.bool true)) (Operand.tmp 33), type := 4, pos := "law.go:83", after := #[{ on := 9, ground := Ground.data }, { on := 17, ground := Ground.data }], guard := none }) (v := .bool false) rfl (by kernel_rfl) (by kernel_rfl) (by kernel_rfl) (fun _ _ _ h => h) (Or.inl ⟨by rfl, by intro w hSw; go_simp⟩) hS4 ?_
      try simp only [Act.put, List.setIfInBounds_toArray, List.set_cons_zero, List.set_cons_succ]
      refine wpAnyH_take (i := 19) (oi := { dst := some 35, op := Op.move (Operand.tmp 34), type := 4, pos := "law.go:83", after := #[{ on := 18, ground := Ground.data }, { on := 16, ground := Ground.chain }], guard := none }) (v := .bool false) rfl (by kernel_rfl) (by kernel_rfl) (by kernel_rfl) (fun _ _ _ h => h) (Or.inl ⟨by rfl, by intro w hSw; go_simp⟩) hS4 ?_
      try simp only [Act.put, List.setIfInBounds_toArray, List.set_cons_zero, List.set_cons_succ]
      refine wpAnyH_take (i := 20) (oi := { dst := some 36, op := Op.load 29 (Operand.tmp 7), type := 29, pos := "law.go:83", after := #[{ on := 19, ground := Ground.guard }], guard := some (19, false) }) (v := .agg #[.int .i64 pv, .int .u64 qv]) rfl (by kernel_rfl) (by kernel_rfl) (by kernel_rfl) (fun _ _ _ h => h) (Or.inl ⟨by rfl, by intro w hSw; obtain ⟨⟨h0, h1⟩, ⟨h2, h3⟩, ⟨h4, h5⟩, _⟩ := hSw; go_simp⟩) hS4 ?_
      try simp only [Act.put, List.setIfInBounds_toArray, List.set_cons_zero, List.set_cons_succ]
      refine wpAnyH_take (i := 21) (oi := { dst := some 37, op := Op.load 29 (Operand.tmp 8), type := 29, pos := "law.go:83", after := #[{ on := 19, ground := Ground.guard }], guard := some (19, false) }) (v := .agg #[.int .i64 pu, .int .u64 qu]) rfl (by kernel_rfl) (by kernel_rfl) (by kernel_rfl) (fun _ _ _ h => h) (Or.inl ⟨by rfl, by intro w hSw; obtain ⟨⟨h0, h1⟩, ⟨h2, h3⟩, ⟨h4, h5⟩, _⟩ := hSw; go_simp⟩) hS4 ?_
      try simp only [Act.put, List.setIfInBounds_toArray, List.set_cons_zero, List.set_cons_succ]
      refine wpAnyH_take (i := 30) (oi := { dst := some 46, op := Op.load 29 (Operand.tmp 7), type := 29, pos := "law.go:83", after := #[{ on := 19, ground := Ground.guard }], guard := some (19, false) }) (v := .agg #[.int .i64 pv, .int .u64 qv]) rfl (by kernel_rfl) (by kernel_rfl) (by kernel_rfl) (fun _ _ _ h => h) (Or.inl ⟨by rfl, by intro w hSw; obtain ⟨⟨h0, h1⟩, ⟨h2, h3⟩, ⟨h4, h5⟩, _⟩ := hSw; go_simp⟩) hS4 ?_
      try simp only [Act.put, List.setIfInBounds_toArray, List.set_cons_zero, List.set_cons_succ]
      refine wpAnyH_take (i := 31) (oi := { dst := some 47, op := Op.load 29 (Operand.tmp 8), type := 29, pos := "law.go:83", after := #[{ on := 19, ground := Ground.guard }], guard := some (19, false) }) (v := .agg #[.int .i64 pu, .int .u64 qu]) rfl (by kernel_rfl) (by kernel_rfl) (by kernel_rfl) (fun _ _ _ h => h) (Or.inl ⟨by rfl, by intro w hSw; obtain ⟨⟨h0, h1⟩, ⟨h2, h3⟩, ⟨h4, h5⟩, _⟩ := hSw; go_simp⟩) hS4 ?_
      try simp only [Act.put, List.setIfInBounds_toArray, List.set_cons_zero, List.set_cons_succ]
      refine wpAnyH_ready (rs := [22]) (by kernel_rfl) (by simp) ?_
      refine AllReadyH.cons (o := { dst := some 38, op := Op.call { callee := Callee.value (Operand.func 17), args := #[Operand.tmp 36, Operand.tmp 37], argTypes := #[29, 29] }, type := 4, pos := "law.go:83", after := #[{ on := 20, ground := Ground.data }, { on := 21, ground := Ground.data }, { on := 19, ground := Ground.chain }, { on := 19, ground := Ground.guard }], guard := some (19, false) }) rfl (fun K hK => ?_) AllReadyH.nil
      go_simp
      go_at_call 17
      (with_reducible refine (lsvu _).mono ?_)
      rintro e w5k ⟨rfl, hb5⟩
      have hS5 := keepO hb5 hS4
      clear hb5
      go_simp
      refine hK.out _ _ hS5 (fun _ => ?_)
      clear hK K
      try simp only [Act.put, List.setIfInBounds_toArray, List.set_cons_zero, List.set_cons_succ]
      refine wpAnyH_take (i := 23) (oi := { dst := some 39, op := Op.unOp UnOp.not 4 (Operand.tmp 38), type := 4, pos := "law.go:83", after := #[{ on := 22, ground := Ground.data }, { on := 19, ground := Ground.guard }], guard := some (19, false) }) (v := .bool true) rfl (by kernel_rfl) (by kernel_rfl) (by kernel_rfl) (fun _ _ _ h => h) (Or.inl ⟨by rfl, by intro w hSw; go_simp⟩) hS5 ?_
      try simp only [Act.put, List.setIfInBounds_toArray, List.set_cons_zero, List.set_cons_succ]
      refine wpAnyH_take (i := 24) (oi := { dst := some 40, op := Op.move (Operand.tmp 39), type := 4, pos := "law.go:83", after := #[{ on := 23, ground := Ground.data }, { on := 22, ground := Ground.chain }, { on := 19, ground := Ground.guard }], guard := some (19, false) }) (v := .bool true) rfl (by kernel_rfl) (by kernel_rfl) (by kernel_rfl) (fun _ _ _ h => h) (Or.inl ⟨by rfl, by intro w hSw; go_simp⟩) hS5 ?_
      try simp only [Act.put, List.setIfInBounds_toArray, List.set_cons_zero, List.set_cons_succ]
      refine wpAnyH_take (i := 25) (oi := { dst := some 41, op := Op.load 29 (Operand.tmp 8), type := 29, pos := "law.go:83", after := #[{ on := 24, ground := Ground.guard }], guard := some (24, true) }) (v := .agg #[.int .i64 pu, .int .u64 qu]) rfl (by kernel_rfl) (by kernel_rfl) (by kernel_rfl) (fun _ _ _ h => h) (Or.inl ⟨by rfl, by intro w hSw; obtain ⟨⟨h0, h1⟩, ⟨h2, h3⟩, ⟨h4, h5⟩, _⟩ := hSw; go_simp⟩) hS5 ?_
      try simp only [Act.put, List.setIfInBounds_toArray, List.set_cons_zero, List.set_cons_succ]
      refine wpAnyH_take (i := 26) (oi := { dst := some 42, op := Op.load 29 (Operand.tmp 7), type := 29, pos := "law.go:83", after := #[{ on := 24, ground := Ground.guard }], guard := some (24, true) }) (v := .agg #[.int .i64 pv, .int .u64 qv]) rfl (by kernel_rfl) (by kernel_rfl) (by kernel_rfl) (fun _ _ _ h => h) (Or.inl ⟨by rfl, by intro w hSw; obtain ⟨⟨h0, h1⟩, ⟨h2, h3⟩, ⟨h4, h5⟩, _⟩ := hSw; go_simp⟩) hS5 ?_
      try simp only [Act.put, List.setIfInBounds_toArray, List.set_cons_zero, List.set_cons_succ]
      refine wpAnyH_ready (rs := [27]) (by kernel_rfl) (by simp) ?_
      refine AllReadyH.cons (o := { dst := some 43, op := Op.call { callee := Callee.value (Operand.func 17), args := #[Operand.tmp 41, Operand.tmp 42], argTypes := #[29, 29] }, type := 4, pos := "law.go:83", after := #[{ on := 25, ground := Ground.data }, { on := 26, ground := Ground.data }, { on := 24, ground := Ground.chain }, { on := 24, ground := Ground.guard }], guard := some (24, true) }) rfl (fun K hK => ?_) AllReadyH.nil
      go_simp
      go_at_call 17
      (with_reducible refine (lsuv _).mono ?_)
      rintro e w6k ⟨rfl, hb6⟩
      have hS6 := keepO hb6 hS5
      clear hb6
      go_simp
      refine hK.out _ _ hS6 (fun _ => ?_)
      clear hK K
      try simp only [Act.put, List.setIfInBounds_toArray, List.set_cons_zero, List.set_cons_succ]
      refine wpAnyH_take (i := 28) (oi := { dst := some 44, op := Op.unOp UnOp.not 4 (Operand.tmp 43), type := 4, pos := "law.go:83", after := #[{ on := 27, ground := Ground.data }, { on := 24, ground := Ground.guard }], guard := some (24, true) }) (v := .bool false) rfl (by kernel_rfl) (by kernel_rfl) (by kernel_rfl) (fun _ _ _ h => h) (Or.inl ⟨by rfl, by intro w hSw; go_simp⟩) hS6 ?_
      try simp only [Act.put, List.setIfInBounds_toArray, List.set_cons_zero, List.set_cons_succ]
      refine wpAnyH_take (i := 29) (oi := { dst := some 45, op := Op.pick (Operand.tmp 40) (Operand.tmp 44) (Operand.const (Value.bool false)), type := 4, pos := "law.go:83", after := #[{ on := 24, ground := Ground.data }, { on := 28, ground := Ground.data }, { on := 19, ground := Ground.guard }], guard := some (19, false) }) (v := .bool false) rfl (by kernel_rfl) (by kernel_rfl) (by kernel_rfl) (fun _ _ _ h => h) (Or.inl ⟨by rfl, by intro w hSw; go_simp⟩) hS6 ?_
      try simp only [Act.put, List.setIfInBounds_toArray, List.set_cons_zero, List.set_cons_succ]
      refine wpAnyH_ready (rs := [32]) (by kernel_rfl) (by simp) ?_
      refine AllReadyH.cons (o := { dst := some 48, op := Op.call { callee := Callee.value (Operand.func 12), args := #[Operand.tmp 46, Operand.tmp 47], argTypes := #[29, 29] }, type := 4, pos := "law.go:83", after := #[{ on := 30, ground := Ground.data }, { on := 31, ground := Ground.data }, { on := 27, ground := Ground.chain }, { on := 19, ground := Ground.guard }], guard := some (19, false) }) rfl (fun K hK => ?_) AllReadyH.nil
      go_simp
      go_at_call 12
      (with_reducible refine (smvu _).mono ?_)
      rintro e w7k ⟨rfl, hb7⟩
      have hS7 := keepO hb7 hS6
      clear hb7
      go_simp
      refine hK.out _ _ hS7 (fun _ => ?_)
      clear hK K
      try simp only [Act.put, List.setIfInBounds_toArray, List.set_cons_zero, List.set_cons_succ]
      refine wpAnyH_take (i := 33) (oi := { dst := some 49, op := Op.binOp BinOp.neq 4 (Operand.tmp 45) (Operand.tmp 48) 4, type := 4, pos := "law.go:83", after := #[{ on := 29, ground := Ground.data }, { on := 32, ground := Ground.data }, { on := 19, ground := Ground.guard }], guard := some (19, false) }) (v := .bool false) rfl (by kernel_rfl) (by kernel_rfl) (by kernel_rfl) (fun _ _ _ h => h) (Or.inl ⟨by rfl, by intro w hSw; go_simp⟩) hS7 ?_
      try simp only [Act.put, List.setIfInBounds_toArray, List.set_cons_zero, List.set_cons_succ]
      refine wpAnyH_take (i := 34) (oi := { dst := some 50, op := Op.pick (Operand.tmp 35) (Operand.const (Value.bool true)) (Operand.tmp 49), type := 4, pos := "law.go:83", after := #[{ on := 19, ground := Ground.data }, { on := 33, ground := Ground.data }], guard := none }) (v := .bool false) rfl (by kernel_rfl) (by kernel_rfl) (by kernel_rfl) (fun _ _ _ h => h) (Or.inl ⟨by rfl, by intro w hSw; go_simp⟩) hS7 ?_
      try simp only [Act.put, List.setIfInBounds_toArray, List.set_cons_zero, List.set_cons_succ]
      refine wpAnyH_done (by kernel_rfl) ?_ _
      go_wp2_with fail
      go_meet
      exact ⟨rfl, hS7⟩
    · rw [show decide (v < u) = false from decide_eq_false (by omega)] at lsvu
      rw [show decide (u < v) = false from decide_eq_false (by omega)] at lsuv
      rw [show decide (v = u) = true from decide_eq_true (by omega)] at smvu
      clear h1 h2 h3
      refine wp_region_held_drew (S := SO w gv (gv + 1) (gv + 2) pv qv pu qu px qx) (by kernel_rfl) (keepO (Below.refl _ _).drew hS0) (fun hSd => ?_)
      clear hS0
      have hS0 := hSd
      clear hSd
      refine wpAnyH_take (i := 0) (oi := { dst := some 16, op := Op.move (Operand.tmp 0), type := 3, pos := "law.go:83", after := #[], guard := none }) (v := .int .i64 a) rfl (by kernel_rfl) (by kernel_rfl) (by kernel_rfl) (fun _ _ _ h => h) (Or.inl ⟨by rfl, by intro w hSw; go_simp⟩) hS0 ?_
      try simp only [Act.put, List.setIfInBounds_toArray, List.set_cons_zero, List.set_cons_succ]
      refine wpAnyH_take (i := 2) (oi := { dst := some 18, op := Op.move (Operand.tmp 1), type := 3, pos := "law.go:83", after := #[], guard := none }) (v := .int .i64 b) rfl (by kernel_rfl) (by kernel_rfl) (by kernel_rfl) (fun _ _ _ h => h) (Or.inl ⟨by rfl, by intro w hSw; go_simp⟩) hS0 ?_
      try simp only [Act.put, List.setIfInBounds_toArray, List.set_cons_zero, List.set_cons_succ]
      refine wpAnyH_take (i := 5) (oi := { dst := some 21, op := Op.move (Operand.tmp 0), type := 3, pos := "law.go:83", after := #[], guard := none }) (v := .int .i64 a) rfl (by kernel_rfl) (by kernel_rfl) (by kernel_rfl) (fun _ _ _ h => h) (Or.inl ⟨by rfl, by intro w hSw; go_simp⟩) hS0 ?_
      try simp only [Act.put, List.setIfInBounds_toArray, List.set_cons_zero, List.set_cons_succ]
      refine wpAnyH_take (i := 6) (oi := { dst := some 22, op := Op.move (Operand.tmp 1), type := 3, pos := "law.go:83", after := #[], guard := none }) (v := .int .i64 b) rfl (by kernel_rfl) (by kernel_rfl) (by kernel_rfl) (fun _ _ _ h => h) (Or.inl ⟨by rfl, by intro w hSw; go_simp⟩) hS0 ?_
      try simp only [Act.put, List.setIfInBounds_toArray, List.set_cons_zero, List.set_cons_succ]
      refine wpAnyH_take (i := 7) (oi := { dst := some 23, op := Op.binOp BinOp.lss 3 (Operand.tmp 21) (Operand.tmp 22) 3, type := 4, pos := "law.go:83", after := #[{ on := 5, ground := Ground.data }, { on := 6, ground := Ground.data }], guard := none }) (v := .bool (decide (a < b))) rfl (by kernel_rfl) (by kernel_rfl) (by kernel_rfl) (fun _ _ _ h => h) (Or.inl ⟨by rfl, by intro w hSw; go_simp⟩) hS0 ?_
      try simp only [Act.put, List.setIfInBounds_toArray, List.set_cons_zero, List.set_cons_succ]
      refine wpAnyH_ready (rs := [1]) (by kernel_rfl) (by simp) ?_
      refine AllReadyH.cons (o := { dst := some 17, op := Op.call { callee := Callee.value (Operand.func 13), args := #[Operand.tmp 16], argTypes := #[3] }, type := 29, pos := "law.go:83", after := #[{ on := 0, ground := Ground.data }], guard := none }) rfl (fun K hK => ?_) AllReadyH.nil
      go_simp
      go_at_call 13
      (with_reducible refine (ofA _).mono ?_)
      rintro e w1k ⟨rfl, hb1⟩
      have hS1 := keepO hb1 hS0
      clear hb1
      go_simp
      refine hK.out _ _ hS1 (fun _ => ?_)
      clear hK K
      try simp only [Act.put, List.setIfInBounds_toArray, List.set_cons_zero, List.set_cons_succ]
      refine wpAnyH_ready (rs := [3]) (by kernel_rfl) (by simp) ?_
      refine AllReadyH.cons (o := { dst := some 19, op := Op.call { callee := Callee.value (Operand.func 13), args := #[Operand.tmp 18], argTypes := #[3] }, type := 29, pos := "law.go:83", after := #[{ on := 2, ground := Ground.data }, { on := 1, ground := Ground.chain }], guard := none }) rfl (fun K hK => ?_) AllReadyH.nil
      go_simp
      go_at_call 13
      (with_reducible refine (ofB _).mono ?_)
      rintro e w2k ⟨rfl, hb2⟩
      have hS2 := keepO hb2 hS1
      clear hb2
      go_simp
      refine hK.out _ _ hS2 (fun _ => ?_)
      clear hK K
      try simp only [Act.put, List.setIfInBounds_toArray, List.set_cons_zero, List.set_cons_succ]
      refine wpAnyH_ready (rs := [4]) (by kernel_rfl) (by simp) ?_
      refine AllReadyH.cons (o := { dst := some 20, op := Op.call { callee := Callee.value (Operand.func 17), args := #[Operand.tmp 17, Operand.tmp 19], argTypes := #[29, 29] }, type := 4, pos := "law.go:83", after := #[{ on := 1, ground := Ground.data }, { on := 3, ground := Ground.data }, { on := 3, ground := Ground.chain }], guard := none }) rfl (fun K hK => ?_) AllReadyH.nil
      go_simp
      go_at_call 17
      (with_reducible refine (lsab _).mono ?_)
      rintro e w3k ⟨rfl, hb3⟩
      have hS3 := keepO hb3 hS2
      clear hb3
      go_simp
      refine hK.out _ _ hS3 (fun _ => ?_)
      clear hK K
      try simp only [Act.put, List.setIfInBounds_toArray, List.set_cons_zero, List.set_cons_succ]
      refine wpAnyH_take (i := 8) (oi := { dst := some 24, op := Op.binOp BinOp.neq 4 (Operand.tmp 20) (Operand.tmp 23) 4, type := 4, pos := "law.go:83", after := #[{ on := 4, ground := Ground.data }, { on := 7, ground := Ground.data }], guard := none }) (v := .bool false) rfl (by kernel_rfl) (by kernel_rfl) (by kernel_rfl) (fun _ _ _ h => h) (Or.inl ⟨by rfl, by intro w hSw; go_simp⟩) hS3 ?_
      try simp only [Act.put, List.setIfInBounds_toArray, List.set_cons_zero, List.set_cons_succ]
      refine wpAnyH_take (i := 9) (oi := { dst := some 25, op := Op.move (Operand.tmp 24), type := 4, pos := "law.go:83", after := #[{ on := 8, ground := Ground.data }, { on := 4, ground := Ground.chain }], guard := none }) (v := .bool false) rfl (by kernel_rfl) (by kernel_rfl) (by kernel_rfl) (fun _ _ _ h => h) (Or.inl ⟨by rfl, by intro w hSw; go_simp⟩) hS3 ?_
      try simp only [Act.put, List.setIfInBounds_toArray, List.set_cons_zero, List.set_cons_succ]
      refine wpAnyH_take (i := 10) (oi := { dst := some 26, op := Op.load 29 (Operand.tmp 7), type := 29, pos := "law.go:83", after := #[{ on := 9, ground := Ground.guard }], guard := some (9, false) }) (v := .agg #[.int .i64 pv, .int .u64 qv]) rfl (by kernel_rfl) (by kernel_rfl) (by kernel_rfl) (fun _ _ _ h => h) (Or.inl ⟨by rfl, by intro w hSw; obtain ⟨⟨h0, h1⟩, ⟨h2, h3⟩, ⟨h4, h5⟩, _⟩ := hSw; go_simp⟩) hS3 ?_
      try simp only [Act.put, List.setIfInBounds_toArray, List.set_cons_zero, List.set_cons_succ]
      refine wpAnyH_take (i := 11) (oi := { dst := some 27, op := Op.load 29 (Operand.tmp 8), type := 29, pos := "law.go:83", after := #[{ on := 9, ground := Ground.guard }], guard := some (9, false) }) (v := .agg #[.int .i64 pu, .int .u64 qu]) rfl (by kernel_rfl) (by kernel_rfl) (by kernel_rfl) (fun _ _ _ h => h) (Or.inl ⟨by rfl, by intro w hSw; obtain ⟨⟨h0, h1⟩, ⟨h2, h3⟩, ⟨h4, h5⟩, _⟩ := hSw; go_simp⟩) hS3 ?_
      try simp only [Act.put, List.setIfInBounds_toArray, List.set_cons_zero, List.set_cons_succ]
      refine wpAnyH_ready (rs := [12]) (by kernel_rfl) (by simp) ?_
      refine AllReadyH.cons (o := { dst := some 28, op := Op.call { callee := Callee.value (Operand.func 17), args := #[Operand.tmp 26, Operand.tmp 27], argTypes := #[29, 29] }, type := 4, pos := "law.go:83", after := #[{ on := 10, ground := Ground.data }, { on := 11, ground := Ground.data }, { on := 9, ground := Ground.chain }, { on := 9, ground := Ground.guard }], guard := some (9, false) }) rfl (fun K hK => ?_) AllReadyH.nil
      go_simp
      go_at_call 17
      (with_reducible refine (lsvu _).mono ?_)
      rintro e w4k ⟨rfl, hb4⟩
      have hS4 := keepO hb4 hS3
      clear hb4
      go_simp
      refine hK.out _ _ hS4 (fun _ => ?_)
      clear hK K
      try simp only [Act.put, List.setIfInBounds_toArray, List.set_cons_zero, List.set_cons_succ]
      refine wpAnyH_take (i := 13) (oi := { dst := some 29, op := Op.move (Operand.tmp 28), type := 4, pos := "law.go:83", after := #[{ on := 12, ground := Ground.data }, { on := 12, ground := Ground.chain }, { on := 9, ground := Ground.guard }], guard := some (9, false) }) (v := .bool false) rfl (by kernel_rfl) (by kernel_rfl) (by kernel_rfl) (fun _ _ _ h => h) (Or.inl ⟨by rfl, by intro w hSw; go_simp⟩) hS4 ?_
      try simp only [Act.put, List.setIfInBounds_toArray, List.set_cons_zero, List.set_cons_succ]
      refine wpAnyH_take (i := 14) (oi := { dst := some 30, op := Op.load 29 (Operand.tmp 8), type := 29, pos := "law.go:83", after := #[{ on := 13, ground := Ground.guard }], guard := some (13, true) }) (v := undef) rfl (by kernel_rfl) (by kernel_rfl) (by kernel_rfl) (fun _ _ _ h => h) (Or.inr ⟨by rfl, rfl⟩) hS4 ?_
      try simp only [Act.put, List.setIfInBounds_toArray, List.set_cons_zero, List.set_cons_succ]
      refine wpAnyH_take (i := 15) (oi := { dst := some 31, op := Op.load 29 (Operand.tmp 7), type := 29, pos := "law.go:83", after := #[{ on := 13, ground := Ground.guard }], guard := some (13, true) }) (v := undef) rfl (by kernel_rfl) (by kernel_rfl) (by kernel_rfl) (fun _ _ _ h => h) (Or.inr ⟨by rfl, rfl⟩) hS4 ?_
      try simp only [Act.put, List.setIfInBounds_toArray, List.set_cons_zero, List.set_cons_succ]
      refine wpAnyH_take (i := 16) (oi := { dst := some 32, op := Op.call { callee := Callee.value (Operand.func 17), args := #[Operand.tmp 30, Operand.tmp 31], argTypes := #[29, 29] }, type := 4, pos := "law.go:83", after := #[{ on := 14, ground := Ground.data }, { on := 15, ground := Ground.data }, { on := 13, ground := Ground.chain }, { on := 13, ground := Ground.guard }], guard := some (13, true) }) (v := undef) rfl (by kernel_rfl) (by kernel_rfl) (by kernel_rfl) (fun _ _ _ h => h) (Or.inr ⟨by rfl, rfl⟩) hS4 ?_
      try simp only [Act.put, List.setIfInBounds_toArray, List.set_cons_zero, List.set_cons_succ]
      refine wpAnyH_take (i := 17) (oi := { dst := some 33, op := Op.pick (Operand.tmp 29) (Operand.tmp 32) (Operand.const (Value.bool false)), type := 4, pos := "law.go:83", after := #[{ on := 13, ground := Ground.data }, { on := 16, ground := Ground.data }, { on := 9, ground := Ground.guard }], guard := some (9, false) }) (v := .bool false) rfl (by kernel_rfl) (by kernel_rfl) (by kernel_rfl) (fun _ _ _ h => h) (Or.inl ⟨by rfl, by intro w hSw; go_simp⟩) hS4 ?_
      try simp only [Act.put, List.setIfInBounds_toArray, List.set_cons_zero, List.set_cons_succ]
      refine wpAnyH_take (i := 18) (oi := { dst := some 34, op := Op.pick (Operand.tmp 25) (Operand.const (Value.bool true)) (Operand.tmp 33), type := 4, pos := "law.go:83", after := #[{ on := 9, ground := Ground.data }, { on := 17, ground := Ground.data }], guard := none }) (v := .bool false) rfl (by kernel_rfl) (by kernel_rfl) (by kernel_rfl) (fun _ _ _ h => h) (Or.inl ⟨by rfl, by intro w hSw; go_simp⟩) hS4 ?_
      try simp only [Act.put, List.setIfInBounds_toArray, List.set_cons_zero, List.set_cons_succ]
      refine wpAnyH_take (i := 19) (oi := { dst := some 35, op := Op.move (Operand.tmp 34), type := 4, pos := "law.go:83", after := #[{ on := 18, ground := Ground.data }, { on := 16, ground := Ground.chain }], guard := none }) (v := .bool false) rfl (by kernel_rfl) (by kernel_rfl) (by kernel_rfl) (fun _ _ _ h => h) (Or.inl ⟨by rfl, by intro w hSw; go_simp⟩) hS4 ?_
      try simp only [Act.put, List.setIfInBounds_toArray, List.set_cons_zero, List.set_cons_succ]
      refine wpAnyH_take (i := 20) (oi := { dst := some 36, op := Op.load 29 (Operand.tmp 7), type := 29, pos := "law.go:83", after := #[{ on := 19, ground := Ground.guard }], guard := some (19, false) }) (v := .agg #[.int .i64 pv, .int .u64 qv]) rfl (by kernel_rfl) (by kernel_rfl) (by kernel_rfl) (fun _ _ _ h => h) (Or.inl ⟨by rfl, by intro w hSw; obtain ⟨⟨h0, h1⟩, ⟨h2, h3⟩, ⟨h4, h5⟩, _⟩ := hSw; go_simp⟩) hS4 ?_
      try simp only [Act.put, List.setIfInBounds_toArray, List.set_cons_zero, List.set_cons_succ]
      refine wpAnyH_take (i := 21) (oi := { dst := some 37, op := Op.load 29 (Operand.tmp 8), type := 29, pos := "law.go:83", after := #[{ on := 19, ground := Ground.guard }], guard := some (19, false) }) (v := .agg #[.int .i64 pu, .int .u64 qu]) rfl (by kernel_rfl) (by kernel_rfl) (by kernel_rfl) (fun _ _ _ h => h) (Or.inl ⟨by rfl, by intro w hSw; obtain ⟨⟨h0, h1⟩, ⟨h2, h3⟩, ⟨h4, h5⟩, _⟩ := hSw; go_simp⟩) hS4 ?_
      try simp only [Act.put, List.setIfInBounds_toArray, List.set_cons_zero, List.set_cons_succ]
      refine wpAnyH_take (i := 30) (oi := { dst := some 46, op := Op.load 29 (Operand.tmp 7), type := 29, pos := "law.go:83", after := #[{ on := 19, ground := Ground.guard }], guard := some (19, false) }) (v := .agg #[.int .i64 pv, .int .u64 qv]) rfl (by kernel_rfl) (by kernel_rfl) (by kernel_rfl) (fun _ _ _ h => h) (Or.inl ⟨by rfl, by intro w hSw; obtain ⟨⟨h0, h1⟩, ⟨h2, h3⟩, ⟨h4, h5⟩, _⟩ := hSw; go_simp⟩) hS4 ?_
      try simp only [Act.put, List.setIfInBounds_toArray, List.set_cons_zero, List.set_cons_succ]
      refine wpAnyH_take (i := 31) (oi := { dst := some 47, op := Op.load 29 (Operand.tmp 8), type := 29, pos := "law.go:83", after := #[{ on := 19, ground := Ground.guard }], guard := some (19, false) }) (v := .agg #[.int .i64 pu, .int .u64 qu]) rfl (by kernel_rfl) (by kernel_rfl) (by kernel_rfl) (fun _ _ _ h => h) (Or.inl ⟨by rfl, by intro w hSw; obtain ⟨⟨h0, h1⟩, ⟨h2, h3⟩, ⟨h4, h5⟩, _⟩ := hSw; go_simp⟩) hS4 ?_
      try simp only [Act.put, List.setIfInBounds_toArray, List.set_cons_zero, List.set_cons_succ]
      refine wpAnyH_ready (rs := [22]) (by kernel_rfl) (by simp) ?_
      refine AllReadyH.cons (o := { dst := some 38, op := Op.call { callee := Callee.value (Operand.func 17), args := #[Operand.tmp 36, Operand.tmp 37], argTypes := #[29, 29] }, type := 4, pos := "law.go:83", after := #[{ on := 20, ground := Ground.data }, { on := 21, ground := Ground.data }, { on := 19, ground := Ground.chain }, { on := 19, ground := Ground.guard }], guard := some (19, false) }) rfl (fun K hK => ?_) AllReadyH.nil
      go_simp
      go_at_call 17
      (with_reducible refine (lsvu _).mono ?_)
      rintro e w5k ⟨rfl, hb5⟩
      have hS5 := keepO hb5 hS4
      clear hb5
      go_simp
      refine hK.out _ _ hS5 (fun _ => ?_)
      clear hK K
      try simp only [Act.put, List.setIfInBounds_toArray, List.set_cons_zero, List.set_cons_succ]
      refine wpAnyH_take (i := 23) (oi := { dst := some 39, op := Op.unOp UnOp.not 4 (Operand.tmp 38), type := 4, pos := "law.go:83", after := #[{ on := 22, ground := Ground.data }, { on := 19, ground := Ground.guard }], guard := some (19, false) }) (v := .bool true) rfl (by kernel_rfl) (by kernel_rfl) (by kernel_rfl) (fun _ _ _ h => h) (Or.inl ⟨by rfl, by intro w hSw; go_simp⟩) hS5 ?_
      try simp only [Act.put, List.setIfInBounds_toArray, List.set_cons_zero, List.set_cons_succ]
      refine wpAnyH_take (i := 24) (oi := { dst := some 40, op := Op.move (Operand.tmp 39), type := 4, pos := "law.go:83", after := #[{ on := 23, ground := Ground.data }, { on := 22, ground := Ground.chain }, { on := 19, ground := Ground.guard }], guard := some (19, false) }) (v := .bool true) rfl (by kernel_rfl) (by kernel_rfl) (by kernel_rfl) (fun _ _ _ h => h) (Or.inl ⟨by rfl, by intro w hSw; go_simp⟩) hS5 ?_
      try simp only [Act.put, List.setIfInBounds_toArray, List.set_cons_zero, List.set_cons_succ]
      refine wpAnyH_take (i := 25) (oi := { dst := some 41, op := Op.load 29 (Operand.tmp 8), type := 29, pos := "law.go:83", after := #[{ on := 24, ground := Ground.guard }], guard := some (24, true) }) (v := .agg #[.int .i64 pu, .int .u64 qu]) rfl (by kernel_rfl) (by kernel_rfl) (by kernel_rfl) (fun _ _ _ h => h) (Or.inl ⟨by rfl, by intro w hSw; obtain ⟨⟨h0, h1⟩, ⟨h2, h3⟩, ⟨h4, h5⟩, _⟩ := hSw; go_simp⟩) hS5 ?_
      try simp only [Act.put, List.setIfInBounds_toArray, List.set_cons_zero, List.set_cons_succ]
      refine wpAnyH_take (i := 26) (oi := { dst := some 42, op := Op.load 29 (Operand.tmp 7), type := 29, pos := "law.go:83", after := #[{ on := 24, ground := Ground.guard }], guard := some (24, true) }) (v := .agg #[.int .i64 pv, .int .u64 qv]) rfl (by kernel_rfl) (by kernel_rfl) (by kernel_rfl) (fun _ _ _ h => h) (Or.inl ⟨by rfl, by intro w hSw; obtain ⟨⟨h0, h1⟩, ⟨h2, h3⟩, ⟨h4, h5⟩, _⟩ := hSw; go_simp⟩) hS5 ?_
      try simp only [Act.put, List.setIfInBounds_toArray, List.set_cons_zero, List.set_cons_succ]
      refine wpAnyH_ready (rs := [27]) (by kernel_rfl) (by simp) ?_
      refine AllReadyH.cons (o := { dst := some 43, op := Op.call { callee := Callee.value (Operand.func 17), args := #[Operand.tmp 41, Operand.tmp 42], argTypes := #[29, 29] }, type := 4, pos := "law.go:83", after := #[{ on := 25, ground := Ground.data }, { on := 26, ground := Ground.data }, { on := 24, ground := Ground.chain }, { on := 24, ground := Ground.guard }], guard := some (24, true) }) rfl (fun K hK => ?_) AllReadyH.nil
      go_simp
      go_at_call 17
      (with_reducible refine (lsuv _).mono ?_)
      rintro e w6k ⟨rfl, hb6⟩
      have hS6 := keepO hb6 hS5
      clear hb6
      go_simp
      refine hK.out _ _ hS6 (fun _ => ?_)
      clear hK K
      try simp only [Act.put, List.setIfInBounds_toArray, List.set_cons_zero, List.set_cons_succ]
      refine wpAnyH_take (i := 28) (oi := { dst := some 44, op := Op.unOp UnOp.not 4 (Operand.tmp 43), type := 4, pos := "law.go:83", after := #[{ on := 27, ground := Ground.data }, { on := 24, ground := Ground.guard }], guard := some (24, true) }) (v := .bool true) rfl (by kernel_rfl) (by kernel_rfl) (by kernel_rfl) (fun _ _ _ h => h) (Or.inl ⟨by rfl, by intro w hSw; go_simp⟩) hS6 ?_
      try simp only [Act.put, List.setIfInBounds_toArray, List.set_cons_zero, List.set_cons_succ]
      refine wpAnyH_take (i := 29) (oi := { dst := some 45, op := Op.pick (Operand.tmp 40) (Operand.tmp 44) (Operand.const (Value.bool false)), type := 4, pos := "law.go:83", after := #[{ on := 24, ground := Ground.data }, { on := 28, ground := Ground.data }, { on := 19, ground := Ground.guard }], guard := some (19, false) }) (v := .bool true) rfl (by kernel_rfl) (by kernel_rfl) (by kernel_rfl) (fun _ _ _ h => h) (Or.inl ⟨by rfl, by intro w hSw; go_simp⟩) hS6 ?_
      try simp only [Act.put, List.setIfInBounds_toArray, List.set_cons_zero, List.set_cons_succ]
      refine wpAnyH_ready (rs := [32]) (by kernel_rfl) (by simp) ?_
      refine AllReadyH.cons (o := { dst := some 48, op := Op.call { callee := Callee.value (Operand.func 12), args := #[Operand.tmp 46, Operand.tmp 47], argTypes := #[29, 29] }, type := 4, pos := "law.go:83", after := #[{ on := 30, ground := Ground.data }, { on := 31, ground := Ground.data }, { on := 27, ground := Ground.chain }, { on := 19, ground := Ground.guard }], guard := some (19, false) }) rfl (fun K hK => ?_) AllReadyH.nil
      go_simp
      go_at_call 12
      (with_reducible refine (smvu _).mono ?_)
      rintro e w7k ⟨rfl, hb7⟩
      have hS7 := keepO hb7 hS6
      clear hb7
      go_simp
      refine hK.out _ _ hS7 (fun _ => ?_)
      clear hK K
      try simp only [Act.put, List.setIfInBounds_toArray, List.set_cons_zero, List.set_cons_succ]
      refine wpAnyH_take (i := 33) (oi := { dst := some 49, op := Op.binOp BinOp.neq 4 (Operand.tmp 45) (Operand.tmp 48) 4, type := 4, pos := "law.go:83", after := #[{ on := 29, ground := Ground.data }, { on := 32, ground := Ground.data }, { on := 19, ground := Ground.guard }], guard := some (19, false) }) (v := .bool false) rfl (by kernel_rfl) (by kernel_rfl) (by kernel_rfl) (fun _ _ _ h => h) (Or.inl ⟨by rfl, by intro w hSw; go_simp⟩) hS7 ?_
      try simp only [Act.put, List.setIfInBounds_toArray, List.set_cons_zero, List.set_cons_succ]
      refine wpAnyH_take (i := 34) (oi := { dst := some 50, op := Op.pick (Operand.tmp 35) (Operand.const (Value.bool true)) (Operand.tmp 49), type := 4, pos := "law.go:83", after := #[{ on := 19, ground := Ground.data }, { on := 33, ground := Ground.data }], guard := none }) (v := .bool false) rfl (by kernel_rfl) (by kernel_rfl) (by kernel_rfl) (fun _ _ _ h => h) (Or.inl ⟨by rfl, by intro w hSw; go_simp⟩) hS7 ?_
      try simp only [Act.put, List.setIfInBounds_toArray, List.set_cons_zero, List.set_cons_succ]
      refine wpAnyH_done (by kernel_rfl) ?_ _
      go_wp2_with fail
      go_meet
      exact ⟨rfl, hS7⟩
  case rest =>
    obtain ⟨rfl, hS1⟩ := hcut
    clear hS0 lsab ofB lsuv smvu Hlt
    have hT := hS1
    obtain ⟨⟨h0, h1⟩, ⟨h2, h3⟩, ⟨h4, h5⟩, _⟩ := hT
    go_wp2_with fail
    refine (sm1 _ _ (by simp)).mono ?_
    rintro e w2 ⟨rfl, hb2⟩
    have hS2 := keepO ((Below.refl _ w2).alloc (Nat.le_refl _) (.cells #[.int .i64 ps, .int .u64 qs] 29)) (keepO hb2 hS1)
    have hs2 := wcell (heap_alloc_new w2 (.cells #[.int .i64 ps, .int .u64 qs] 29))
    clear h0 h1 h2 h3 h4 h5 hS1 sm1 hb2
    have hT := hS2
    obtain ⟨⟨h0, h1⟩, ⟨h2, h3⟩, ⟨h4, h5⟩, _⟩ := hT
    go_wp2_with fail
    refine (sm2 _ _ (by simp)).mono ?_
    rintro e w3 ⟨rfl, hb3⟩
    have hb3A := (Below.refl _ w3).alloc (Nat.le_refl _) (.cells #[.int .i64 pt, .int .u64 qt] 29)
    have hS3 := keepO hb3A (keepO hb3 hS2)
    have hs3 := keep2 hb3A (keep2 hb3 hs2)
    have ht3 := wcell (heap_alloc_new w3 (.cells #[.int .i64 pt, .int .u64 qt] 29))
    clear h0 h1 h2 h3 h4 h5 hS2 sm2 hb3 hs2 hb3A
    go_wp2_with fail
    generalize (w3.alloc (.cells #[.int .i64 pt, .int .u64 qt] 29)) = W3 at *
    generalize w3.heap.size = gt at *
    generalize w2.heap.size = gs at *
    go_cut [79] (fun s79 wx => s79 = .bool false ∧ SO w gv (gv + 1) (gv + 2) pv qv pu qu px qx wx)
    case first =>
      have h1 := HE1.out
      have h2 := HE2.out
      clear int ri
      rcases h1 with rfl | rfl
      · rcases h2 with rfl | rfl
        · have lsst := LSST.out rfl rfl
          refine wp_region_held_drew (S := (fun wx => (wx.cell? ⟨gs, 0, none⟩ = some (.int .i64 ps) ∧ wx.cell? ⟨gs, 1, none⟩ = some (.int .u64 qs)) ∧ (wx.cell? ⟨gt, 0, none⟩ = some (.int .i64 pt) ∧ wx.cell? ⟨gt, 1, none⟩ = some (.int .u64 qt)) ∧ SO w gv (gv + 1) (gv + 2) pv qv pu qu px qx wx)) (by kernel_rfl) (keepO5 (Below.refl _ _).drew ⟨hs3, ht3, hS3⟩) (fun hSd => ?_)
          clear hs3 ht3 hS3
          have hS0 := hSd
          clear hSd
          refine wpAnyH_take (i := 0) (oi := { dst := some 65, op := Op.move (Operand.tmp 12), type := 23, pos := "law.go:88", after := #[], guard := none }) (v := .int .i64 0) rfl (by kernel_rfl) (by kernel_rfl) (by kernel_rfl) (fun _ _ _ h => h) (Or.inl ⟨by rfl, by intro w hSw; go_simp⟩) hS0 ?_
          try simp only [Act.put, List.setIfInBounds_toArray, List.set_cons_zero, List.set_cons_succ]
          refine wpAnyH_take (i := 1) (oi := { dst := some 66, op := Op.binOp BinOp.eql 23 (Operand.tmp 65) (Operand.const (Value.int IntKind.i64 0)) 23, type := 4, pos := "law.go:88", after := #[{ on := 0, ground := Ground.data }], guard := none }) (v := .bool true) rfl (by kernel_rfl) (by kernel_rfl) (by kernel_rfl) (fun _ _ _ h => h) (Or.inl ⟨by rfl, by intro w hSw; go_simp⟩) hS0 ?_
          try simp only [Act.put, List.setIfInBounds_toArray, List.set_cons_zero, List.set_cons_succ]
          refine wpAnyH_take (i := 2) (oi := { dst := some 67, op := Op.move (Operand.tmp 66), type := 4, pos := "law.go:88", after := #[{ on := 1, ground := Ground.data }], guard := none }) (v := .bool true) rfl (by kernel_rfl) (by kernel_rfl) (by kernel_rfl) (fun _ _ _ h => h) (Or.inl ⟨by rfl, by intro w hSw; go_simp⟩) hS0 ?_
          try simp only [Act.put, List.setIfInBounds_toArray, List.set_cons_zero, List.set_cons_succ]
          refine wpAnyH_take (i := 3) (oi := { dst := some 68, op := Op.move (Operand.tmp 14), type := 23, pos := "law.go:88", after := #[{ on := 2, ground := Ground.guard }], guard := some (2, true) }) (v := .int .i64 0) rfl (by kernel_rfl) (by kernel_rfl) (by kernel_rfl) (fun _ _ _ h => h) (Or.inl ⟨by rfl, by intro w hSw; go_simp⟩) hS0 ?_
          try simp only [Act.put, List.setIfInBounds_toArray, List.set_cons_zero, List.set_cons_succ]
          refine wpAnyH_take (i := 4) (oi := { dst := some 69, op := Op.binOp BinOp.eql 23 (Operand.tmp 68) (Operand.const (Value.int IntKind.i64 0)) 23, type := 4, pos := "law.go:88", after := #[{ on := 3, ground := Ground.data }, { on := 2, ground := Ground.guard }], guard := some (2, true) }) (v := .bool true) rfl (by kernel_rfl) (by kernel_rfl) (by kernel_rfl) (fun _ _ _ h => h) (Or.inl ⟨by rfl, by intro w hSw; go_simp⟩) hS0 ?_
          try simp only [Act.put, List.setIfInBounds_toArray, List.set_cons_zero, List.set_cons_succ]
          refine wpAnyH_take (i := 5) (oi := { dst := some 70, op := Op.pick (Operand.tmp 67) (Operand.tmp 69) (Operand.const (Value.bool false)), type := 4, pos := "law.go:88", after := #[{ on := 2, ground := Ground.data }, { on := 4, ground := Ground.data }], guard := none }) (v := .bool true) rfl (by kernel_rfl) (by kernel_rfl) (by kernel_rfl) (fun _ _ _ h => h) (Or.inl ⟨by rfl, by intro w hSw; go_simp⟩) hS0 ?_
          try simp only [Act.put, List.setIfInBounds_toArray, List.set_cons_zero, List.set_cons_succ]
          refine wpAnyH_take (i := 6) (oi := { dst := some 71, op := Op.move (Operand.tmp 70), type := 4, pos := "law.go:88", after := #[{ on := 5, ground := Ground.data }, { on := 2, ground := Ground.chain }], guard := none }) (v := .bool true) rfl (by kernel_rfl) (by kernel_rfl) (by kernel_rfl) (fun _ _ _ h => h) (Or.inl ⟨by rfl, by intro w hSw; go_simp⟩) hS0 ?_
          try simp only [Act.put, List.setIfInBounds_toArray, List.set_cons_zero, List.set_cons_succ]
          refine wpAnyH_take (i := 7) (oi := { dst := some 72, op := Op.load 29 (Operand.tmp 11), type := 29, pos := "law.go:88", after := #[{ on := 6, ground := Ground.guard }], guard := some (6, true) }) (v := .agg #[.int .i64 ps, .int .u64 qs]) rfl (by kernel_rfl) (by kernel_rfl) (by kernel_rfl) (fun _ _ _ h => h) (Or.inl ⟨by rfl, by intro w hSw; obtain ⟨⟨g0, g1⟩, ⟨g2, g3⟩, ⟨h0, h1⟩, ⟨h2, h3⟩, ⟨h4, h5⟩, _⟩ := hSw; go_simp⟩) hS0 ?_
          try simp only [Act.put, List.setIfInBounds_toArray, List.set_cons_zero, List.set_cons_succ]
          refine wpAnyH_take (i := 8) (oi := { dst := some 73, op := Op.load 29 (Operand.tmp 13), type := 29, pos := "law.go:88", after := #[{ on := 6, ground := Ground.guard }], guard := some (6, true) }) (v := .agg #[.int .i64 pt, .int .u64 qt]) rfl (by kernel_rfl) (by kernel_rfl) (by kernel_rfl) (fun _ _ _ h => h) (Or.inl ⟨by rfl, by intro w hSw; obtain ⟨⟨g0, g1⟩, ⟨g2, g3⟩, ⟨h0, h1⟩, ⟨h2, h3⟩, ⟨h4, h5⟩, _⟩ := hSw; go_simp⟩) hS0 ?_
          try simp only [Act.put, List.setIfInBounds_toArray, List.set_cons_zero, List.set_cons_succ]
          refine wpAnyH_take (i := 10) (oi := { dst := some 75, op := Op.load 29 (Operand.tmp 7), type := 29, pos := "law.go:88", after := #[{ on := 6, ground := Ground.guard }], guard := some (6, true) }) (v := .agg #[.int .i64 pv, .int .u64 qv]) rfl (by kernel_rfl) (by kernel_rfl) (by kernel_rfl) (fun _ _ _ h => h) (Or.inl ⟨by rfl, by intro w hSw; obtain ⟨⟨g0, g1⟩, ⟨g2, g3⟩, ⟨h0, h1⟩, ⟨h2, h3⟩, ⟨h4, h5⟩, _⟩ := hSw; go_simp⟩) hS0 ?_
          try simp only [Act.put, List.setIfInBounds_toArray, List.set_cons_zero, List.set_cons_succ]
          refine wpAnyH_take (i := 11) (oi := { dst := some 76, op := Op.load 29 (Operand.tmp 8), type := 29, pos := "law.go:88", after := #[{ on := 6, ground := Ground.guard }], guard := some (6, true) }) (v := .agg #[.int .i64 pu, .int .u64 qu]) rfl (by kernel_rfl) (by kernel_rfl) (by kernel_rfl) (fun _ _ _ h => h) (Or.inl ⟨by rfl, by intro w hSw; obtain ⟨⟨g0, g1⟩, ⟨g2, g3⟩, ⟨h0, h1⟩, ⟨h2, h3⟩, ⟨h4, h5⟩, _⟩ := hSw; go_simp⟩) hS0 ?_
          try simp only [Act.put, List.setIfInBounds_toArray, List.set_cons_zero, List.set_cons_succ]
          refine wpAnyH_ready (rs := [9]) (by kernel_rfl) (by simp) ?_
          refine AllReadyH.cons (o := { dst := some 74, op := Op.call { callee := Callee.value (Operand.func 17), args := #[Operand.tmp 72, Operand.tmp 73], argTypes := #[29, 29] }, type := 4, pos := "law.go:88", after := #[{ on := 7, ground := Ground.data }, { on := 8, ground := Ground.data }, { on := 6, ground := Ground.chain }, { on := 6, ground := Ground.guard }], guard := some (6, true) }) rfl (fun K hK => ?_) AllReadyH.nil
          go_simp
          go_at_call 17
          (with_reducible refine (lsst _).mono ?_)
          rintro e w1k ⟨rfl, hb1⟩
          have hS1 := keepO5 hb1 hS0
          clear hb1
          go_simp
          refine hK.out _ _ hS1 (fun _ => ?_)
          clear hK K
          try simp only [Act.put, List.setIfInBounds_toArray, List.set_cons_zero, List.set_cons_succ]
          refine wpAnyH_ready (rs := [12]) (by kernel_rfl) (by simp) ?_
          refine AllReadyH.cons (o := { dst := some 77, op := Op.call { callee := Callee.value (Operand.func 17), args := #[Operand.tmp 75, Operand.tmp 76], argTypes := #[29, 29] }, type := 4, pos := "law.go:88", after := #[{ on := 10, ground := Ground.data }, { on := 11, ground := Ground.data }, { on := 9, ground := Ground.chain }, { on := 6, ground := Ground.guard }], guard := some (6, true) }) rfl (fun K hK => ?_) AllReadyH.nil
          go_simp
          go_at_call 17
          (with_reducible refine (lsvu _).mono ?_)
          rintro e w2k ⟨rfl, hb2⟩
          have hS2 := keepO5 hb2 hS1
          clear hb2
          go_simp
          refine hK.out _ _ hS2 (fun _ => ?_)
          clear hK K
          try simp only [Act.put, List.setIfInBounds_toArray, List.set_cons_zero, List.set_cons_succ]
          refine wpAnyH_take (i := 13) (oi := { dst := some 78, op := Op.binOp BinOp.neq 4 (Operand.tmp 74) (Operand.tmp 77) 4, type := 4, pos := "law.go:88", after := #[{ on := 9, ground := Ground.data }, { on := 12, ground := Ground.data }, { on := 6, ground := Ground.guard }], guard := some (6, true) }) (v := .bool false) rfl (by kernel_rfl) (by kernel_rfl) (by kernel_rfl) (fun _ _ _ h => h) (Or.inl ⟨by rfl, by intro w hSw; go_simp⟩) hS2 ?_
          try simp only [Act.put, List.setIfInBounds_toArray, List.set_cons_zero, List.set_cons_succ]
          refine wpAnyH_take (i := 14) (oi := { dst := some 79, op := Op.pick (Operand.tmp 71) (Operand.tmp 78) (Operand.const (Value.bool false)), type := 4, pos := "law.go:88", after := #[{ on := 6, ground := Ground.data }, { on := 13, ground := Ground.data }], guard := none }) (v := .bool false) rfl (by kernel_rfl) (by kernel_rfl) (by kernel_rfl) (fun _ _ _ h => h) (Or.inl ⟨by rfl, by intro w hSw; go_simp⟩) hS2 ?_
          try simp only [Act.put, List.setIfInBounds_toArray, List.set_cons_zero, List.set_cons_succ]
          refine wpAnyH_done (by kernel_rfl) ?_ _
          go_wp2_with fail
          go_meet
          exact ⟨rfl, hS2.2.2⟩
        · skip
          refine wp_region_held_drew (S := (fun wx => (wx.cell? ⟨gs, 0, none⟩ = some (.int .i64 ps) ∧ wx.cell? ⟨gs, 1, none⟩ = some (.int .u64 qs)) ∧ (wx.cell? ⟨gt, 0, none⟩ = some (.int .i64 pt) ∧ wx.cell? ⟨gt, 1, none⟩ = some (.int .u64 qt)) ∧ SO w gv (gv + 1) (gv + 2) pv qv pu qu px qx wx)) (by kernel_rfl) (keepO5 (Below.refl _ _).drew ⟨hs3, ht3, hS3⟩) (fun hSd => ?_)
          clear hs3 ht3 hS3
          have hS0 := hSd
          clear hSd
          refine wpAnyH_take (i := 0) (oi := { dst := some 65, op := Op.move (Operand.tmp 12), type := 23, pos := "law.go:88", after := #[], guard := none }) (v := .int .i64 0) rfl (by kernel_rfl) (by kernel_rfl) (by kernel_rfl) (fun _ _ _ h => h) (Or.inl ⟨by rfl, by intro w hSw; go_simp⟩) hS0 ?_
          try simp only [Act.put, List.setIfInBounds_toArray, List.set_cons_zero, List.set_cons_succ]
          refine wpAnyH_take (i := 1) (oi := { dst := some 66, op := Op.binOp BinOp.eql 23 (Operand.tmp 65) (Operand.const (Value.int IntKind.i64 0)) 23, type := 4, pos := "law.go:88", after := #[{ on := 0, ground := Ground.data }], guard := none }) (v := .bool true) rfl (by kernel_rfl) (by kernel_rfl) (by kernel_rfl) (fun _ _ _ h => h) (Or.inl ⟨by rfl, by intro w hSw; go_simp⟩) hS0 ?_
          try simp only [Act.put, List.setIfInBounds_toArray, List.set_cons_zero, List.set_cons_succ]
          refine wpAnyH_take (i := 2) (oi := { dst := some 67, op := Op.move (Operand.tmp 66), type := 4, pos := "law.go:88", after := #[{ on := 1, ground := Ground.data }], guard := none }) (v := .bool true) rfl (by kernel_rfl) (by kernel_rfl) (by kernel_rfl) (fun _ _ _ h => h) (Or.inl ⟨by rfl, by intro w hSw; go_simp⟩) hS0 ?_
          try simp only [Act.put, List.setIfInBounds_toArray, List.set_cons_zero, List.set_cons_succ]
          refine wpAnyH_take (i := 3) (oi := { dst := some 68, op := Op.move (Operand.tmp 14), type := 23, pos := "law.go:88", after := #[{ on := 2, ground := Ground.guard }], guard := some (2, true) }) (v := .int .i64 1) rfl (by kernel_rfl) (by kernel_rfl) (by kernel_rfl) (fun _ _ _ h => h) (Or.inl ⟨by rfl, by intro w hSw; go_simp⟩) hS0 ?_
          try simp only [Act.put, List.setIfInBounds_toArray, List.set_cons_zero, List.set_cons_succ]
          refine wpAnyH_take (i := 4) (oi := { dst := some 69, op := Op.binOp BinOp.eql 23 (Operand.tmp 68) (Operand.const (Value.int IntKind.i64 0)) 23, type := 4, pos := "law.go:88", after := #[{ on := 3, ground := Ground.data }, { on := 2, ground := Ground.guard }], guard := some (2, true) }) (v := .bool false) rfl (by kernel_rfl) (by kernel_rfl) (by kernel_rfl) (fun _ _ _ h => h) (Or.inl ⟨by rfl, by intro w hSw; go_simp⟩) hS0 ?_
          try simp only [Act.put, List.setIfInBounds_toArray, List.set_cons_zero, List.set_cons_succ]
          refine wpAnyH_take (i := 5) (oi := { dst := some 70, op := Op.pick (Operand.tmp 67) (Operand.tmp 69) (Operand.const (Value.bool false)), type := 4, pos := "law.go:88", after := #[{ on := 2, ground := Ground.data }, { on := 4, ground := Ground.data }], guard := none }) (v := .bool false) rfl (by kernel_rfl) (by kernel_rfl) (by kernel_rfl) (fun _ _ _ h => h) (Or.inl ⟨by rfl, by intro w hSw; go_simp⟩) hS0 ?_
          try simp only [Act.put, List.setIfInBounds_toArray, List.set_cons_zero, List.set_cons_succ]
          refine wpAnyH_take (i := 6) (oi := { dst := some 71, op := Op.move (Operand.tmp 70), type := 4, pos := "law.go:88", after := #[{ on := 5, ground := Ground.data }, { on := 2, ground := Ground.chain }], guard := none }) (v := .bool false) rfl (by kernel_rfl) (by kernel_rfl) (by kernel_rfl) (fun _ _ _ h => h) (Or.inl ⟨by rfl, by intro w hSw; go_simp⟩) hS0 ?_
          try simp only [Act.put, List.setIfInBounds_toArray, List.set_cons_zero, List.set_cons_succ]
          refine wpAnyH_take (i := 7) (oi := { dst := some 72, op := Op.load 29 (Operand.tmp 11), type := 29, pos := "law.go:88", after := #[{ on := 6, ground := Ground.guard }], guard := some (6, true) }) (v := undef) rfl (by kernel_rfl) (by kernel_rfl) (by kernel_rfl) (fun _ _ _ h => h) (Or.inr ⟨by rfl, rfl⟩) hS0 ?_
          try simp only [Act.put, List.setIfInBounds_toArray, List.set_cons_zero, List.set_cons_succ]
          refine wpAnyH_take (i := 8) (oi := { dst := some 73, op := Op.load 29 (Operand.tmp 13), type := 29, pos := "law.go:88", after := #[{ on := 6, ground := Ground.guard }], guard := some (6, true) }) (v := undef) rfl (by kernel_rfl) (by kernel_rfl) (by kernel_rfl) (fun _ _ _ h => h) (Or.inr ⟨by rfl, rfl⟩) hS0 ?_
          try simp only [Act.put, List.setIfInBounds_toArray, List.set_cons_zero, List.set_cons_succ]
          refine wpAnyH_take (i := 9) (oi := { dst := some 74, op := Op.call { callee := Callee.value (Operand.func 17), args := #[Operand.tmp 72, Operand.tmp 73], argTypes := #[29, 29] }, type := 4, pos := "law.go:88", after := #[{ on := 7, ground := Ground.data }, { on := 8, ground := Ground.data }, { on := 6, ground := Ground.chain }, { on := 6, ground := Ground.guard }], guard := some (6, true) }) (v := undef) rfl (by kernel_rfl) (by kernel_rfl) (by kernel_rfl) (fun _ _ _ h => h) (Or.inr ⟨by rfl, rfl⟩) hS0 ?_
          try simp only [Act.put, List.setIfInBounds_toArray, List.set_cons_zero, List.set_cons_succ]
          refine wpAnyH_take (i := 10) (oi := { dst := some 75, op := Op.load 29 (Operand.tmp 7), type := 29, pos := "law.go:88", after := #[{ on := 6, ground := Ground.guard }], guard := some (6, true) }) (v := undef) rfl (by kernel_rfl) (by kernel_rfl) (by kernel_rfl) (fun _ _ _ h => h) (Or.inr ⟨by rfl, rfl⟩) hS0 ?_
          try simp only [Act.put, List.setIfInBounds_toArray, List.set_cons_zero, List.set_cons_succ]
          refine wpAnyH_take (i := 11) (oi := { dst := some 76, op := Op.load 29 (Operand.tmp 8), type := 29, pos := "law.go:88", after := #[{ on := 6, ground := Ground.guard }], guard := some (6, true) }) (v := undef) rfl (by kernel_rfl) (by kernel_rfl) (by kernel_rfl) (fun _ _ _ h => h) (Or.inr ⟨by rfl, rfl⟩) hS0 ?_
          try simp only [Act.put, List.setIfInBounds_toArray, List.set_cons_zero, List.set_cons_succ]
          refine wpAnyH_take (i := 12) (oi := { dst := some 77, op := Op.call { callee := Callee.value (Operand.func 17), args := #[Operand.tmp 75, Operand.tmp 76], argTypes := #[29, 29] }, type := 4, pos := "law.go:88", after := #[{ on := 10, ground := Ground.data }, { on := 11, ground := Ground.data }, { on := 9, ground := Ground.chain }, { on := 6, ground := Ground.guard }], guard := some (6, true) }) (v := undef) rfl (by kernel_rfl) (by kernel_rfl) (by kernel_rfl) (fun _ _ _ h => h) (Or.inr ⟨by rfl, rfl⟩) hS0 ?_
          try simp only [Act.put, List.setIfInBounds_toArray, List.set_cons_zero, List.set_cons_succ]
          refine wpAnyH_take (i := 13) (oi := { dst := some 78, op := Op.binOp BinOp.neq 4 (Operand.tmp 74) (Operand.tmp 77) 4, type := 4, pos := "law.go:88", after := #[{ on := 9, ground := Ground.data }, { on := 12, ground := Ground.data }, { on := 6, ground := Ground.guard }], guard := some (6, true) }) (v := undef) rfl (by kernel_rfl) (by kernel_rfl) (by kernel_rfl) (fun _ _ _ h => h) (Or.inr ⟨by rfl, rfl⟩) hS0 ?_
          try simp only [Act.put, List.setIfInBounds_toArray, List.set_cons_zero, List.set_cons_succ]
          refine wpAnyH_take (i := 14) (oi := { dst := some 79, op := Op.pick (Operand.tmp 71) (Operand.tmp 78) (Operand.const (Value.bool false)), type := 4, pos := "law.go:88", after := #[{ on := 6, ground := Ground.data }, { on := 13, ground := Ground.data }], guard := none }) (v := .bool false) rfl (by kernel_rfl) (by kernel_rfl) (by kernel_rfl) (fun _ _ _ h => h) (Or.inl ⟨by rfl, by intro w hSw; go_simp⟩) hS0 ?_
          try simp only [Act.put, List.setIfInBounds_toArray, List.set_cons_zero, List.set_cons_succ]
          refine wpAnyH_done (by kernel_rfl) ?_ _
          go_wp2_with fail
          go_meet
          exact ⟨rfl, hS0.2.2⟩
      · rcases h2 with rfl | rfl
        · skip
          refine wp_region_held_drew (S := (fun wx => (wx.cell? ⟨gs, 0, none⟩ = some (.int .i64 ps) ∧ wx.cell? ⟨gs, 1, none⟩ = some (.int .u64 qs)) ∧ (wx.cell? ⟨gt, 0, none⟩ = some (.int .i64 pt) ∧ wx.cell? ⟨gt, 1, none⟩ = some (.int .u64 qt)) ∧ SO w gv (gv + 1) (gv + 2) pv qv pu qu px qx wx)) (by kernel_rfl) (keepO5 (Below.refl _ _).drew ⟨hs3, ht3, hS3⟩) (fun hSd => ?_)
          clear hs3 ht3 hS3
          have hS0 := hSd
          clear hSd
          refine wpAnyH_take (i := 0) (oi := { dst := some 65, op := Op.move (Operand.tmp 12), type := 23, pos := "law.go:88", after := #[], guard := none }) (v := .int .i64 1) rfl (by kernel_rfl) (by kernel_rfl) (by kernel_rfl) (fun _ _ _ h => h) (Or.inl ⟨by rfl, by intro w hSw; go_simp⟩) hS0 ?_
          try simp only [Act.put, List.setIfInBounds_toArray, List.set_cons_zero, List.set_cons_succ]
          refine wpAnyH_take (i := 1) (oi := { dst := some 66, op := Op.binOp BinOp.eql 23 (Operand.tmp 65) (Operand.const (Value.int IntKind.i64 0)) 23, type := 4, pos := "law.go:88", after := #[{ on := 0, ground := Ground.data }], guard := none }) (v := .bool false) rfl (by kernel_rfl) (by kernel_rfl) (by kernel_rfl) (fun _ _ _ h => h) (Or.inl ⟨by rfl, by intro w hSw; go_simp⟩) hS0 ?_
          try simp only [Act.put, List.setIfInBounds_toArray, List.set_cons_zero, List.set_cons_succ]
          refine wpAnyH_take (i := 2) (oi := { dst := some 67, op := Op.move (Operand.tmp 66), type := 4, pos := "law.go:88", after := #[{ on := 1, ground := Ground.data }], guard := none }) (v := .bool false) rfl (by kernel_rfl) (by kernel_rfl) (by kernel_rfl) (fun _ _ _ h => h) (Or.inl ⟨by rfl, by intro w hSw; go_simp⟩) hS0 ?_
          try simp only [Act.put, List.setIfInBounds_toArray, List.set_cons_zero, List.set_cons_succ]
          refine wpAnyH_take (i := 3) (oi := { dst := some 68, op := Op.move (Operand.tmp 14), type := 23, pos := "law.go:88", after := #[{ on := 2, ground := Ground.guard }], guard := some (2, true) }) (v := undef) rfl (by kernel_rfl) (by kernel_rfl) (by kernel_rfl) (fun _ _ _ h => h) (Or.inr ⟨by rfl, rfl⟩) hS0 ?_
          try simp only [Act.put, List.setIfInBounds_toArray, List.set_cons_zero, List.set_cons_succ]
          refine wpAnyH_take (i := 4) (oi := { dst := some 69, op := Op.binOp BinOp.eql 23 (Operand.tmp 68) (Operand.const (Value.int IntKind.i64 0)) 23, type := 4, pos := "law.go:88", after := #[{ on := 3, ground := Ground.data }, { on := 2, ground := Ground.guard }], guard := some (2, true) }) (v := undef) rfl (by kernel_rfl) (by kernel_rfl) (by kernel_rfl) (fun _ _ _ h => h) (Or.inr ⟨by rfl, rfl⟩) hS0 ?_
          try simp only [Act.put, List.setIfInBounds_toArray, List.set_cons_zero, List.set_cons_succ]
          refine wpAnyH_take (i := 5) (oi := { dst := some 70, op := Op.pick (Operand.tmp 67) (Operand.tmp 69) (Operand.const (Value.bool false)), type := 4, pos := "law.go:88", after := #[{ on := 2, ground := Ground.data }, { on := 4, ground := Ground.data }], guard := none }) (v := .bool false) rfl (by kernel_rfl) (by kernel_rfl) (by kernel_rfl) (fun _ _ _ h => h) (Or.inl ⟨by rfl, by intro w hSw; go_simp⟩) hS0 ?_
          try simp only [Act.put, List.setIfInBounds_toArray, List.set_cons_zero, List.set_cons_succ]
          refine wpAnyH_take (i := 6) (oi := { dst := some 71, op := Op.move (Operand.tmp 70), type := 4, pos := "law.go:88", after := #[{ on := 5, ground := Ground.data }, { on := 2, ground := Ground.chain }], guard := none }) (v := .bool false) rfl (by kernel_rfl) (by kernel_rfl) (by kernel_rfl) (fun _ _ _ h => h) (Or.inl ⟨by rfl, by intro w hSw; go_simp⟩) hS0 ?_
          try simp only [Act.put, List.setIfInBounds_toArray, List.set_cons_zero, List.set_cons_succ]
          refine wpAnyH_take (i := 7) (oi := { dst := some 72, op := Op.load 29 (Operand.tmp 11), type := 29, pos := "law.go:88", after := #[{ on := 6, ground := Ground.guard }], guard := some (6, true) }) (v := undef) rfl (by kernel_rfl) (by kernel_rfl) (by kernel_rfl) (fun _ _ _ h => h) (Or.inr ⟨by rfl, rfl⟩) hS0 ?_
          try simp only [Act.put, List.setIfInBounds_toArray, List.set_cons_zero, List.set_cons_succ]
          refine wpAnyH_take (i := 8) (oi := { dst := some 73, op := Op.load 29 (Operand.tmp 13), type := 29, pos := "law.go:88", after := #[{ on := 6, ground := Ground.guard }], guard := some (6, true) }) (v := undef) rfl (by kernel_rfl) (by kernel_rfl) (by kernel_rfl) (fun _ _ _ h => h) (Or.inr ⟨by rfl, rfl⟩) hS0 ?_
          try simp only [Act.put, List.setIfInBounds_toArray, List.set_cons_zero, List.set_cons_succ]
          refine wpAnyH_take (i := 9) (oi := { dst := some 74, op := Op.call { callee := Callee.value (Operand.func 17), args := #[Operand.tmp 72, Operand.tmp 73], argTypes := #[29, 29] }, type := 4, pos := "law.go:88", after := #[{ on := 7, ground := Ground.data }, { on := 8, ground := Ground.data }, { on := 6, ground := Ground.chain }, { on := 6, ground := Ground.guard }], guard := some (6, true) }) (v := undef) rfl (by kernel_rfl) (by kernel_rfl) (by kernel_rfl) (fun _ _ _ h => h) (Or.inr ⟨by rfl, rfl⟩) hS0 ?_
          try simp only [Act.put, List.setIfInBounds_toArray, List.set_cons_zero, List.set_cons_succ]
          refine wpAnyH_take (i := 10) (oi := { dst := some 75, op := Op.load 29 (Operand.tmp 7), type := 29, pos := "law.go:88", after := #[{ on := 6, ground := Ground.guard }], guard := some (6, true) }) (v := undef) rfl (by kernel_rfl) (by kernel_rfl) (by kernel_rfl) (fun _ _ _ h => h) (Or.inr ⟨by rfl, rfl⟩) hS0 ?_
          try simp only [Act.put, List.setIfInBounds_toArray, List.set_cons_zero, List.set_cons_succ]
          refine wpAnyH_take (i := 11) (oi := { dst := some 76, op := Op.load 29 (Operand.tmp 8), type := 29, pos := "law.go:88", after := #[{ on := 6, ground := Ground.guard }], guard := some (6, true) }) (v := undef) rfl (by kernel_rfl) (by kernel_rfl) (by kernel_rfl) (fun _ _ _ h => h) (Or.inr ⟨by rfl, rfl⟩) hS0 ?_
          try simp only [Act.put, List.setIfInBounds_toArray, List.set_cons_zero, List.set_cons_succ]
          refine wpAnyH_take (i := 12) (oi := { dst := some 77, op := Op.call { callee := Callee.value (Operand.func 17), args := #[Operand.tmp 75, Operand.tmp 76], argTypes := #[29, 29] }, type := 4, pos := "law.go:88", after := #[{ on := 10, ground := Ground.data }, { on := 11, ground := Ground.data }, { on := 9, ground := Ground.chain }, { on := 6, ground := Ground.guard }], guard := some (6, true) }) (v := undef) rfl (by kernel_rfl) (by kernel_rfl) (by kernel_rfl) (fun _ _ _ h => h) (Or.inr ⟨by rfl, rfl⟩) hS0 ?_
          try simp only [Act.put, List.setIfInBounds_toArray, List.set_cons_zero, List.set_cons_succ]
          refine wpAnyH_take (i := 13) (oi := { dst := some 78, op := Op.binOp BinOp.neq 4 (Operand.tmp 74) (Operand.tmp 77) 4, type := 4, pos := "law.go:88", after := #[{ on := 9, ground := Ground.data }, { on := 12, ground := Ground.data }, { on := 6, ground := Ground.guard }], guard := some (6, true) }) (v := undef) rfl (by kernel_rfl) (by kernel_rfl) (by kernel_rfl) (fun _ _ _ h => h) (Or.inr ⟨by rfl, rfl⟩) hS0 ?_
          try simp only [Act.put, List.setIfInBounds_toArray, List.set_cons_zero, List.set_cons_succ]
          refine wpAnyH_take (i := 14) (oi := { dst := some 79, op := Op.pick (Operand.tmp 71) (Operand.tmp 78) (Operand.const (Value.bool false)), type := 4, pos := "law.go:88", after := #[{ on := 6, ground := Ground.data }, { on := 13, ground := Ground.data }], guard := none }) (v := .bool false) rfl (by kernel_rfl) (by kernel_rfl) (by kernel_rfl) (fun _ _ _ h => h) (Or.inl ⟨by rfl, by intro w hSw; go_simp⟩) hS0 ?_
          try simp only [Act.put, List.setIfInBounds_toArray, List.set_cons_zero, List.set_cons_succ]
          refine wpAnyH_done (by kernel_rfl) ?_ _
          go_wp2_with fail
          go_meet
          exact ⟨rfl, hS0.2.2⟩
        · skip
          refine wp_region_held_drew (S := (fun wx => (wx.cell? ⟨gs, 0, none⟩ = some (.int .i64 ps) ∧ wx.cell? ⟨gs, 1, none⟩ = some (.int .u64 qs)) ∧ (wx.cell? ⟨gt, 0, none⟩ = some (.int .i64 pt) ∧ wx.cell? ⟨gt, 1, none⟩ = some (.int .u64 qt)) ∧ SO w gv (gv + 1) (gv + 2) pv qv pu qu px qx wx)) (by kernel_rfl) (keepO5 (Below.refl _ _).drew ⟨hs3, ht3, hS3⟩) (fun hSd => ?_)
          clear hs3 ht3 hS3
          have hS0 := hSd
          clear hSd
          refine wpAnyH_take (i := 0) (oi := { dst := some 65, op := Op.move (Operand.tmp 12), type := 23, pos := "law.go:88", after := #[], guard := none }) (v := .int .i64 1) rfl (by kernel_rfl) (by kernel_rfl) (by kernel_rfl) (fun _ _ _ h => h) (Or.inl ⟨by rfl, by intro w hSw; go_simp⟩) hS0 ?_
          try simp only [Act.put, List.setIfInBounds_toArray, List.set_cons_zero, List.set_cons_succ]
          refine wpAnyH_take (i := 1) (oi := { dst := some 66, op := Op.binOp BinOp.eql 23 (Operand.tmp 65) (Operand.const (Value.int IntKind.i64 0)) 23, type := 4, pos := "law.go:88", after := #[{ on := 0, ground := Ground.data }], guard := none }) (v := .bool false) rfl (by kernel_rfl) (by kernel_rfl) (by kernel_rfl) (fun _ _ _ h => h) (Or.inl ⟨by rfl, by intro w hSw; go_simp⟩) hS0 ?_
          try simp only [Act.put, List.setIfInBounds_toArray, List.set_cons_zero, List.set_cons_succ]
          refine wpAnyH_take (i := 2) (oi := { dst := some 67, op := Op.move (Operand.tmp 66), type := 4, pos := "law.go:88", after := #[{ on := 1, ground := Ground.data }], guard := none }) (v := .bool false) rfl (by kernel_rfl) (by kernel_rfl) (by kernel_rfl) (fun _ _ _ h => h) (Or.inl ⟨by rfl, by intro w hSw; go_simp⟩) hS0 ?_
          try simp only [Act.put, List.setIfInBounds_toArray, List.set_cons_zero, List.set_cons_succ]
          refine wpAnyH_take (i := 3) (oi := { dst := some 68, op := Op.move (Operand.tmp 14), type := 23, pos := "law.go:88", after := #[{ on := 2, ground := Ground.guard }], guard := some (2, true) }) (v := undef) rfl (by kernel_rfl) (by kernel_rfl) (by kernel_rfl) (fun _ _ _ h => h) (Or.inr ⟨by rfl, rfl⟩) hS0 ?_
          try simp only [Act.put, List.setIfInBounds_toArray, List.set_cons_zero, List.set_cons_succ]
          refine wpAnyH_take (i := 4) (oi := { dst := some 69, op := Op.binOp BinOp.eql 23 (Operand.tmp 68) (Operand.const (Value.int IntKind.i64 0)) 23, type := 4, pos := "law.go:88", after := #[{ on := 3, ground := Ground.data }, { on := 2, ground := Ground.guard }], guard := some (2, true) }) (v := undef) rfl (by kernel_rfl) (by kernel_rfl) (by kernel_rfl) (fun _ _ _ h => h) (Or.inr ⟨by rfl, rfl⟩) hS0 ?_
          try simp only [Act.put, List.setIfInBounds_toArray, List.set_cons_zero, List.set_cons_succ]
          refine wpAnyH_take (i := 5) (oi := { dst := some 70, op := Op.pick (Operand.tmp 67) (Operand.tmp 69) (Operand.const (Value.bool false)), type := 4, pos := "law.go:88", after := #[{ on := 2, ground := Ground.data }, { on := 4, ground := Ground.data }], guard := none }) (v := .bool false) rfl (by kernel_rfl) (by kernel_rfl) (by kernel_rfl) (fun _ _ _ h => h) (Or.inl ⟨by rfl, by intro w hSw; go_simp⟩) hS0 ?_
          try simp only [Act.put, List.setIfInBounds_toArray, List.set_cons_zero, List.set_cons_succ]
          refine wpAnyH_take (i := 6) (oi := { dst := some 71, op := Op.move (Operand.tmp 70), type := 4, pos := "law.go:88", after := #[{ on := 5, ground := Ground.data }, { on := 2, ground := Ground.chain }], guard := none }) (v := .bool false) rfl (by kernel_rfl) (by kernel_rfl) (by kernel_rfl) (fun _ _ _ h => h) (Or.inl ⟨by rfl, by intro w hSw; go_simp⟩) hS0 ?_
          try simp only [Act.put, List.setIfInBounds_toArray, List.set_cons_zero, List.set_cons_succ]
          refine wpAnyH_take (i := 7) (oi := { dst := some 72, op := Op.load 29 (Operand.tmp 11), type := 29, pos := "law.go:88", after := #[{ on := 6, ground := Ground.guard }], guard := some (6, true) }) (v := undef) rfl (by kernel_rfl) (by kernel_rfl) (by kernel_rfl) (fun _ _ _ h => h) (Or.inr ⟨by rfl, rfl⟩) hS0 ?_
          try simp only [Act.put, List.setIfInBounds_toArray, List.set_cons_zero, List.set_cons_succ]
          refine wpAnyH_take (i := 8) (oi := { dst := some 73, op := Op.load 29 (Operand.tmp 13), type := 29, pos := "law.go:88", after := #[{ on := 6, ground := Ground.guard }], guard := some (6, true) }) (v := undef) rfl (by kernel_rfl) (by kernel_rfl) (by kernel_rfl) (fun _ _ _ h => h) (Or.inr ⟨by rfl, rfl⟩) hS0 ?_
          try simp only [Act.put, List.setIfInBounds_toArray, List.set_cons_zero, List.set_cons_succ]
          refine wpAnyH_take (i := 9) (oi := { dst := some 74, op := Op.call { callee := Callee.value (Operand.func 17), args := #[Operand.tmp 72, Operand.tmp 73], argTypes := #[29, 29] }, type := 4, pos := "law.go:88", after := #[{ on := 7, ground := Ground.data }, { on := 8, ground := Ground.data }, { on := 6, ground := Ground.chain }, { on := 6, ground := Ground.guard }], guard := some (6, true) }) (v := undef) rfl (by kernel_rfl) (by kernel_rfl) (by kernel_rfl) (fun _ _ _ h => h) (Or.inr ⟨by rfl, rfl⟩) hS0 ?_
          try simp only [Act.put, List.setIfInBounds_toArray, List.set_cons_zero, List.set_cons_succ]
          refine wpAnyH_take (i := 10) (oi := { dst := some 75, op := Op.load 29 (Operand.tmp 7), type := 29, pos := "law.go:88", after := #[{ on := 6, ground := Ground.guard }], guard := some (6, true) }) (v := undef) rfl (by kernel_rfl) (by kernel_rfl) (by kernel_rfl) (fun _ _ _ h => h) (Or.inr ⟨by rfl, rfl⟩) hS0 ?_
          try simp only [Act.put, List.setIfInBounds_toArray, List.set_cons_zero, List.set_cons_succ]
          refine wpAnyH_take (i := 11) (oi := { dst := some 76, op := Op.load 29 (Operand.tmp 8), type := 29, pos := "law.go:88", after := #[{ on := 6, ground := Ground.guard }], guard := some (6, true) }) (v := undef) rfl (by kernel_rfl) (by kernel_rfl) (by kernel_rfl) (fun _ _ _ h => h) (Or.inr ⟨by rfl, rfl⟩) hS0 ?_
          try simp only [Act.put, List.setIfInBounds_toArray, List.set_cons_zero, List.set_cons_succ]
          refine wpAnyH_take (i := 12) (oi := { dst := some 77, op := Op.call { callee := Callee.value (Operand.func 17), args := #[Operand.tmp 75, Operand.tmp 76], argTypes := #[29, 29] }, type := 4, pos := "law.go:88", after := #[{ on := 10, ground := Ground.data }, { on := 11, ground := Ground.data }, { on := 9, ground := Ground.chain }, { on := 6, ground := Ground.guard }], guard := some (6, true) }) (v := undef) rfl (by kernel_rfl) (by kernel_rfl) (by kernel_rfl) (fun _ _ _ h => h) (Or.inr ⟨by rfl, rfl⟩) hS0 ?_
          try simp only [Act.put, List.setIfInBounds_toArray, List.set_cons_zero, List.set_cons_succ]
          refine wpAnyH_take (i := 13) (oi := { dst := some 78, op := Op.binOp BinOp.neq 4 (Operand.tmp 74) (Operand.tmp 77) 4, type := 4, pos := "law.go:88", after := #[{ on := 9, ground := Ground.data }, { on := 12, ground := Ground.data }, { on := 6, ground := Ground.guard }], guard := some (6, true) }) (v := undef) rfl (by kernel_rfl) (by kernel_rfl) (by kernel_rfl) (fun _ _ _ h => h) (Or.inr ⟨by rfl, rfl⟩) hS0 ?_
          try simp only [Act.put, List.setIfInBounds_toArray, List.set_cons_zero, List.set_cons_succ]
          refine wpAnyH_take (i := 14) (oi := { dst := some 79, op := Op.pick (Operand.tmp 71) (Operand.tmp 78) (Operand.const (Value.bool false)), type := 4, pos := "law.go:88", after := #[{ on := 6, ground := Ground.data }, { on := 13, ground := Ground.data }], guard := none }) (v := .bool false) rfl (by kernel_rfl) (by kernel_rfl) (by kernel_rfl) (fun _ _ _ h => h) (Or.inl ⟨by rfl, by intro w hSw; go_simp⟩) hS0 ?_
          try simp only [Act.put, List.setIfInBounds_toArray, List.set_cons_zero, List.set_cons_succ]
          refine wpAnyH_done (by kernel_rfl) ?_ _
          go_wp2_with fail
          go_meet
          exact ⟨rfl, hS0.2.2⟩
    case rest =>
      obtain ⟨rfl, hS4⟩ := hcut
      clear hS3 hs3 ht3
      have hi := HI.out
      rcases hi with ⟨r1, i1, n1⟩ | ⟨r1, i1⟩
      · rw [i1, n1] at int
        rw [r1] at ri
        clear r1 i1 n1
        go_wp2_with fail
        refine (ofA _).mono ?_
        rintro e w5 ⟨rfl, hb5⟩
        have hS5 := keepO hb5 hS4
        go_wp2_with fail
        refine (int _).mono ?_
        rintro e w6 ⟨rfl, hb6⟩
        have hS6 := keepO hb6 hS5
        go_wp2_with fail
        refine (ri _).mono ?_
        rintro e w7 ⟨rfl, rfl⟩
        go_wp2_with fail
        refine (wakes_any _).mono ?_
        rintro e w8 ⟨rfl, hb8⟩
        have hS8 := keepO hb8 hS6
        go_wp2_with fail
        go_ret
        exact ⟨rfl, by rw [HGV.out]; exact HGV.out ▸ hS8.2.2.2⟩
      · rw [i1] at int
        rw [r1] at ri
        obtain ⟨n, hn⟩ : ∃ n, n = wInt a := ⟨_, rfl⟩
        rw [← hn] at int
        clear r1 i1 hn
        go_wp2_with fail
        refine (ofA _).mono ?_
        rintro e w5 ⟨rfl, hb5⟩
        have hS5 := keepO hb5 hS4
        go_wp2_with fail
        refine (int _).mono ?_
        rintro e w6 ⟨rfl, hb6⟩
        have hS6 := keepO hb6 hS5
        go_wp2_with fail
        refine (ri _).mono ?_
        rintro e w7 ⟨rfl, rfl⟩
        go_wp2_with fail
        refine (wakes_any _).mono ?_
        rintro e w8 ⟨rfl, hb8⟩
        have hS8 := keepO hb8 hS6
        go_wp2_with fail
        go_ret
        exact ⟨rfl, by rw [HGV.out]; exact HGV.out ▸ hS8.2.2.2⟩

end Cam
