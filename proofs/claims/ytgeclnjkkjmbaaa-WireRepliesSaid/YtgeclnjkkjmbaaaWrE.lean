import Derived.Test.YtgeclnjkkjmbaaaWrD
/- cambistref24.Cmd. -/
namespace Cam
open Go Go.RowKit Go.Proofs

theorem OwnB.ge {t : TypeId} {w : World} {base : Nat} {v : Value} {l : List UInt8} (h : OwnB t w base v l) : ∀ k, v.ownBlock = some k → base ≤ k := fun k hk => (World.ownsRow.lt h k hk).1
set_option maxRecDepth 100000 in
set_option maxHeartbeats 1600000 in
theorem rCmd_any (w : World) (x0 x1 x2 x3 x4 x5 x6 x7 x8 x9 x10 x11 x12 x13 x14 x15 x16 : Int) (hr : ∀ n ∈ [x0, x1, x2, x3, x4, x5, x6, x7, x8, x9, x10, x11, x12, x13, x14, x15, x16], -9223372036854775808 ≤ n ∧ n ≤ 9223372036854775807) :
    Calls Try.prog 10 #[.agg #[.int .i64 x0, .int .i64 x1, .int .i64 x2, .int .i64 x3, .int .i64 x4, .int .i64 x5, .int .i64 x6, .int .i64 x7, .int .i64 x8, .int .i64 x9, .int .i64 x10, .int .i64 x11, .int .i64 x12, .int .i64 x13, .int .i64 x14, .int .i64 x15, .int .i64 x16]] w (RetB 5 w (encIs [x0, x1, x2, x3, x4, x5, x6, x7, x8, x9, x10, x11, x12, x13, x14, x15, x16])) := by
  have hbx := (Below.refl w.heap.size w).alloc (Nat.le_refl _) (.cells #[.int .i64 x0, .int .i64 x1, .int .i64 x2, .int .i64 x3, .int .i64 x4, .int .i64 x5, .int .i64 x6, .int .i64 x7, .int .i64 x8, .int .i64 x9, .int .i64 x10, .int .i64 x11, .int .i64 x12, .int .i64 x13, .int .i64 x14, .int .i64 x15, .int .i64 x16] 24)
  have hc : HT (w.alloc (.cells #[.int .i64 x0, .int .i64 x1, .int .i64 x2, .int .i64 x3, .int .i64 x4, .int .i64 x5, .int .i64 x6, .int .i64 x7, .int .i64 x8, .int .i64 x9, .int .i64 x10, .int .i64 x11, .int .i64 x12, .int .i64 x13, .int .i64 x14, .int .i64 x15, .int .i64 x16] 24)) w.heap.size 24 [.int .i64 x0, .int .i64 x1, .int .i64 x2, .int .i64 x3, .int .i64 x4, .int .i64 x5, .int .i64 x6, .int .i64 x7, .int .i64 x8, .int .i64 x9, .int .i64 x10, .int .i64 x11, .int .i64 x12, .int .i64 x13, .int .i64 x14, .int .i64 x15, .int .i64 x16] := HT.new (w := w)
  have HBX := Lib.hid hbx
  have HC := Lib.hid (fun (j : Nat) (u : Value) (h : [.int .i64 x0, .int .i64 x1, .int .i64 x2, .int .i64 x3, .int .i64 x4, .int .i64 x5, .int .i64 x6, .int .i64 x7, .int .i64 x8, .int .i64 x9, .int .i64 x10, .int .i64 x11, .int .i64 x12, .int .i64 x13, .int .i64 x14, .int .i64 x15, .int .i64 x16][j]? = some u) => hc.cell h)
  have HR : Hid ((∀ n ∈ [x0, x1, x2, x3, x4, x5, x6, x7, x8, x9, x10], -9223372036854775808 ≤ n ∧ n ≤ 9223372036854775807) ∧ (∀ n ∈ [x11, x12, x13, x14, x15, x16], -9223372036854775808 ≤ n ∧ n ≤ 9223372036854775807)) :=
    ⟨fun n hn => hr n (List.mem_append_left [x11, x12, x13, x14, x15, x16] hn), fun n hn => hr n (List.mem_append_right [x0, x1, x2, x3, x4, x5, x6, x7, x8, x9, x10] hn)⟩
  clear hbx hc hr
  go_enter Try.func10, Try.ntmps10
  go_wp2_with fail
  generalize hW : (w.alloc (.cells #[.int .i64 x0, .int .i64 x1, .int .i64 x2, .int .i64 x3, .int .i64 x4, .int .i64 x5, .int .i64 x6, .int .i64 x7, .int .i64 x8, .int .i64 x9, .int .i64 x10, .int .i64 x11, .int .i64 x12, .int .i64 x13, .int .i64 x14, .int .i64 x15, .int .i64 x16] 24)) = W at *
  clear hW
  generalize hgc : w.heap.size = gc at HC ⊢
  clear hgc
  refine wp_region_bl 28 (by kernel_rfl) ?_
  refine wpAnyU_take (i := 0) (oi := { dst := some 3, op := Op.fieldAddr 24 (Operand.tmp 1) 0, type := 0, pos := "ref.go:20", after := #[], guard := none }) (v := (.pointer (some ⟨gc, 0, none⟩))) rfl (by kernel_rfl) (by kernel_rfl) (by kernel_rfl) (by kernel_rfl) (by kernel_rfl) (fun _ _ _ h => h) (BL.cls W) ?_ ?_
  · refine Or.inl ⟨rfl, fun w hSw => ?_⟩
    exact EffR.same (by go_simp)
  try simp only [Act.put, List.setIfInBounds_toArray, List.set_cons_zero, List.set_cons_succ]
  refine wpAnyU_take (i := 1) (oi := { dst := some 4, op := Op.load 3 (Operand.tmp 3), type := 3, pos := "ref.go:20", after := #[{ on := 0, ground := Ground.data }], guard := none }) (v := (.int .i64 x0)) rfl (by kernel_rfl) (by kernel_rfl) (by kernel_rfl) (by kernel_rfl) (by kernel_rfl) (fun _ _ _ h => h) (BL.cls W) ?_ ?_
  · refine Or.inl ⟨rfl, fun w hSw => ?_⟩
    have e0 := BL.cell hSw (HC.out 0 _ rfl)
    exact EffR.same (by go_simp)
  try simp only [Act.put, List.setIfInBounds_toArray, List.set_cons_zero, List.set_cons_succ]
  refine wpAnyU_take (i := 2) (oi := { dst := some 5, op := Op.fieldAddr 24 (Operand.tmp 1) 1, type := 0, pos := "ref.go:20", after := #[], guard := none }) (v := (.pointer (some ⟨gc, 1, none⟩))) rfl (by kernel_rfl) (by kernel_rfl) (by kernel_rfl) (by kernel_rfl) (by kernel_rfl) (fun _ _ _ h => h) (BL.cls W) ?_ ?_
  · refine Or.inl ⟨rfl, fun w hSw => ?_⟩
    exact EffR.same (by go_simp)
  try simp only [Act.put, List.setIfInBounds_toArray, List.set_cons_zero, List.set_cons_succ]
  refine wpAnyU_take (i := 3) (oi := { dst := some 6, op := Op.load 3 (Operand.tmp 5), type := 3, pos := "ref.go:20", after := #[{ on := 2, ground := Ground.data }], guard := none }) (v := (.int .i64 x1)) rfl (by kernel_rfl) (by kernel_rfl) (by kernel_rfl) (by kernel_rfl) (by kernel_rfl) (fun _ _ _ h => h) (BL.cls W) ?_ ?_
  · refine Or.inl ⟨rfl, fun w hSw => ?_⟩
    have e0 := BL.cell hSw (HC.out 1 _ rfl)
    exact EffR.same (by go_simp)
  try simp only [Act.put, List.setIfInBounds_toArray, List.set_cons_zero, List.set_cons_succ]
  refine wpAnyU_take (i := 4) (oi := { dst := some 7, op := Op.fieldAddr 24 (Operand.tmp 1) 2, type := 0, pos := "ref.go:20", after := #[], guard := none }) (v := (.pointer (some ⟨gc, 2, none⟩))) rfl (by kernel_rfl) (by kernel_rfl) (by kernel_rfl) (by kernel_rfl) (by kernel_rfl) (fun _ _ _ h => h) (BL.cls W) ?_ ?_
  · refine Or.inl ⟨rfl, fun w hSw => ?_⟩
    exact EffR.same (by go_simp)
  try simp only [Act.put, List.setIfInBounds_toArray, List.set_cons_zero, List.set_cons_succ]
  refine wpAnyU_take (i := 5) (oi := { dst := some 8, op := Op.load 3 (Operand.tmp 7), type := 3, pos := "ref.go:20", after := #[{ on := 4, ground := Ground.data }], guard := none }) (v := (.int .i64 x2)) rfl (by kernel_rfl) (by kernel_rfl) (by kernel_rfl) (by kernel_rfl) (by kernel_rfl) (fun _ _ _ h => h) (BL.cls W) ?_ ?_
  · refine Or.inl ⟨rfl, fun w hSw => ?_⟩
    have e0 := BL.cell hSw (HC.out 2 _ rfl)
    exact EffR.same (by go_simp)
  try simp only [Act.put, List.setIfInBounds_toArray, List.set_cons_zero, List.set_cons_succ]
  refine wpAnyU_take (i := 6) (oi := { dst := some 9, op := Op.fieldAddr 24 (Operand.tmp 1) 3, type := 0, pos := "ref.go:20", after := #[], guard := none }) (v := (.pointer (some ⟨gc, 3, none⟩))) rfl (by kernel_rfl) (by kernel_rfl) (by kernel_rfl) (by kernel_rfl) (by kernel_rfl) (fun _ _ _ h => h) (BL.cls W) ?_ ?_
  · refine Or.inl ⟨rfl, fun w hSw => ?_⟩
    exact EffR.same (by go_simp)
  try simp only [Act.put, List.setIfInBounds_toArray, List.set_cons_zero, List.set_cons_succ]
  refine wpAnyU_take (i := 7) (oi := { dst := some 10, op := Op.load 3 (Operand.tmp 9), type := 3, pos := "ref.go:20", after := #[{ on := 6, ground := Ground.data }], guard := none }) (v := (.int .i64 x3)) rfl (by kernel_rfl) (by kernel_rfl) (by kernel_rfl) (by kernel_rfl) (by kernel_rfl) (fun _ _ _ h => h) (BL.cls W) ?_ ?_
  · refine Or.inl ⟨rfl, fun w hSw => ?_⟩
    have e0 := BL.cell hSw (HC.out 3 _ rfl)
    exact EffR.same (by go_simp)
  try simp only [Act.put, List.setIfInBounds_toArray, List.set_cons_zero, List.set_cons_succ]
  refine wpAnyU_take (i := 8) (oi := { dst := some 11, op := Op.fieldAddr 24 (Operand.tmp 1) 4, type := 0, pos := "ref.go:20", after := #[], guard := none }) (v := (.pointer (some ⟨gc, 4, none⟩))) rfl (by kernel_rfl) (by kernel_rfl) (by kernel_rfl) (by kernel_rfl) (by kernel_rfl) (fun _ _ _ h => h) (BL.cls W) ?_ ?_
  · refine Or.inl ⟨rfl, fun w hSw => ?_⟩
    exact EffR.same (by go_simp)
  try simp only [Act.put, List.setIfInBounds_toArray, List.set_cons_zero, List.set_cons_succ]
  refine wpAnyU_take (i := 9) (oi := { dst := some 12, op := Op.load 3 (Operand.tmp 11), type := 3, pos := "ref.go:20", after := #[{ on := 8, ground := Ground.data }], guard := none }) (v := (.int .i64 x4)) rfl (by kernel_rfl) (by kernel_rfl) (by kernel_rfl) (by kernel_rfl) (by kernel_rfl) (fun _ _ _ h => h) (BL.cls W) ?_ ?_
  · refine Or.inl ⟨rfl, fun w hSw => ?_⟩
    have e0 := BL.cell hSw (HC.out 4 _ rfl)
    exact EffR.same (by go_simp)
  try simp only [Act.put, List.setIfInBounds_toArray, List.set_cons_zero, List.set_cons_succ]
  refine wpAnyU_take (i := 10) (oi := { dst := some 13, op := Op.fieldAddr 24 (Operand.tmp 1) 5, type := 0, pos := "ref.go:20", after := #[], guard := none }) (v := (.pointer (some ⟨gc, 5, none⟩))) rfl (by kernel_rfl) (by kernel_rfl) (by kernel_rfl) (by kernel_rfl) (by kernel_rfl) (fun _ _ _ h => h) (BL.cls W) ?_ ?_
  · refine Or.inl ⟨rfl, fun w hSw => ?_⟩
    exact EffR.same (by go_simp)
  try simp only [Act.put, List.setIfInBounds_toArray, List.set_cons_zero, List.set_cons_succ]
  refine wpAnyU_take (i := 11) (oi := { dst := some 14, op := Op.load 3 (Operand.tmp 13), type := 3, pos := "ref.go:20", after := #[{ on := 10, ground := Ground.data }], guard := none }) (v := (.int .i64 x5)) rfl (by kernel_rfl) (by kernel_rfl) (by kernel_rfl) (by kernel_rfl) (by kernel_rfl) (fun _ _ _ h => h) (BL.cls W) ?_ ?_
  · refine Or.inl ⟨rfl, fun w hSw => ?_⟩
    have e0 := BL.cell hSw (HC.out 5 _ rfl)
    exact EffR.same (by go_simp)
  try simp only [Act.put, List.setIfInBounds_toArray, List.set_cons_zero, List.set_cons_succ]
  refine wpAnyU_take (i := 12) (oi := { dst := some 15, op := Op.fieldAddr 24 (Operand.tmp 1) 6, type := 0, pos := "ref.go:20", after := #[], guard := none }) (v := (.pointer (some ⟨gc, 6, none⟩))) rfl (by kernel_rfl) (by kernel_rfl) (by kernel_rfl) (by kernel_rfl) (by kernel_rfl) (fun _ _ _ h => h) (BL.cls W) ?_ ?_
  · refine Or.inl ⟨rfl, fun w hSw => ?_⟩
    exact EffR.same (by go_simp)
  try simp only [Act.put, List.setIfInBounds_toArray, List.set_cons_zero, List.set_cons_succ]
  refine wpAnyU_take (i := 13) (oi := { dst := some 16, op := Op.load 3 (Operand.tmp 15), type := 3, pos := "ref.go:20", after := #[{ on := 12, ground := Ground.data }], guard := none }) (v := (.int .i64 x6)) rfl (by kernel_rfl) (by kernel_rfl) (by kernel_rfl) (by kernel_rfl) (by kernel_rfl) (fun _ _ _ h => h) (BL.cls W) ?_ ?_
  · refine Or.inl ⟨rfl, fun w hSw => ?_⟩
    have e0 := BL.cell hSw (HC.out 6 _ rfl)
    exact EffR.same (by go_simp)
  try simp only [Act.put, List.setIfInBounds_toArray, List.set_cons_zero, List.set_cons_succ]
  refine wpAnyU_take (i := 14) (oi := { dst := some 17, op := Op.fieldAddr 24 (Operand.tmp 1) 7, type := 0, pos := "ref.go:20", after := #[], guard := none }) (v := (.pointer (some ⟨gc, 7, none⟩))) rfl (by kernel_rfl) (by kernel_rfl) (by kernel_rfl) (by kernel_rfl) (by kernel_rfl) (fun _ _ _ h => h) (BL.cls W) ?_ ?_
  · refine Or.inl ⟨rfl, fun w hSw => ?_⟩
    exact EffR.same (by go_simp)
  try simp only [Act.put, List.setIfInBounds_toArray, List.set_cons_zero, List.set_cons_succ]
  refine wpAnyU_take (i := 15) (oi := { dst := some 18, op := Op.load 3 (Operand.tmp 17), type := 3, pos := "ref.go:20", after := #[{ on := 14, ground := Ground.data }], guard := none }) (v := (.int .i64 x7)) rfl (by kernel_rfl) (by kernel_rfl) (by kernel_rfl) (by kernel_rfl) (by kernel_rfl) (fun _ _ _ h => h) (BL.cls W) ?_ ?_
  · refine Or.inl ⟨rfl, fun w hSw => ?_⟩
    have e0 := BL.cell hSw (HC.out 7 _ rfl)
    exact EffR.same (by go_simp)
  try simp only [Act.put, List.setIfInBounds_toArray, List.set_cons_zero, List.set_cons_succ]
  refine wpAnyU_take (i := 16) (oi := { dst := some 19, op := Op.fieldAddr 24 (Operand.tmp 1) 8, type := 0, pos := "ref.go:20", after := #[], guard := none }) (v := (.pointer (some ⟨gc, 8, none⟩))) rfl (by kernel_rfl) (by kernel_rfl) (by kernel_rfl) (by kernel_rfl) (by kernel_rfl) (fun _ _ _ h => h) (BL.cls W) ?_ ?_
  · refine Or.inl ⟨rfl, fun w hSw => ?_⟩
    exact EffR.same (by go_simp)
  try simp only [Act.put, List.setIfInBounds_toArray, List.set_cons_zero, List.set_cons_succ]
  refine wpAnyU_take (i := 17) (oi := { dst := some 20, op := Op.load 3 (Operand.tmp 19), type := 3, pos := "ref.go:20", after := #[{ on := 16, ground := Ground.data }], guard := none }) (v := (.int .i64 x8)) rfl (by kernel_rfl) (by kernel_rfl) (by kernel_rfl) (by kernel_rfl) (by kernel_rfl) (fun _ _ _ h => h) (BL.cls W) ?_ ?_
  · refine Or.inl ⟨rfl, fun w hSw => ?_⟩
    have e0 := BL.cell hSw (HC.out 8 _ rfl)
    exact EffR.same (by go_simp)
  try simp only [Act.put, List.setIfInBounds_toArray, List.set_cons_zero, List.set_cons_succ]
  refine wpAnyU_take (i := 18) (oi := { dst := some 21, op := Op.fieldAddr 24 (Operand.tmp 1) 9, type := 0, pos := "ref.go:20", after := #[], guard := none }) (v := (.pointer (some ⟨gc, 9, none⟩))) rfl (by kernel_rfl) (by kernel_rfl) (by kernel_rfl) (by kernel_rfl) (by kernel_rfl) (fun _ _ _ h => h) (BL.cls W) ?_ ?_
  · refine Or.inl ⟨rfl, fun w hSw => ?_⟩
    exact EffR.same (by go_simp)
  try simp only [Act.put, List.setIfInBounds_toArray, List.set_cons_zero, List.set_cons_succ]
  refine wpAnyU_take (i := 19) (oi := { dst := some 22, op := Op.load 3 (Operand.tmp 21), type := 3, pos := "ref.go:20", after := #[{ on := 18, ground := Ground.data }], guard := none }) (v := (.int .i64 x9)) rfl (by kernel_rfl) (by kernel_rfl) (by kernel_rfl) (by kernel_rfl) (by kernel_rfl) (fun _ _ _ h => h) (BL.cls W) ?_ ?_
  · refine Or.inl ⟨rfl, fun w hSw => ?_⟩
    have e0 := BL.cell hSw (HC.out 9 _ rfl)
    exact EffR.same (by go_simp)
  try simp only [Act.put, List.setIfInBounds_toArray, List.set_cons_zero, List.set_cons_succ]
  refine wpAnyU_take (i := 20) (oi := { dst := some 23, op := Op.fieldAddr 24 (Operand.tmp 1) 10, type := 0, pos := "ref.go:20", after := #[], guard := none }) (v := (.pointer (some ⟨gc, 10, none⟩))) rfl (by kernel_rfl) (by kernel_rfl) (by kernel_rfl) (by kernel_rfl) (by kernel_rfl) (fun _ _ _ h => h) (BL.cls W) ?_ ?_
  · refine Or.inl ⟨rfl, fun w hSw => ?_⟩
    exact EffR.same (by go_simp)
  try simp only [Act.put, List.setIfInBounds_toArray, List.set_cons_zero, List.set_cons_succ]
  refine wpAnyU_take (i := 21) (oi := { dst := some 24, op := Op.load 3 (Operand.tmp 23), type := 3, pos := "ref.go:20", after := #[{ on := 20, ground := Ground.data }], guard := none }) (v := (.int .i64 x10)) rfl (by kernel_rfl) (by kernel_rfl) (by kernel_rfl) (by kernel_rfl) (by kernel_rfl) (fun _ _ _ h => h) (BL.cls W) ?_ ?_
  · refine Or.inl ⟨rfl, fun w hSw => ?_⟩
    have e0 := BL.cell hSw (HC.out 10 _ rfl)
    exact EffR.same (by go_simp)
  try simp only [Act.put, List.setIfInBounds_toArray, List.set_cons_zero, List.set_cons_succ]
  refine wpAnyU_take (i := 24) (oi := { dst := some 27, op := Op.fieldAddr 24 (Operand.tmp 1) 11, type := 0, pos := "ref.go:20", after := #[], guard := none }) (v := (.pointer (some ⟨gc, 11, none⟩))) rfl (by kernel_rfl) (by kernel_rfl) (by kernel_rfl) (by kernel_rfl) (by kernel_rfl) (fun _ _ _ h => h) (BL.cls W) ?_ ?_
  · refine Or.inl ⟨rfl, fun w hSw => ?_⟩
    exact EffR.same (by go_simp)
  try simp only [Act.put, List.setIfInBounds_toArray, List.set_cons_zero, List.set_cons_succ]
  refine wpAnyU_take (i := 25) (oi := { dst := some 28, op := Op.load 22 (Operand.tmp 27), type := 22, pos := "ref.go:20", after := #[{ on := 24, ground := Ground.data }], guard := none }) (v := (.agg #[.int .i64 x11, .int .i64 x12, .int .i64 x13, .int .i64 x14, .int .i64 x15, .int .i64 x16])) rfl (by kernel_rfl) (by kernel_rfl) (by kernel_rfl) (by kernel_rfl) (by kernel_rfl) (fun _ _ _ h => h) (BL.cls W) ?_ ?_
  · refine Or.inl ⟨rfl, fun w hSw => ?_⟩
    have e0 := BL.cell hSw (HC.out 11 _ rfl)
    have e1 := BL.cell hSw (HC.out 12 _ rfl)
    have e2 := BL.cell hSw (HC.out 13 _ rfl)
    have e3 := BL.cell hSw (HC.out 14 _ rfl)
    have e4 := BL.cell hSw (HC.out 15 _ rfl)
    have e5 := BL.cell hSw (HC.out 16 _ rfl)
    exact EffR.same (by go_simp)
  try simp only [Act.put, List.setIfInBounds_toArray, List.set_cons_zero, List.set_cons_succ]
  refine wpAnyU_ready (rs := [22]) (by kernel_rfl) (by simp) ?_
  refine AllReadyU.cons (o := { dst := some 25, op := Op.buildSlice 112 11 #[(0, Operand.tmp 4), (1, Operand.tmp 6), (2, Operand.tmp 8), (3, Operand.tmp 10), (4, Operand.tmp 12), (5, Operand.tmp 14), (6, Operand.tmp 16), (7, Operand.tmp 18), (8, Operand.tmp 20), (9, Operand.tmp 22), (10, Operand.tmp 24)], type := 112, pos := "ref.go:20", after := #[{ on := 1, ground := Ground.data }, { on := 3, ground := Ground.data }, { on := 5, ground := Ground.data }, { on := 7, ground := Ground.data }, { on := 9, ground := Ground.data }, { on := 11, ground := Ground.data }, { on := 13, ground := Ground.data }, { on := 15, ground := Ground.data }, { on := 17, ground := Ground.data }, { on := 19, ground := Ground.data }, { on := 21, ground := Ground.data }], guard := none }) rfl (fun wA22 hA22 K hK => ?_) AllReadyU.nil
  go_simp
  refine hK.out _ _ (BL (wA22.alloc (.cells #[.int .i64 x0, .int .i64 x1, .int .i64 x2, .int .i64 x3, .int .i64 x4, .int .i64 x5, .int .i64 x6, .int .i64 x7, .int .i64 x8, .int .i64 x9, .int .i64 x10] 3))) (BL.cls' (hA22.alloc (Below.size hA22) _)) (Below.refl _ _) ?_
  clear hK K
  try simp only [Act.put, List.setIfInBounds_toArray, List.set_cons_zero, List.set_cons_succ]
  refine wpAnyU_ready (rs := [23]) (by kernel_rfl) (by simp) ?_
  refine AllReadyU.cons (o := { dst := some 26, op := Op.call { callee := Callee.value (Operand.func 30), args := #[Operand.const (Value.slice none 0 0), Operand.tmp 25], argTypes := #[25, 112] }, type := 25, pos := "ref.go:20", after := #[{ on := 22, ground := Ground.data }], guard := none }) rfl (fun wA23 hA23 K hK => ?_) AllReadyU.nil
  go_simp
  have his : Is (wA22.alloc (.cells #[.int .i64 x0, .int .i64 x1, .int .i64 x2, .int .i64 x3, .int .i64 x4, .int .i64 x5, .int .i64 x6, .int .i64 x7, .int .i64 x8, .int .i64 x9, .int .i64 x10] 3)) (.slice (some ⟨wA22.heap.size, 0, none⟩) 11 11) [x0, x1, x2, x3, x4, x5, x6, x7, x8, x9, x10] := Is.block (l := [x0, x1, x2, x3, x4, x5, x6, x7, x8, x9, x10]) (heap_new rfl) (Nat.le_refl _) (by simp [maxLen])
  have hbl : Below W.heap.size W wA23 := (Below.alloc hA22 (Below.size hA22) (.cells #[.int .i64 x0, .int .i64 x1, .int .i64 x2, .int .i64 x3, .int .i64 x4, .int .i64 x5, .int .i64 x6, .int .i64 x7, .int .i64 x8, .int .i64 x9, .int .i64 x10] 3)).trans (Below.mono hA23 (by simp; exact Nat.le_succ_of_le (Below.size hA22)))
  refine (num_any wA23 W.heap.size (.slice none 0 0) [] _ _ (OwnB.empty _ _ _) (his.mono hA23) HR.out.1 (by simp) (by simp) hbl.size).mono ?_
  rintro e wn ⟨an, nn, cn, rfl, hon, hkn, hwn⟩
  have hbn : Below W.heap.size W wn := hbl.trans ((hkn.below (B := wA23.heap.size) (fun k hk e => by cases e) (Nat.le_refl _)).mono hbl.size)
  have HON := Lib.hid hon
  have HBN := Lib.hid hbn
  clear his hbl hon hkn hwn hbn
  refine hK.out _ _ (BL wn) (BL.cls' HBN.out) (Below.refl _ _) ?_
  clear hK K
  try simp only [Act.put, List.setIfInBounds_toArray, List.set_cons_zero, List.set_cons_succ]
  refine wpAnyU_ready (rs := [26]) (by kernel_rfl) (by simp) ?_
  refine AllReadyU.cons (o := { dst := some 29, op := Op.call { callee := Callee.value (Operand.func 29), args := #[Operand.tmp 26, Operand.tmp 28], argTypes := #[25, 22] }, type := 25, pos := "ref.go:20", after := #[{ on := 23, ground := Ground.data }, { on := 25, ground := Ground.data }, { on := 23, ground := Ground.chain }], guard := none }) rfl (fun wA26 hA26 K hK => ?_) AllReadyU.nil
  go_simp
  refine (shifts_any wA26 W.heap.size (.slice an nn cn) (encIs [x0, x1, x2, x3, x4, x5, x6, x7, x8, x9, x10]) x11 x12 x13 x14 x15 x16 (OwnB.below (by simpa using HON.out) hA26) HR.out.2 (by have := encIs_length [x0, x1, x2, x3, x4, x5, x6, x7, x8, x9, x10] HR.out.1; simp at this; omega) (Nat.le_trans HBN.out.size (Below.size hA26))).mono ?_
  rintro e w2 ⟨a2, n2, c2, rfl, ho2, hk2, hw2⟩
  have hbl : Below W.heap.size W wA26 := HBN.out.trans (Below.mono hA26 HBN.out.size)
  have hb2 : Below W.heap.size W w2 := hbl.trans (hk2.below (fun k hk e => by have := OwnB.ge HON.out k e; omega) hbl.size)
  have HO2 := Lib.hid ho2
  have HB2 := Lib.hid hb2
  clear hbl ho2 hk2 hw2 hb2
  refine hK.out _ _ (BL w2) (BL.cls' HB2.out) (Below.refl _ _) ?_
  clear hK K
  try simp only [Act.put, List.setIfInBounds_toArray, List.set_cons_zero, List.set_cons_succ]
  refine wpAnyU_take (i := 27) (oi := { dst := some 2, op := Op.assign (Operand.tmp 29), type := 25, pos := "ref.go:20", after := #[{ on := 26, ground := Ground.data }, { on := 26, ground := Ground.chain }, { on := 0, ground := Ground.phase }, { on := 1, ground := Ground.phase }, { on := 2, ground := Ground.phase }, { on := 3, ground := Ground.phase }, { on := 4, ground := Ground.phase }, { on := 5, ground := Ground.phase }, { on := 6, ground := Ground.phase }, { on := 7, ground := Ground.phase }, { on := 8, ground := Ground.phase }, { on := 9, ground := Ground.phase }, { on := 10, ground := Ground.phase }, { on := 11, ground := Ground.phase }, { on := 12, ground := Ground.phase }, { on := 13, ground := Ground.phase }, { on := 14, ground := Ground.phase }, { on := 15, ground := Ground.phase }, { on := 16, ground := Ground.phase }, { on := 17, ground := Ground.phase }, { on := 18, ground := Ground.phase }, { on := 19, ground := Ground.phase }, { on := 20, ground := Ground.phase }, { on := 21, ground := Ground.phase }, { on := 22, ground := Ground.phase }, { on := 23, ground := Ground.phase }, { on := 24, ground := Ground.phase }, { on := 25, ground := Ground.phase }, { on := 26, ground := Ground.phase }], guard := none }) (v := (.slice a2 n2 c2)) rfl (by kernel_rfl) (by kernel_rfl) (by kernel_rfl) (by kernel_rfl) (by kernel_rfl) (fun _ _ _ h => h) (BL.cls' HB2.out) ?_ ?_
  · refine Or.inl ⟨rfl, fun w hSw => ?_⟩
    exact EffR.same (by go_simp)
  try simp only [Act.put, List.setIfInBounds_toArray, List.set_cons_zero, List.set_cons_succ]
  refine wpAnyU_done (by kernel_rfl) (fun w1 hb1 => ?_) _
  go_wp2_with fail
  go_ret
  have HO3 := OwnB.below (OwnB.base HO2.out HBX.out.size) hb1
  exact ⟨.slice a2 n2 c2, rfl, by rw [show [x0, x1, x2, x3, x4, x5, x6, x7, x8, x9, x10, x11, x12, x13, x14, x15, x16] = [x0, x1, x2, x3, x4, x5, x6, x7, x8, x9, x10] ++ [x11, x12, x13, x14, x15, x16] from rfl, encIs_app]; exact HO3, (HBX.out.trans (HB2.out.mono HBX.out.size)).trans (hb1.mono (HBX.out.trans (HB2.out.mono HBX.out.size)).size)⟩
end Cam
