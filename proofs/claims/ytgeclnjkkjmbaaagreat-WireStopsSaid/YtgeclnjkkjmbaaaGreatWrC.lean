import Derived.Test.YtgeclnjkkjmbaaaGreatVa
import Derived.Test.YtgeclnjkkjmbaaaGreatMemB
import Derived.Test.YtgeclnjkkjmbaaaGreatRowI
import Derived.Test.YtgeclnjkkjmbaaaGreatUni
/- wire: writer.cmd, bytes, Cmd. -/
namespace Cam
open Go Go.RowKit Go.Proofs
variable {tw : TypeId} {rs : List Value}

theorem PW.below {w w' : World} {g : Nat} {v : Value} {l : List UInt8} {lg : Bool} (h : PW tw rs w g v l lg) (hb : Below w.heap.size w w') : PW tw rs w' g v l lg := ⟨(hb.block g h.lt).trans h.1, OwnB.below h.2 hb⟩
theorem PWPost.pre {w w1 w2 : World} {g : Nat} {v : Value} {l : List UInt8} {lg : Bool} (hb : Below w.heap.size w w1) (h : PWPost tw rs w1 g v l lg w2) : PWPost tw rs w g v l lg w2 := by
  obtain ⟨v', h1, h2, h3⟩ := h
  refine ⟨v', h1, ((Kept.of_below hb).weaken (fun _ h => h.elim)).trans h2 (fun _ _ h => h), fun k hk => ?_⟩
  rcases h3 k hk with e | e
  · exact .inl e
  · exact .inr (Nat.le_trans hb.size e)
theorem PWPost.next {w w1 w2 : World} {g : Nat} {v v1 : Value} {l1 l2 : List UInt8} {lg : Bool} (h : PW tw rs w1 g v1 l1 lg ∧ Kept (fun k => k = g ∨ v.ownBlock = some k) w w1 ∧ ∀ k, v1.ownBlock = some k → v.ownBlock = some k ∨ w.heap.size ≤ k) (h2 : PWPost tw rs w1 g v1 l2 lg w2) : PWPost tw rs w g v l2 lg w2 := by
  obtain ⟨_, hk, ho⟩ := h
  obtain ⟨v2, h3, h4, h5⟩ := h2
  refine ⟨v2, h3, hk.trans h4 (fun i hi e => ?_), fun k hk2 => ?_⟩
  · rcases e with e | e
    · exact .inl e
    · rcases ho i e with e2 | e2
      · exact .inr e2
      · omega
  · rcases h5 k hk2 with e | e
    · exact ho k e
    · exact .inr (Nat.le_trans hk.size e)
theorem HT.keptH {S : Nat → Prop} {w w' : World} {g : Nat} {t : TypeId} {C : List Value} (h : HT w g t C) (hk : Kept S w w') (hg : ¬ S g) : HT w' g t C := (hk.block g h.lt hg).trans h
theorem is_tail {w : World} {g : Nat} {t : TypeId} {ys zs : List Int} (h : HT w g t ((ys ++ zs).map (Value.int .i64))) (hs : zs.length ≤ 1000) : Is w (.slice (some ⟨g, ys.length, none⟩) zs.length zs.length) zs := by
  refine ⟨by simp, some ⟨g, ys.length, none⟩, zs.length, rfl, Nat.le_refl _, by unfold maxLen; omega, (fun e => by cases e), fun ad had i u hu => ?_⟩
  cases had
  rw [add_none]
  exact h.cell (by rw [List.map_append, List.getElem?_append_right (by simp)]; simpa using hu)

set_option maxRecDepth 100000 in
set_option maxHeartbeats 1600000 in
theorem wcmd_any (w : World) (g : Nat) (v : Value) (l : List UInt8) (lg : Bool) (x0 x1 x2 x3 x4 x5 x6 x7 x8 x9 x10 x11 x12 x13 x14 x15 x16 : Int) (hp : PW tw rs w g v l lg) (hr : ∀ n ∈ [x0, x1, x2, x3, x4, x5, x6, x7, x8, x9, x10, x11, x12, x13, x14, x15, x16], -9223372036854775808 ≤ n ∧ n ≤ 9223372036854775807) (hlen : l.length ≤ 35184372088832) :
    Calls Tryz.prog 50 #[.pointer (some ⟨g, 0, none⟩), .agg #[.int .i64 x0, .int .i64 x1, .int .i64 x2, .int .i64 x3, .int .i64 x4, .int .i64 x5, .int .i64 x6, .int .i64 x7, .int .i64 x8, .int .i64 x9, .int .i64 x10, .int .i64 x11, .int .i64 x12, .int .i64 x13, .int .i64 x14, .int .i64 x15, .int .i64 x16]] w fun e w' => e = .returned (.tuple #[]) ∧ PWPost tw rs w g v (l ++ encIs [x0, x1, x2, x3, x4, x5, x6, x7, x8, x9, x10, x11, x12, x13, x14, x15, x16]) lg w' := by
  have hbx := (Below.refl w.heap.size w).alloc (Nat.le_refl _) (.cells #[.int .i64 x0, .int .i64 x1, .int .i64 x2, .int .i64 x3, .int .i64 x4, .int .i64 x5, .int .i64 x6, .int .i64 x7, .int .i64 x8, .int .i64 x9, .int .i64 x10, .int .i64 x11, .int .i64 x12, .int .i64 x13, .int .i64 x14, .int .i64 x15, .int .i64 x16] 59)
  have hc : HT (w.alloc (.cells #[.int .i64 x0, .int .i64 x1, .int .i64 x2, .int .i64 x3, .int .i64 x4, .int .i64 x5, .int .i64 x6, .int .i64 x7, .int .i64 x8, .int .i64 x9, .int .i64 x10, .int .i64 x11, .int .i64 x12, .int .i64 x13, .int .i64 x14, .int .i64 x15, .int .i64 x16] 59)) w.heap.size 59 [.int .i64 x0, .int .i64 x1, .int .i64 x2, .int .i64 x3, .int .i64 x4, .int .i64 x5, .int .i64 x6, .int .i64 x7, .int .i64 x8, .int .i64 x9, .int .i64 x10, .int .i64 x11, .int .i64 x12, .int .i64 x13, .int .i64 x14, .int .i64 x15, .int .i64 x16] := HT.new (w := w)
  have hng : w.heap.size ≠ g := by have := hp.lt; omega
  have hnv : v.ownBlock ≠ some w.heap.size := fun e => by have := (hp.row _ e).2; omega
  have HP := Lib.hid (hp.below hbx)
  have HBX := Lib.hid hbx
  have HC2 := Lib.hid hc
  have HC := Lib.hid (fun (j : Nat) (u : Value) (h : [.int .i64 x0, .int .i64 x1, .int .i64 x2, .int .i64 x3, .int .i64 x4, .int .i64 x5, .int .i64 x6, .int .i64 x7, .int .i64 x8, .int .i64 x9, .int .i64 x10, .int .i64 x11, .int .i64 x12, .int .i64 x13, .int .i64 x14, .int .i64 x15, .int .i64 x16][j]? = some u) => hc.cell h)
  have HNG := Lib.hid hng
  have HNV := Lib.hid hnv
  have HR : Hid ((∀ n ∈ [x0, x1, x2, x3, x4, x5, x6, x7, x8, x9, x10], -9223372036854775808 ≤ n ∧ n ≤ 9223372036854775807) ∧ (∀ n ∈ [x11, x12, x13, x14, x15, x16], -9223372036854775808 ≤ n ∧ n ≤ 9223372036854775807)) :=
    ⟨fun n hn => hr n (List.mem_append_left [x11, x12, x13, x14, x15, x16] hn), fun n hn => hr n (List.mem_append_right [x0, x1, x2, x3, x4, x5, x6, x7, x8, x9, x10] hn)⟩
  have HLEN := Lib.hid hlen
  clear hbx hc hng hnv hp hr hlen
  go_enter Tryz.func50, Tryz.ntmps50
  go_wp2_with fail
  generalize hW : (w.alloc (.cells #[.int .i64 x0, .int .i64 x1, .int .i64 x2, .int .i64 x3, .int .i64 x4, .int .i64 x5, .int .i64 x6, .int .i64 x7, .int .i64 x8, .int .i64 x9, .int .i64 x10, .int .i64 x11, .int .i64 x12, .int .i64 x13, .int .i64 x14, .int .i64 x15, .int .i64 x16] 59)) = W at *
  clear hW
  generalize hgc : w.heap.size = gc at *
  have HGC : Hid (gc = w.heap.size) := hgc.symm
  clear hgc
  refine wp_region_bl 26 (by kernel_rfl) ?_
  refine wpAnyU_take (i := 0) (oi := { dst := some 4, op := Op.move (Operand.tmp 0), type := 83, pos := "write.go:27", after := #[], guard := none }) (v := (.pointer (some ⟨g, 0, none⟩))) rfl (by kernel_rfl) (by kernel_rfl) (by kernel_rfl) (by kernel_rfl) (by kernel_rfl) (fun _ _ _ h => h) (BL.cls W) ?_ ?_
  · refine Or.inl ⟨rfl, fun w hSw => ?_⟩
    exact EffR.same (by go_simp)
  try simp only [Act.put, List.setIfInBounds_toArray, List.set_cons_zero, List.set_cons_succ]
  refine wpAnyU_take (i := 1) (oi := { dst := some 5, op := Op.nilCheck (Operand.tmp 4), type := 0, pos := "write.go:27", after := #[{ on := 0, ground := Ground.data }], guard := none }) (v := (.pointer (some ⟨g, 0, none⟩))) rfl (by kernel_rfl) (by kernel_rfl) (by kernel_rfl) (by kernel_rfl) (by kernel_rfl) (fun _ _ _ h => h) (BL.cls W) ?_ ?_
  · refine Or.inl ⟨rfl, fun w hSw => ?_⟩
    exact EffR.same (by go_simp)
  try simp only [Act.put, List.setIfInBounds_toArray, List.set_cons_zero, List.set_cons_succ]
  refine wpAnyU_take (i := 2) (oi := { dst := some 6, op := Op.fieldAddr 80 (Operand.tmp 5) 0, type := 0, pos := "write.go:27", after := #[{ on := 1, ground := Ground.data }], guard := none }) (v := (.pointer (some ⟨g, 0, none⟩))) rfl (by kernel_rfl) (by kernel_rfl) (by kernel_rfl) (by kernel_rfl) (by kernel_rfl) (fun _ _ _ h => h) (BL.cls W) ?_ ?_
  · refine Or.inl ⟨rfl, fun w hSw => ?_⟩
    exact EffR.same (by go_simp)
  try simp only [Act.put, List.setIfInBounds_toArray, List.set_cons_zero, List.set_cons_succ]
  refine wpAnyU_take (i := 3) (oi := { dst := some 7, op := Op.fieldAddr 59 (Operand.tmp 3) 0, type := 0, pos := "write.go:27", after := #[], guard := none }) (v := (.pointer (some ⟨gc, 0, none⟩))) rfl (by kernel_rfl) (by kernel_rfl) (by kernel_rfl) (by kernel_rfl) (by kernel_rfl) (fun _ _ _ h => h) (BL.cls W) ?_ ?_
  · refine Or.inl ⟨rfl, fun w hSw => ?_⟩
    exact EffR.same (by go_simp)
  try simp only [Act.put, List.setIfInBounds_toArray, List.set_cons_zero, List.set_cons_succ]
  refine wpAnyU_take (i := 4) (oi := { dst := some 8, op := Op.load 3 (Operand.tmp 7), type := 3, pos := "write.go:27", after := #[{ on := 3, ground := Ground.data }], guard := none }) (v := (.int .i64 x0)) rfl (by kernel_rfl) (by kernel_rfl) (by kernel_rfl) (by kernel_rfl) (by kernel_rfl) (fun _ _ _ h => h) (BL.cls W) ?_ ?_
  · refine Or.inl ⟨rfl, fun w hSw => ?_⟩
    have e0 := BL.cell hSw (HC.out 0 _ rfl)
    exact EffR.same (by go_simp)
  try simp only [Act.put, List.setIfInBounds_toArray, List.set_cons_zero, List.set_cons_succ]
  refine wpAnyU_take (i := 5) (oi := { dst := some 9, op := Op.fieldAddr 59 (Operand.tmp 3) 1, type := 0, pos := "write.go:27", after := #[], guard := none }) (v := (.pointer (some ⟨gc, 1, none⟩))) rfl (by kernel_rfl) (by kernel_rfl) (by kernel_rfl) (by kernel_rfl) (by kernel_rfl) (fun _ _ _ h => h) (BL.cls W) ?_ ?_
  · refine Or.inl ⟨rfl, fun w hSw => ?_⟩
    exact EffR.same (by go_simp)
  try simp only [Act.put, List.setIfInBounds_toArray, List.set_cons_zero, List.set_cons_succ]
  refine wpAnyU_take (i := 6) (oi := { dst := some 10, op := Op.load 3 (Operand.tmp 9), type := 3, pos := "write.go:27", after := #[{ on := 5, ground := Ground.data }], guard := none }) (v := (.int .i64 x1)) rfl (by kernel_rfl) (by kernel_rfl) (by kernel_rfl) (by kernel_rfl) (by kernel_rfl) (fun _ _ _ h => h) (BL.cls W) ?_ ?_
  · refine Or.inl ⟨rfl, fun w hSw => ?_⟩
    have e0 := BL.cell hSw (HC.out 1 _ rfl)
    exact EffR.same (by go_simp)
  try simp only [Act.put, List.setIfInBounds_toArray, List.set_cons_zero, List.set_cons_succ]
  refine wpAnyU_take (i := 7) (oi := { dst := some 11, op := Op.fieldAddr 59 (Operand.tmp 3) 2, type := 0, pos := "write.go:27", after := #[], guard := none }) (v := (.pointer (some ⟨gc, 2, none⟩))) rfl (by kernel_rfl) (by kernel_rfl) (by kernel_rfl) (by kernel_rfl) (by kernel_rfl) (fun _ _ _ h => h) (BL.cls W) ?_ ?_
  · refine Or.inl ⟨rfl, fun w hSw => ?_⟩
    exact EffR.same (by go_simp)
  try simp only [Act.put, List.setIfInBounds_toArray, List.set_cons_zero, List.set_cons_succ]
  refine wpAnyU_take (i := 8) (oi := { dst := some 12, op := Op.load 3 (Operand.tmp 11), type := 3, pos := "write.go:27", after := #[{ on := 7, ground := Ground.data }], guard := none }) (v := (.int .i64 x2)) rfl (by kernel_rfl) (by kernel_rfl) (by kernel_rfl) (by kernel_rfl) (by kernel_rfl) (fun _ _ _ h => h) (BL.cls W) ?_ ?_
  · refine Or.inl ⟨rfl, fun w hSw => ?_⟩
    have e0 := BL.cell hSw (HC.out 2 _ rfl)
    exact EffR.same (by go_simp)
  try simp only [Act.put, List.setIfInBounds_toArray, List.set_cons_zero, List.set_cons_succ]
  refine wpAnyU_take (i := 9) (oi := { dst := some 13, op := Op.fieldAddr 59 (Operand.tmp 3) 3, type := 0, pos := "write.go:27", after := #[], guard := none }) (v := (.pointer (some ⟨gc, 3, none⟩))) rfl (by kernel_rfl) (by kernel_rfl) (by kernel_rfl) (by kernel_rfl) (by kernel_rfl) (fun _ _ _ h => h) (BL.cls W) ?_ ?_
  · refine Or.inl ⟨rfl, fun w hSw => ?_⟩
    exact EffR.same (by go_simp)
  try simp only [Act.put, List.setIfInBounds_toArray, List.set_cons_zero, List.set_cons_succ]
  refine wpAnyU_take (i := 10) (oi := { dst := some 14, op := Op.load 3 (Operand.tmp 13), type := 3, pos := "write.go:27", after := #[{ on := 9, ground := Ground.data }], guard := none }) (v := (.int .i64 x3)) rfl (by kernel_rfl) (by kernel_rfl) (by kernel_rfl) (by kernel_rfl) (by kernel_rfl) (fun _ _ _ h => h) (BL.cls W) ?_ ?_
  · refine Or.inl ⟨rfl, fun w hSw => ?_⟩
    have e0 := BL.cell hSw (HC.out 3 _ rfl)
    exact EffR.same (by go_simp)
  try simp only [Act.put, List.setIfInBounds_toArray, List.set_cons_zero, List.set_cons_succ]
  refine wpAnyU_take (i := 11) (oi := { dst := some 15, op := Op.fieldAddr 59 (Operand.tmp 3) 4, type := 0, pos := "write.go:27", after := #[], guard := none }) (v := (.pointer (some ⟨gc, 4, none⟩))) rfl (by kernel_rfl) (by kernel_rfl) (by kernel_rfl) (by kernel_rfl) (by kernel_rfl) (fun _ _ _ h => h) (BL.cls W) ?_ ?_
  · refine Or.inl ⟨rfl, fun w hSw => ?_⟩
    exact EffR.same (by go_simp)
  try simp only [Act.put, List.setIfInBounds_toArray, List.set_cons_zero, List.set_cons_succ]
  refine wpAnyU_take (i := 12) (oi := { dst := some 16, op := Op.load 3 (Operand.tmp 15), type := 3, pos := "write.go:27", after := #[{ on := 11, ground := Ground.data }], guard := none }) (v := (.int .i64 x4)) rfl (by kernel_rfl) (by kernel_rfl) (by kernel_rfl) (by kernel_rfl) (by kernel_rfl) (fun _ _ _ h => h) (BL.cls W) ?_ ?_
  · refine Or.inl ⟨rfl, fun w hSw => ?_⟩
    have e0 := BL.cell hSw (HC.out 4 _ rfl)
    exact EffR.same (by go_simp)
  try simp only [Act.put, List.setIfInBounds_toArray, List.set_cons_zero, List.set_cons_succ]
  refine wpAnyU_take (i := 13) (oi := { dst := some 17, op := Op.fieldAddr 59 (Operand.tmp 3) 5, type := 0, pos := "write.go:27", after := #[], guard := none }) (v := (.pointer (some ⟨gc, 5, none⟩))) rfl (by kernel_rfl) (by kernel_rfl) (by kernel_rfl) (by kernel_rfl) (by kernel_rfl) (fun _ _ _ h => h) (BL.cls W) ?_ ?_
  · refine Or.inl ⟨rfl, fun w hSw => ?_⟩
    exact EffR.same (by go_simp)
  try simp only [Act.put, List.setIfInBounds_toArray, List.set_cons_zero, List.set_cons_succ]
  refine wpAnyU_take (i := 14) (oi := { dst := some 18, op := Op.load 3 (Operand.tmp 17), type := 3, pos := "write.go:27", after := #[{ on := 13, ground := Ground.data }], guard := none }) (v := (.int .i64 x5)) rfl (by kernel_rfl) (by kernel_rfl) (by kernel_rfl) (by kernel_rfl) (by kernel_rfl) (fun _ _ _ h => h) (BL.cls W) ?_ ?_
  · refine Or.inl ⟨rfl, fun w hSw => ?_⟩
    have e0 := BL.cell hSw (HC.out 5 _ rfl)
    exact EffR.same (by go_simp)
  try simp only [Act.put, List.setIfInBounds_toArray, List.set_cons_zero, List.set_cons_succ]
  refine wpAnyU_take (i := 15) (oi := { dst := some 19, op := Op.fieldAddr 59 (Operand.tmp 3) 6, type := 0, pos := "write.go:27", after := #[], guard := none }) (v := (.pointer (some ⟨gc, 6, none⟩))) rfl (by kernel_rfl) (by kernel_rfl) (by kernel_rfl) (by kernel_rfl) (by kernel_rfl) (fun _ _ _ h => h) (BL.cls W) ?_ ?_
  · refine Or.inl ⟨rfl, fun w hSw => ?_⟩
    exact EffR.same (by go_simp)
  try simp only [Act.put, List.setIfInBounds_toArray, List.set_cons_zero, List.set_cons_succ]
  refine wpAnyU_take (i := 16) (oi := { dst := some 20, op := Op.load 3 (Operand.tmp 19), type := 3, pos := "write.go:27", after := #[{ on := 15, ground := Ground.data }], guard := none }) (v := (.int .i64 x6)) rfl (by kernel_rfl) (by kernel_rfl) (by kernel_rfl) (by kernel_rfl) (by kernel_rfl) (fun _ _ _ h => h) (BL.cls W) ?_ ?_
  · refine Or.inl ⟨rfl, fun w hSw => ?_⟩
    have e0 := BL.cell hSw (HC.out 6 _ rfl)
    exact EffR.same (by go_simp)
  try simp only [Act.put, List.setIfInBounds_toArray, List.set_cons_zero, List.set_cons_succ]
  refine wpAnyU_take (i := 17) (oi := { dst := some 21, op := Op.fieldAddr 59 (Operand.tmp 3) 7, type := 0, pos := "write.go:27", after := #[], guard := none }) (v := (.pointer (some ⟨gc, 7, none⟩))) rfl (by kernel_rfl) (by kernel_rfl) (by kernel_rfl) (by kernel_rfl) (by kernel_rfl) (fun _ _ _ h => h) (BL.cls W) ?_ ?_
  · refine Or.inl ⟨rfl, fun w hSw => ?_⟩
    exact EffR.same (by go_simp)
  try simp only [Act.put, List.setIfInBounds_toArray, List.set_cons_zero, List.set_cons_succ]
  refine wpAnyU_take (i := 18) (oi := { dst := some 22, op := Op.load 3 (Operand.tmp 21), type := 3, pos := "write.go:27", after := #[{ on := 17, ground := Ground.data }], guard := none }) (v := (.int .i64 x7)) rfl (by kernel_rfl) (by kernel_rfl) (by kernel_rfl) (by kernel_rfl) (by kernel_rfl) (fun _ _ _ h => h) (BL.cls W) ?_ ?_
  · refine Or.inl ⟨rfl, fun w hSw => ?_⟩
    have e0 := BL.cell hSw (HC.out 7 _ rfl)
    exact EffR.same (by go_simp)
  try simp only [Act.put, List.setIfInBounds_toArray, List.set_cons_zero, List.set_cons_succ]
  refine wpAnyU_take (i := 19) (oi := { dst := some 23, op := Op.fieldAddr 59 (Operand.tmp 3) 8, type := 0, pos := "write.go:27", after := #[], guard := none }) (v := (.pointer (some ⟨gc, 8, none⟩))) rfl (by kernel_rfl) (by kernel_rfl) (by kernel_rfl) (by kernel_rfl) (by kernel_rfl) (fun _ _ _ h => h) (BL.cls W) ?_ ?_
  · refine Or.inl ⟨rfl, fun w hSw => ?_⟩
    exact EffR.same (by go_simp)
  try simp only [Act.put, List.setIfInBounds_toArray, List.set_cons_zero, List.set_cons_succ]
  refine wpAnyU_take (i := 20) (oi := { dst := some 24, op := Op.load 3 (Operand.tmp 23), type := 3, pos := "write.go:27", after := #[{ on := 19, ground := Ground.data }], guard := none }) (v := (.int .i64 x8)) rfl (by kernel_rfl) (by kernel_rfl) (by kernel_rfl) (by kernel_rfl) (by kernel_rfl) (fun _ _ _ h => h) (BL.cls W) ?_ ?_
  · refine Or.inl ⟨rfl, fun w hSw => ?_⟩
    have e0 := BL.cell hSw (HC.out 8 _ rfl)
    exact EffR.same (by go_simp)
  try simp only [Act.put, List.setIfInBounds_toArray, List.set_cons_zero, List.set_cons_succ]
  refine wpAnyU_take (i := 21) (oi := { dst := some 25, op := Op.fieldAddr 59 (Operand.tmp 3) 9, type := 0, pos := "write.go:27", after := #[], guard := none }) (v := (.pointer (some ⟨gc, 9, none⟩))) rfl (by kernel_rfl) (by kernel_rfl) (by kernel_rfl) (by kernel_rfl) (by kernel_rfl) (fun _ _ _ h => h) (BL.cls W) ?_ ?_
  · refine Or.inl ⟨rfl, fun w hSw => ?_⟩
    exact EffR.same (by go_simp)
  try simp only [Act.put, List.setIfInBounds_toArray, List.set_cons_zero, List.set_cons_succ]
  refine wpAnyU_take (i := 22) (oi := { dst := some 26, op := Op.load 3 (Operand.tmp 25), type := 3, pos := "write.go:27", after := #[{ on := 21, ground := Ground.data }], guard := none }) (v := (.int .i64 x9)) rfl (by kernel_rfl) (by kernel_rfl) (by kernel_rfl) (by kernel_rfl) (by kernel_rfl) (fun _ _ _ h => h) (BL.cls W) ?_ ?_
  · refine Or.inl ⟨rfl, fun w hSw => ?_⟩
    have e0 := BL.cell hSw (HC.out 9 _ rfl)
    exact EffR.same (by go_simp)
  try simp only [Act.put, List.setIfInBounds_toArray, List.set_cons_zero, List.set_cons_succ]
  refine wpAnyU_take (i := 23) (oi := { dst := some 27, op := Op.fieldAddr 59 (Operand.tmp 3) 10, type := 0, pos := "write.go:27", after := #[], guard := none }) (v := (.pointer (some ⟨gc, 10, none⟩))) rfl (by kernel_rfl) (by kernel_rfl) (by kernel_rfl) (by kernel_rfl) (by kernel_rfl) (fun _ _ _ h => h) (BL.cls W) ?_ ?_
  · refine Or.inl ⟨rfl, fun w hSw => ?_⟩
    exact EffR.same (by go_simp)
  try simp only [Act.put, List.setIfInBounds_toArray, List.set_cons_zero, List.set_cons_succ]
  refine wpAnyU_take (i := 24) (oi := { dst := some 28, op := Op.load 3 (Operand.tmp 27), type := 3, pos := "write.go:27", after := #[{ on := 23, ground := Ground.data }], guard := none }) (v := (.int .i64 x10)) rfl (by kernel_rfl) (by kernel_rfl) (by kernel_rfl) (by kernel_rfl) (by kernel_rfl) (fun _ _ _ h => h) (BL.cls W) ?_ ?_
  · refine Or.inl ⟨rfl, fun w hSw => ?_⟩
    have e0 := BL.cell hSw (HC.out 10 _ rfl)
    exact EffR.same (by go_simp)
  try simp only [Act.put, List.setIfInBounds_toArray, List.set_cons_zero, List.set_cons_succ]
  refine wpAnyU_ready (rs := [25]) (by kernel_rfl) (by simp) ?_
  refine AllReadyU.cons (o := { dst := some 29, op := Op.buildSlice 155 11 #[(0, Operand.tmp 8), (1, Operand.tmp 10), (2, Operand.tmp 12), (3, Operand.tmp 14), (4, Operand.tmp 16), (5, Operand.tmp 18), (6, Operand.tmp 20), (7, Operand.tmp 22), (8, Operand.tmp 24), (9, Operand.tmp 26), (10, Operand.tmp 28)], type := 155, pos := "write.go:27", after := #[{ on := 4, ground := Ground.data }, { on := 6, ground := Ground.data }, { on := 8, ground := Ground.data }, { on := 10, ground := Ground.data }, { on := 12, ground := Ground.data }, { on := 14, ground := Ground.data }, { on := 16, ground := Ground.data }, { on := 18, ground := Ground.data }, { on := 20, ground := Ground.data }, { on := 22, ground := Ground.data }, { on := 24, ground := Ground.data }], guard := none }) rfl (fun wA25 hA25 K hK => ?_) AllReadyU.nil
  go_simp
  refine hK.out _ _ (BL (wA25.alloc (.cells #[.int .i64 x0, .int .i64 x1, .int .i64 x2, .int .i64 x3, .int .i64 x4, .int .i64 x5, .int .i64 x6, .int .i64 x7, .int .i64 x8, .int .i64 x9, .int .i64 x10] 3))) (BL.cls' (hA25.alloc (Below.size hA25) _)) (Below.refl _ _) ?_
  clear hK K
  try simp only [Act.put, List.setIfInBounds_toArray, List.set_cons_zero, List.set_cons_succ]
  refine wpAnyU_last (o := { dst := some 30, op := Op.call { callee := Callee.value (Operand.func 55), args := #[Operand.tmp 6, Operand.tmp 29], argTypes := #[78, 155] }, type := 0, pos := "write.go:27", after := #[{ on := 2, ground := Ground.data }, { on := 25, ground := Ground.data }], guard := none }) (by kernel_rfl) (by kernel_rfl) rfl (fun w1 hb1 K hK => ?_)
  go_simp
  have hbl : Below W.heap.size W w1 := (Below.alloc hA25 hA25.size (.cells #[.int .i64 x0, .int .i64 x1, .int .i64 x2, .int .i64 x3, .int .i64 x4, .int .i64 x5, .int .i64 x6, .int .i64 x7, .int .i64 x8, .int .i64 x9, .int .i64 x10] 3)).trans (hb1.mono (by simp; exact Nat.le_succ_of_le hA25.size))
  have hp1 := HP.out.below hbl
  have his : Is (wA25.alloc (.cells #[.int .i64 x0, .int .i64 x1, .int .i64 x2, .int .i64 x3, .int .i64 x4, .int .i64 x5, .int .i64 x6, .int .i64 x7, .int .i64 x8, .int .i64 x9, .int .i64 x10] 3)) (.slice (some ⟨wA25.heap.size, 0, none⟩) 11 11) [x0, x1, x2, x3, x4, x5, x6, x7, x8, x9, x10] := Is.block (l := [x0, x1, x2, x3, x4, x5, x6, x7, x8, x9, x10]) (heap_new rfl) (Nat.le_refl _) (by simp [maxLen])
  have his1 := his.mono hb1
  refine (WInt_any w1 g v l lg _ _ hp1 his1 (fun w2 hk => his1.kept1 hk (fun _ k hi e => ?_)) HR.out.1 (by have := HLEN.out; simp; omega)).mono ?_
  · obtain ⟨ad, n, c, hv, rfl⟩ := hi
    injection hv with h5
    injection h5 with h5
    subst h5
    have h6 := hA25.size
    rcases e with e | e
    · have := HP.out.lt
      simp only at e
      omega
    · have := (HP.out.row _ e).2
      simp only at this
      omega
  rintro e w2 ⟨rfl, hpo⟩
  have HPO := Lib.hid (hpo.pre hbl)
  clear hbl hp1 his his1 hpo
  refine hK.out _ _ ?_
  clear hK K
  try simp only [Act.put, List.setIfInBounds_toArray, List.set_cons_zero, List.set_cons_succ]
  obtain ⟨v1, hp2, hk2, ho2⟩ := HPO.out
  have HP2 := Lib.hid hp2
  have HK2 := Lib.hid hk2
  have HO2 := Lib.hid ho2
  have hcW := HT.keptH HC2.out hk2 (fun e => e.elim (fun e => HNG.out e) (fun e => HNV.out e))
  have HIS2 := Lib.hid (is_tail (ys := [x0, x1, x2, x3, x4, x5, x6, x7, x8, x9, x10]) (zs := [x11, x12, x13, x14, x15, x16]) hcW (by simp))
  have HNE : Hid (gc ≠ g ∧ v1.ownBlock ≠ some gc) := ⟨HNG.out, fun e => by
    rcases HO2.out gc e with h | h
    · exact HNV.out h
    · have := HC2.out.lt
      omega⟩
  clear hp2 hk2 ho2 hcW hb1
  generalize w2 = W2 at *
  go_wp2_with fail
  refine wp_region_bl 5 (by kernel_rfl) ?_
  refine wpAnyU_take (i := 0) (oi := { dst := some 31, op := Op.move (Operand.tmp 0), type := 83, pos := "write.go:28", after := #[], guard := none }) (v := (.pointer (some ⟨g, 0, none⟩))) rfl (by kernel_rfl) (by kernel_rfl) (by kernel_rfl) (by kernel_rfl) (by kernel_rfl) (fun _ _ _ h => h) (BL.cls W2) ?_ ?_
  · refine Or.inl ⟨rfl, fun w hSw => ?_⟩
    exact EffR.same (by go_simp)
  try simp only [Act.put, List.setIfInBounds_toArray, List.set_cons_zero, List.set_cons_succ]
  refine wpAnyU_take (i := 1) (oi := { dst := some 32, op := Op.nilCheck (Operand.tmp 31), type := 0, pos := "write.go:28", after := #[{ on := 0, ground := Ground.data }], guard := none }) (v := (.pointer (some ⟨g, 0, none⟩))) rfl (by kernel_rfl) (by kernel_rfl) (by kernel_rfl) (by kernel_rfl) (by kernel_rfl) (fun _ _ _ h => h) (BL.cls W2) ?_ ?_
  · refine Or.inl ⟨rfl, fun w hSw => ?_⟩
    exact EffR.same (by go_simp)
  try simp only [Act.put, List.setIfInBounds_toArray, List.set_cons_zero, List.set_cons_succ]
  refine wpAnyU_take (i := 2) (oi := { dst := some 33, op := Op.fieldAddr 80 (Operand.tmp 32) 0, type := 0, pos := "write.go:28", after := #[{ on := 1, ground := Ground.data }], guard := none }) (v := (.pointer (some ⟨g, 0, none⟩))) rfl (by kernel_rfl) (by kernel_rfl) (by kernel_rfl) (by kernel_rfl) (by kernel_rfl) (fun _ _ _ h => h) (BL.cls W2) ?_ ?_
  · refine Or.inl ⟨rfl, fun w hSw => ?_⟩
    exact EffR.same (by go_simp)
  try simp only [Act.put, List.setIfInBounds_toArray, List.set_cons_zero, List.set_cons_succ]
  refine wpAnyU_take (i := 3) (oi := { dst := some 34, op := Op.fieldAddr 59 (Operand.tmp 3) 11, type := 0, pos := "write.go:28", after := #[], guard := none }) (v := (.pointer (some ⟨gc, 11, none⟩))) rfl (by kernel_rfl) (by kernel_rfl) (by kernel_rfl) (by kernel_rfl) (by kernel_rfl) (fun _ _ _ h => h) (BL.cls W2) ?_ ?_
  · refine Or.inl ⟨rfl, fun w hSw => ?_⟩
    exact EffR.same (by go_simp)
  try simp only [Act.put, List.setIfInBounds_toArray, List.set_cons_zero, List.set_cons_succ]
  refine wpAnyU_take (i := 4) (oi := { dst := some 35, op := Op.slice 57 (Operand.tmp 34) none none none, type := 155, pos := "write.go:28", after := #[{ on := 3, ground := Ground.data }], guard := none }) (v := (.slice (some ⟨gc, 11, none⟩) 6 6)) rfl (by kernel_rfl) (by kernel_rfl) (by kernel_rfl) (by kernel_rfl) (by kernel_rfl) (fun _ _ _ h => h) (BL.cls W2) ?_ ?_
  · refine Or.inl ⟨rfl, fun w hSw => ?_⟩
    exact EffR.same (by go_simp)
  try simp only [Act.put, List.setIfInBounds_toArray, List.set_cons_zero, List.set_cons_succ]
  refine wpAnyU_last (o := { dst := some 36, op := Op.call { callee := Callee.value (Operand.func 55), args := #[Operand.tmp 33, Operand.tmp 35], argTypes := #[78, 155] }, type := 0, pos := "write.go:28", after := #[{ on := 2, ground := Ground.data }, { on := 4, ground := Ground.data }], guard := none }) (by kernel_rfl) (by kernel_rfl) rfl (fun w2 hb2 K hK => ?_)
  go_simp
  have hp2 := HP2.out.below hb2
  have his2 := HIS2.out.mono hb2
  refine (WInt_any _ g v1 (l ++ encIs [x0, x1, x2, x3, x4, x5, x6, x7, x8, x9, x10]) lg _ _ hp2 his2 (fun w2 hk => his2.kept1 hk (fun _ k hi e => ?_)) HR.out.2 (by have := HLEN.out; have := encIs_length [x0, x1, x2, x3, x4, x5, x6, x7, x8, x9, x10] HR.out.1; simp at this ⊢; omega)).mono ?_
  · obtain ⟨ad, n, c, hv, rfl⟩ := hi
    injection hv with h5
    injection h5 with h5
    subst h5
    rcases e with e | e
    · exact HNE.out.1 e
    · exact HNE.out.2 e
  rintro e w3 ⟨rfl, hpo⟩
  have HPO2 := Lib.hid (hpo.pre hb2)
  clear hp2 his2 hpo
  refine hK.out _ _ ?_
  clear hK K
  try simp only [Act.put, List.setIfInBounds_toArray, List.set_cons_zero, List.set_cons_succ]
  go_wp2_with fail
  go_end0
  refine ⟨rfl, ?_⟩
  have hf := PWPost.next ⟨HP2.out, HK2.out, HO2.out⟩ HPO2.out
  have e : l ++ encIs [x0, x1, x2, x3, x4, x5, x6, x7, x8, x9, x10] ++ encIs [x11, x12, x13, x14, x15, x16] = l ++ encIs [x0, x1, x2, x3, x4, x5, x6, x7, x8, x9, x10, x11, x12, x13, x14, x15, x16] := by rw [List.append_assoc]; simp [encIs]
  rw [e] at hf
  have hbx := HBX.out
  rw [HGC.out] at hbx
  exact PWPost.pre hbx hf
end Cam
