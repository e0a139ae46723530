import Derived.Test.YtgeclnjkkjmbaaaGreatWrC
/- wire.writer: due, fall. -/
namespace Cam
open Go Go.RowKit Go.Proofs
variable {tw : TypeId} {rs : List Value}

theorem is_mid {w : World} {g : Nat} {t : TypeId} {ys zs us : List Int} (h : HT w g t ((ys ++ (zs ++ us)).map (Value.int .i64))) (hs : zs.length ≤ 1000) : Is w (.slice (some ⟨g, ys.length, none⟩) zs.length zs.length) zs := by
  refine ⟨by simp, some ⟨g, ys.length, none⟩, zs.length, rfl, Nat.le_refl _, by unfold maxLen; omega, (fun e => by cases e), fun ad had i u hu => ?_⟩
  cases had
  rw [add_none]
  refine h.cell ?_
  rw [List.map_append, List.getElem?_append_right (by simp), List.map_append]
  have hi : i < (zs.map (Value.int .i64)).length := (List.getElem?_eq_some_iff.1 hu).1
  rw [List.length_map, Nat.add_sub_cancel_left, List.getElem?_append_left hi]
  exact hu
set_option maxRecDepth 100000 in
set_option maxHeartbeats 1600000 in
theorem wdue_any (w : World) (g : Nat) (v : Value) (l : List UInt8) (lg : Bool) (x0 x1 x2 : Int) (hp : PW tw rs w g v l lg) (hr : ∀ n ∈ [x0, x1, x2], -9223372036854775808 ≤ n ∧ n ≤ 9223372036854775807) (hlen : l.length ≤ 35184372088832) :
    Calls Tryz.prog 108 #[.pointer (some ⟨g, 0, none⟩), .agg #[.int .i64 x0, .int .i64 x1, .int .i64 x2]] w fun e w' => e = .returned (.tuple #[]) ∧ PWPost tw rs w g v (l ++ encIs [x0, x1, x2]) lg w' := by
  have hbx := (Below.refl w.heap.size w).alloc (Nat.le_refl _) (.cells #[.int .i64 x0, .int .i64 x1, .int .i64 x2] 106)
  have hc : HT (w.alloc (.cells #[.int .i64 x0, .int .i64 x1, .int .i64 x2] 106)) w.heap.size 106 [.int .i64 x0, .int .i64 x1, .int .i64 x2] := HT.new (w := w)
  have hng : w.heap.size ≠ g := by have := hp.lt; omega
  have hnv : v.ownBlock ≠ some w.heap.size := fun e => by have := (hp.row _ e).2; omega
  have HP0 := Lib.hid (hp.below hbx)
  have HBX := Lib.hid hbx
  have HC0 := Lib.hid hc
  have HCC0 := Lib.hid (fun (j : Nat) (u : Value) (h : [.int .i64 x0, .int .i64 x1, .int .i64 x2][j]? = some u) => hc.cell h)
  have HNE0 : Hid (w.heap.size ≠ g ∧ v.ownBlock ≠ some w.heap.size) := ⟨hng, hnv⟩
  have HR := Lib.hid hr
  have HLEN := Lib.hid hlen
  clear hbx hc hng hnv hp hr hlen
  go_enter Tryz.func108, Tryz.ntmps108
  go_wp2_with fail
  generalize hW : (w.alloc (.cells #[.int .i64 x0, .int .i64 x1, .int .i64 x2] 106)) = W0 at *
  clear hW
  have HK0 : Hid (Kept (fun k => k = g ∨ v.ownBlock = some k) W0 W0) := Kept.refl _ _
  have HO0 : Hid (∀ k, v.ownBlock = some k → v.ownBlock = some k ∨ W0.heap.size ≤ k) := fun k h => .inl h
  generalize hgc : w.heap.size = gc at *
  have HGC : Hid (gc = w.heap.size) := hgc.symm
  clear hgc
  refine wp_region_bl 10 (by kernel_rfl) ?_
  refine wpAnyU_take (i := 0) (oi := { dst := some 4, op := Op.move (Operand.tmp 0), type := 83, pos := "write.go:31", after := #[], guard := none }) (v := (.pointer (some ⟨g, 0, none⟩))) rfl (by kernel_rfl) (by kernel_rfl) (by kernel_rfl) (by kernel_rfl) (by kernel_rfl) (fun _ _ _ h => h) (BL.cls W0) ?_ ?_
  · refine Or.inl ⟨rfl, fun w hSw => ?_⟩
    exact EffR.same (by go_simp)
  try simp only [Act.put, List.setIfInBounds_toArray, List.set_cons_zero, List.set_cons_succ]
  refine wpAnyU_take (i := 1) (oi := { dst := some 5, op := Op.nilCheck (Operand.tmp 4), type := 0, pos := "write.go:31", after := #[{ on := 0, ground := Ground.data }], guard := none }) (v := (.pointer (some ⟨g, 0, none⟩))) rfl (by kernel_rfl) (by kernel_rfl) (by kernel_rfl) (by kernel_rfl) (by kernel_rfl) (fun _ _ _ h => h) (BL.cls W0) ?_ ?_
  · refine Or.inl ⟨rfl, fun w hSw => ?_⟩
    exact EffR.same (by go_simp)
  try simp only [Act.put, List.setIfInBounds_toArray, List.set_cons_zero, List.set_cons_succ]
  refine wpAnyU_take (i := 2) (oi := { dst := some 6, op := Op.fieldAddr 80 (Operand.tmp 5) 0, type := 0, pos := "write.go:31", after := #[{ on := 1, ground := Ground.data }], guard := none }) (v := (.pointer (some ⟨g, 0, none⟩))) rfl (by kernel_rfl) (by kernel_rfl) (by kernel_rfl) (by kernel_rfl) (by kernel_rfl) (fun _ _ _ h => h) (BL.cls W0) ?_ ?_
  · refine Or.inl ⟨rfl, fun w hSw => ?_⟩
    exact EffR.same (by go_simp)
  try simp only [Act.put, List.setIfInBounds_toArray, List.set_cons_zero, List.set_cons_succ]
  refine wpAnyU_take (i := 3) (oi := { dst := some 7, op := Op.fieldAddr 106 (Operand.tmp 3) 0, type := 0, pos := "write.go:31", after := #[], guard := none }) (v := (.pointer (some ⟨gc, 0, none⟩))) rfl (by kernel_rfl) (by kernel_rfl) (by kernel_rfl) (by kernel_rfl) (by kernel_rfl) (fun _ _ _ h => h) (BL.cls W0) ?_ ?_
  · refine Or.inl ⟨rfl, fun w hSw => ?_⟩
    exact EffR.same (by go_simp)
  try simp only [Act.put, List.setIfInBounds_toArray, List.set_cons_zero, List.set_cons_succ]
  refine wpAnyU_take (i := 4) (oi := { dst := some 8, op := Op.load 3 (Operand.tmp 7), type := 3, pos := "write.go:31", after := #[{ on := 3, ground := Ground.data }], guard := none }) (v := (.int .i64 x0)) rfl (by kernel_rfl) (by kernel_rfl) (by kernel_rfl) (by kernel_rfl) (by kernel_rfl) (fun _ _ _ h => h) (BL.cls W0) ?_ ?_
  · refine Or.inl ⟨rfl, fun w hSw => ?_⟩
    have e0 := BL.cell hSw (HCC0.out 0 _ rfl)
    exact EffR.same (by go_simp)
  try simp only [Act.put, List.setIfInBounds_toArray, List.set_cons_zero, List.set_cons_succ]
  refine wpAnyU_take (i := 5) (oi := { dst := some 9, op := Op.fieldAddr 106 (Operand.tmp 3) 1, type := 0, pos := "write.go:31", after := #[], guard := none }) (v := (.pointer (some ⟨gc, 1, none⟩))) rfl (by kernel_rfl) (by kernel_rfl) (by kernel_rfl) (by kernel_rfl) (by kernel_rfl) (fun _ _ _ h => h) (BL.cls W0) ?_ ?_
  · refine Or.inl ⟨rfl, fun w hSw => ?_⟩
    exact EffR.same (by go_simp)
  try simp only [Act.put, List.setIfInBounds_toArray, List.set_cons_zero, List.set_cons_succ]
  refine wpAnyU_take (i := 6) (oi := { dst := some 10, op := Op.load 3 (Operand.tmp 9), type := 3, pos := "write.go:31", after := #[{ on := 5, ground := Ground.data }], guard := none }) (v := (.int .i64 x1)) rfl (by kernel_rfl) (by kernel_rfl) (by kernel_rfl) (by kernel_rfl) (by kernel_rfl) (fun _ _ _ h => h) (BL.cls W0) ?_ ?_
  · refine Or.inl ⟨rfl, fun w hSw => ?_⟩
    have e0 := BL.cell hSw (HCC0.out 1 _ rfl)
    exact EffR.same (by go_simp)
  try simp only [Act.put, List.setIfInBounds_toArray, List.set_cons_zero, List.set_cons_succ]
  refine wpAnyU_take (i := 7) (oi := { dst := some 11, op := Op.fieldAddr 106 (Operand.tmp 3) 2, type := 0, pos := "write.go:31", after := #[], guard := none }) (v := (.pointer (some ⟨gc, 2, none⟩))) rfl (by kernel_rfl) (by kernel_rfl) (by kernel_rfl) (by kernel_rfl) (by kernel_rfl) (fun _ _ _ h => h) (BL.cls W0) ?_ ?_
  · refine Or.inl ⟨rfl, fun w hSw => ?_⟩
    exact EffR.same (by go_simp)
  try simp only [Act.put, List.setIfInBounds_toArray, List.set_cons_zero, List.set_cons_succ]
  refine wpAnyU_take (i := 8) (oi := { dst := some 12, op := Op.load 3 (Operand.tmp 11), type := 3, pos := "write.go:31", after := #[{ on := 7, ground := Ground.data }], guard := none }) (v := (.int .i64 x2)) rfl (by kernel_rfl) (by kernel_rfl) (by kernel_rfl) (by kernel_rfl) (by kernel_rfl) (fun _ _ _ h => h) (BL.cls W0) ?_ ?_
  · refine Or.inl ⟨rfl, fun w hSw => ?_⟩
    have e0 := BL.cell hSw (HCC0.out 2 _ rfl)
    exact EffR.same (by go_simp)
  try simp only [Act.put, List.setIfInBounds_toArray, List.set_cons_zero, List.set_cons_succ]
  refine wpAnyU_ready (rs := [9]) (by kernel_rfl) (by simp) ?_
  refine AllReadyU.cons (o := { dst := some 13, op := Op.buildSlice 155 3 #[(0, Operand.tmp 8), (1, Operand.tmp 10), (2, Operand.tmp 12)], type := 155, pos := "write.go:31", after := #[{ on := 4, ground := Ground.data }, { on := 6, ground := Ground.data }, { on := 8, ground := Ground.data }], guard := none }) rfl (fun wA9 hA9 K hK => ?_) AllReadyU.nil
  go_simp
  refine hK.out _ _ (BL (wA9.alloc (.cells #[.int .i64 x0, .int .i64 x1, .int .i64 x2] 3))) (BL.cls' (hA9.alloc (Below.size hA9) _)) (Below.refl _ _) ?_
  clear hK K
  try simp only [Act.put, List.setIfInBounds_toArray, List.set_cons_zero, List.set_cons_succ]
  refine wpAnyU_last (o := { dst := some 14, op := Op.call { callee := Callee.value (Operand.func 55), args := #[Operand.tmp 6, Operand.tmp 13], argTypes := #[78, 155] }, type := 0, pos := "write.go:31", after := #[{ on := 2, ground := Ground.data }, { on := 9, ground := Ground.data }], guard := none }) (by kernel_rfl) (by kernel_rfl) rfl (fun w1 hb1 K hK => ?_)
  go_simp
  have hbl : Below W0.heap.size W0 w1 := (Below.alloc hA9 hA9.size (.cells #[.int .i64 x0, .int .i64 x1, .int .i64 x2] 3)).trans (hb1.mono (by simp; exact Nat.le_succ_of_le hA9.size))
  have hp1 := HP0.out.below hbl
  have his : Is (wA9.alloc (.cells #[.int .i64 x0, .int .i64 x1, .int .i64 x2] 3)) (.slice (some ⟨wA9.heap.size, 0, none⟩) 3 3) [x0, x1, x2] := Is.block (l := [x0, x1, x2]) (heap_new rfl) (Nat.le_refl _) (by simp [maxLen])
  have his1 := his.mono hb1
  refine (WInt_any w1 g v l lg _ _ hp1 his1 (fun w2 hk => his1.kept1 hk (fun _ k hi e => ?_)) (fun n hn => HR.out n (by rw [show [x0, x1, x2] = [] ++ ([x0, x1, x2] ++ []) from rfl]; exact List.mem_append_right _ (List.mem_append_left _ hn))) (by have := HLEN.out; simp; omega)).mono ?_
  · obtain ⟨ad, n, c, hv, rfl⟩ := hi
    injection hv with h5
    injection h5 with h5
    subst h5
    have h6 := hA9.size
    rcases e with e | e'
    · have := HP0.out.lt
      simp only at e
      omega
    · have := (HP0.out.row _ e').2
      simp only at this
      omega
  rintro e wn ⟨rfl, hpo⟩
  have HPO := Lib.hid (hpo.pre hbl)
  clear hbl hp1 his his1 hpo hb1
  refine hK.out _ _ ?_
  clear hK K
  try simp only [Act.put, List.setIfInBounds_toArray, List.set_cons_zero, List.set_cons_succ]
  have hf := PWPost.next ⟨HP0.out, HK0.out, HO0.out⟩ HPO.out
  clear HPO
  go_wp2_with fail
  go_end0
  exact ⟨rfl, PWPost.pre (by rw [← HGC.out]; exact HBX.out) hf⟩
set_option maxRecDepth 100000 in
set_option maxHeartbeats 1600000 in
theorem wfall_any (w : World) (g : Nat) (v : Value) (l : List UInt8) (lg : Bool) (x0 x1 x2 x3 x4 x5 x6 x7 : Int) (hp : PW tw rs w g v l lg) (hr : ∀ n ∈ [x0, x1, x2, x3, x4, x5, x6, x7], -9223372036854775808 ≤ n ∧ n ≤ 9223372036854775807) (hlen : l.length ≤ 35184372088832) :
    Calls Tryz.prog 110 #[.pointer (some ⟨g, 0, none⟩), .agg #[.int .i64 x0, .int .i64 x1, .int .i64 x2, .int .i64 x3, .int .i64 x4, .int .i64 x5, .int .i64 x6, .int .i64 x7]] w fun e w' => e = .returned (.tuple #[]) ∧ PWPost tw rs w g v (l ++ encIs [x0, x1, x2, x3, x4, x5, x6, x7]) lg w' := by
  have hbx := (Below.refl w.heap.size w).alloc (Nat.le_refl _) (.cells #[.int .i64 x0, .int .i64 x1, .int .i64 x2, .int .i64 x3, .int .i64 x4, .int .i64 x5, .int .i64 x6, .int .i64 x7] 159)
  have hc : HT (w.alloc (.cells #[.int .i64 x0, .int .i64 x1, .int .i64 x2, .int .i64 x3, .int .i64 x4, .int .i64 x5, .int .i64 x6, .int .i64 x7] 159)) w.heap.size 159 [.int .i64 x0, .int .i64 x1, .int .i64 x2, .int .i64 x3, .int .i64 x4, .int .i64 x5, .int .i64 x6, .int .i64 x7] := HT.new (w := w)
  have hng : w.heap.size ≠ g := by have := hp.lt; omega
  have hnv : v.ownBlock ≠ some w.heap.size := fun e => by have := (hp.row _ e).2; omega
  have HP0 := Lib.hid (hp.below hbx)
  have HBX := Lib.hid hbx
  have HC0 := Lib.hid hc
  have HCC0 := Lib.hid (fun (j : Nat) (u : Value) (h : [.int .i64 x0, .int .i64 x1, .int .i64 x2, .int .i64 x3, .int .i64 x4, .int .i64 x5, .int .i64 x6, .int .i64 x7][j]? = some u) => hc.cell h)
  have HNE0 : Hid (w.heap.size ≠ g ∧ v.ownBlock ≠ some w.heap.size) := ⟨hng, hnv⟩
  have HR := Lib.hid hr
  have HLEN := Lib.hid hlen
  clear hbx hc hng hnv hp hr hlen
  go_enter Tryz.func110, Tryz.ntmps110
  go_wp2_with fail
  generalize hW : (w.alloc (.cells #[.int .i64 x0, .int .i64 x1, .int .i64 x2, .int .i64 x3, .int .i64 x4, .int .i64 x5, .int .i64 x6, .int .i64 x7] 159)) = W0 at *
  clear hW
  have HK0 : Hid (Kept (fun k => k = g ∨ v.ownBlock = some k) W0 W0) := Kept.refl _ _
  have HO0 : Hid (∀ k, v.ownBlock = some k → v.ownBlock = some k ∨ W0.heap.size ≤ k) := fun k h => .inl h
  generalize hgc : w.heap.size = gc at *
  have HGC : Hid (gc = w.heap.size) := hgc.symm
  clear hgc
  refine wp_region_bl 8 (by kernel_rfl) ?_
  refine wpAnyU_take (i := 0) (oi := { dst := some 4, op := Op.move (Operand.tmp 0), type := 83, pos := "write.go:34", after := #[], guard := none }) (v := (.pointer (some ⟨g, 0, none⟩))) rfl (by kernel_rfl) (by kernel_rfl) (by kernel_rfl) (by kernel_rfl) (by kernel_rfl) (fun _ _ _ h => h) (BL.cls W0) ?_ ?_
  · refine Or.inl ⟨rfl, fun w hSw => ?_⟩
    exact EffR.same (by go_simp)
  try simp only [Act.put, List.setIfInBounds_toArray, List.set_cons_zero, List.set_cons_succ]
  refine wpAnyU_take (i := 1) (oi := { dst := some 5, op := Op.nilCheck (Operand.tmp 4), type := 0, pos := "write.go:34", after := #[{ on := 0, ground := Ground.data }], guard := none }) (v := (.pointer (some ⟨g, 0, none⟩))) rfl (by kernel_rfl) (by kernel_rfl) (by kernel_rfl) (by kernel_rfl) (by kernel_rfl) (fun _ _ _ h => h) (BL.cls W0) ?_ ?_
  · refine Or.inl ⟨rfl, fun w hSw => ?_⟩
    exact EffR.same (by go_simp)
  try simp only [Act.put, List.setIfInBounds_toArray, List.set_cons_zero, List.set_cons_succ]
  refine wpAnyU_take (i := 2) (oi := { dst := some 6, op := Op.fieldAddr 80 (Operand.tmp 5) 0, type := 0, pos := "write.go:34", after := #[{ on := 1, ground := Ground.data }], guard := none }) (v := (.pointer (some ⟨g, 0, none⟩))) rfl (by kernel_rfl) (by kernel_rfl) (by kernel_rfl) (by kernel_rfl) (by kernel_rfl) (fun _ _ _ h => h) (BL.cls W0) ?_ ?_
  · refine Or.inl ⟨rfl, fun w hSw => ?_⟩
    exact EffR.same (by go_simp)
  try simp only [Act.put, List.setIfInBounds_toArray, List.set_cons_zero, List.set_cons_succ]
  refine wpAnyU_take (i := 3) (oi := { dst := some 7, op := Op.fieldAddr 159 (Operand.tmp 3) 0, type := 0, pos := "write.go:34", after := #[], guard := none }) (v := (.pointer (some ⟨gc, 0, none⟩))) rfl (by kernel_rfl) (by kernel_rfl) (by kernel_rfl) (by kernel_rfl) (by kernel_rfl) (fun _ _ _ h => h) (BL.cls W0) ?_ ?_
  · refine Or.inl ⟨rfl, fun w hSw => ?_⟩
    exact EffR.same (by go_simp)
  try simp only [Act.put, List.setIfInBounds_toArray, List.set_cons_zero, List.set_cons_succ]
  refine wpAnyU_take (i := 4) (oi := { dst := some 8, op := Op.load 3 (Operand.tmp 7), type := 3, pos := "write.go:34", after := #[{ on := 3, ground := Ground.data }], guard := none }) (v := (.int .i64 x0)) rfl (by kernel_rfl) (by kernel_rfl) (by kernel_rfl) (by kernel_rfl) (by kernel_rfl) (fun _ _ _ h => h) (BL.cls W0) ?_ ?_
  · refine Or.inl ⟨rfl, fun w hSw => ?_⟩
    have e0 := BL.cell hSw (HCC0.out 0 _ rfl)
    exact EffR.same (by go_simp)
  try simp only [Act.put, List.setIfInBounds_toArray, List.set_cons_zero, List.set_cons_succ]
  refine wpAnyU_take (i := 5) (oi := { dst := some 9, op := Op.fieldAddr 159 (Operand.tmp 3) 1, type := 0, pos := "write.go:34", after := #[], guard := none }) (v := (.pointer (some ⟨gc, 1, none⟩))) rfl (by kernel_rfl) (by kernel_rfl) (by kernel_rfl) (by kernel_rfl) (by kernel_rfl) (fun _ _ _ h => h) (BL.cls W0) ?_ ?_
  · refine Or.inl ⟨rfl, fun w hSw => ?_⟩
    exact EffR.same (by go_simp)
  try simp only [Act.put, List.setIfInBounds_toArray, List.set_cons_zero, List.set_cons_succ]
  refine wpAnyU_take (i := 6) (oi := { dst := some 10, op := Op.load 3 (Operand.tmp 9), type := 3, pos := "write.go:34", after := #[{ on := 5, ground := Ground.data }], guard := none }) (v := (.int .i64 x1)) rfl (by kernel_rfl) (by kernel_rfl) (by kernel_rfl) (by kernel_rfl) (by kernel_rfl) (fun _ _ _ h => h) (BL.cls W0) ?_ ?_
  · refine Or.inl ⟨rfl, fun w hSw => ?_⟩
    have e0 := BL.cell hSw (HCC0.out 1 _ rfl)
    exact EffR.same (by go_simp)
  try simp only [Act.put, List.setIfInBounds_toArray, List.set_cons_zero, List.set_cons_succ]
  refine wpAnyU_ready (rs := [7]) (by kernel_rfl) (by simp) ?_
  refine AllReadyU.cons (o := { dst := some 11, op := Op.buildSlice 155 2 #[(0, Operand.tmp 8), (1, Operand.tmp 10)], type := 155, pos := "write.go:34", after := #[{ on := 4, ground := Ground.data }, { on := 6, ground := Ground.data }], guard := none }) rfl (fun wA7 hA7 K hK => ?_) AllReadyU.nil
  go_simp
  refine hK.out _ _ (BL (wA7.alloc (.cells #[.int .i64 x0, .int .i64 x1] 3))) (BL.cls' (hA7.alloc (Below.size hA7) _)) (Below.refl _ _) ?_
  clear hK K
  try simp only [Act.put, List.setIfInBounds_toArray, List.set_cons_zero, List.set_cons_succ]
  refine wpAnyU_last (o := { dst := some 12, op := Op.call { callee := Callee.value (Operand.func 55), args := #[Operand.tmp 6, Operand.tmp 11], argTypes := #[78, 155] }, type := 0, pos := "write.go:34", after := #[{ on := 2, ground := Ground.data }, { on := 7, ground := Ground.data }], guard := none }) (by kernel_rfl) (by kernel_rfl) rfl (fun w1 hb1 K hK => ?_)
  go_simp
  have hbl : Below W0.heap.size W0 w1 := (Below.alloc hA7 hA7.size (.cells #[.int .i64 x0, .int .i64 x1] 3)).trans (hb1.mono (by simp; exact Nat.le_succ_of_le hA7.size))
  have hp1 := HP0.out.below hbl
  have his : Is (wA7.alloc (.cells #[.int .i64 x0, .int .i64 x1] 3)) (.slice (some ⟨wA7.heap.size, 0, none⟩) 2 2) [x0, x1] := Is.block (l := [x0, x1]) (heap_new rfl) (Nat.le_refl _) (by simp [maxLen])
  have his1 := his.mono hb1
  refine (WInt_any w1 g v l lg _ _ hp1 his1 (fun w2 hk => his1.kept1 hk (fun _ k hi e => ?_)) (fun n hn => HR.out n (by rw [show [x0, x1, x2, x3, x4, x5, x6, x7] = [] ++ ([x0, x1] ++ [x2, x3, x4, x5, x6, x7]) from rfl]; exact List.mem_append_right _ (List.mem_append_left _ hn))) (by have := HLEN.out; simp; omega)).mono ?_
  · obtain ⟨ad, n, c, hv, rfl⟩ := hi
    injection hv with h5
    injection h5 with h5
    subst h5
    have h6 := hA7.size
    rcases e with e | e'
    · have := HP0.out.lt
      simp only at e
      omega
    · have := (HP0.out.row _ e').2
      simp only at this
      omega
  rintro e wn ⟨rfl, hpo⟩
  have HPO := Lib.hid (hpo.pre hbl)
  clear hbl hp1 his his1 hpo hb1
  refine hK.out _ _ ?_
  clear hK K
  try simp only [Act.put, List.setIfInBounds_toArray, List.set_cons_zero, List.set_cons_succ]
  have hf := PWPost.next ⟨HP0.out, HK0.out, HO0.out⟩ HPO.out
  clear HPO
  obtain ⟨v1, hp, hk, ho⟩ := hf
  have HP1 := Lib.hid hp
  have HK1 := Lib.hid hk
  have HO1 := Lib.hid ho
  have hcW : HT wn gc 159 [.int .i64 x0, .int .i64 x1, .int .i64 x2, .int .i64 x3, .int .i64 x4, .int .i64 x5, .int .i64 x6, .int .i64 x7] := HT.keptH HC0.out hk (fun e => e.elim (fun e => HNE0.out.1 e) (fun e => HNE0.out.2 e))
  have HC1 := Lib.hid hcW
  have HCC1 := Lib.hid (fun (j : Nat) (u : Value) (h : [.int .i64 x0, .int .i64 x1, .int .i64 x2, .int .i64 x3, .int .i64 x4, .int .i64 x5, .int .i64 x6, .int .i64 x7][j]? = some u) => hcW.cell h)
  have HNE1 : Hid (gc ≠ g ∧ v1.ownBlock ≠ some gc) := ⟨HNE0.out.1, fun e => by rcases ho gc e with h | h; exact HNE0.out.2 h; have := HC0.out.lt; omega⟩
  clear hp hk ho hcW
  generalize wn = W1 at *
  go_wp2_with fail
  refine wp_region_bl 5 (by kernel_rfl) ?_
  refine wpAnyU_take (i := 0) (oi := { dst := some 13, op := Op.move (Operand.tmp 0), type := 83, pos := "write.go:35", after := #[], guard := none }) (v := (.pointer (some ⟨g, 0, none⟩))) rfl (by kernel_rfl) (by kernel_rfl) (by kernel_rfl) (by kernel_rfl) (by kernel_rfl) (fun _ _ _ h => h) (BL.cls W1) ?_ ?_
  · refine Or.inl ⟨rfl, fun w hSw => ?_⟩
    exact EffR.same (by go_simp)
  try simp only [Act.put, List.setIfInBounds_toArray, List.set_cons_zero, List.set_cons_succ]
  refine wpAnyU_take (i := 1) (oi := { dst := some 14, op := Op.nilCheck (Operand.tmp 13), type := 0, pos := "write.go:35", after := #[{ on := 0, ground := Ground.data }], guard := none }) (v := (.pointer (some ⟨g, 0, none⟩))) rfl (by kernel_rfl) (by kernel_rfl) (by kernel_rfl) (by kernel_rfl) (by kernel_rfl) (fun _ _ _ h => h) (BL.cls W1) ?_ ?_
  · refine Or.inl ⟨rfl, fun w hSw => ?_⟩
    exact EffR.same (by go_simp)
  try simp only [Act.put, List.setIfInBounds_toArray, List.set_cons_zero, List.set_cons_succ]
  refine wpAnyU_take (i := 2) (oi := { dst := some 15, op := Op.fieldAddr 80 (Operand.tmp 14) 0, type := 0, pos := "write.go:35", after := #[{ on := 1, ground := Ground.data }], guard := none }) (v := (.pointer (some ⟨g, 0, none⟩))) rfl (by kernel_rfl) (by kernel_rfl) (by kernel_rfl) (by kernel_rfl) (by kernel_rfl) (fun _ _ _ h => h) (BL.cls W1) ?_ ?_
  · refine Or.inl ⟨rfl, fun w hSw => ?_⟩
    exact EffR.same (by go_simp)
  try simp only [Act.put, List.setIfInBounds_toArray, List.set_cons_zero, List.set_cons_succ]
  refine wpAnyU_take (i := 3) (oi := { dst := some 16, op := Op.fieldAddr 159 (Operand.tmp 3) 2, type := 0, pos := "write.go:35", after := #[], guard := none }) (v := (.pointer (some ⟨gc, 2, none⟩))) rfl (by kernel_rfl) (by kernel_rfl) (by kernel_rfl) (by kernel_rfl) (by kernel_rfl) (fun _ _ _ h => h) (BL.cls W1) ?_ ?_
  · refine Or.inl ⟨rfl, fun w hSw => ?_⟩
    exact EffR.same (by go_simp)
  try simp only [Act.put, List.setIfInBounds_toArray, List.set_cons_zero, List.set_cons_succ]
  refine wpAnyU_take (i := 4) (oi := { dst := some 17, op := Op.slice 157 (Operand.tmp 16) none none none, type := 155, pos := "write.go:35", after := #[{ on := 3, ground := Ground.data }], guard := none }) (v := (.slice (some ⟨gc, 2, none⟩) 5 5)) rfl (by kernel_rfl) (by kernel_rfl) (by kernel_rfl) (by kernel_rfl) (by kernel_rfl) (fun _ _ _ h => h) (BL.cls W1) ?_ ?_
  · refine Or.inl ⟨rfl, fun w hSw => ?_⟩
    exact EffR.same (by go_simp)
  try simp only [Act.put, List.setIfInBounds_toArray, List.set_cons_zero, List.set_cons_succ]
  refine wpAnyU_last (o := { dst := some 18, op := Op.call { callee := Callee.value (Operand.func 55), args := #[Operand.tmp 15, Operand.tmp 17], argTypes := #[78, 155] }, type := 0, pos := "write.go:35", after := #[{ on := 2, ground := Ground.data }, { on := 4, ground := Ground.data }], guard := none }) (by kernel_rfl) (by kernel_rfl) rfl (fun w1 hb1 K hK => ?_)
  go_simp
  have hp1 := HP1.out.below hb1
  have his1 := (is_mid (ys := [x0, x1]) (zs := [x2, x3, x4, x5, x6]) (us := [x7]) HC1.out (by simp)).mono hb1
  refine (WInt_any w1 g v1 (l ++ encIs [x0, x1]) lg _ _ hp1 his1 (fun w2 hk => his1.kept1 hk (fun _ k hi e => ?_)) (fun n hn => HR.out n (by rw [show [x0, x1, x2, x3, x4, x5, x6, x7] = [x0, x1] ++ ([x2, x3, x4, x5, x6] ++ [x7]) from rfl]; exact List.mem_append_right _ (List.mem_append_left _ hn))) (by have h1 := HLEN.out; have h2 := encIs_length [x0, x1] (fun n hn => HR.out n (by rw [show [x0, x1, x2, x3, x4, x5, x6, x7] = [] ++ ([x0, x1] ++ [x2, x3, x4, x5, x6, x7]) from rfl]; exact List.mem_append_right _ (List.mem_append_left _ hn))); simp at h1 h2 ⊢; omega)).mono ?_
  · obtain ⟨ad, n, c, hv, rfl⟩ := hi
    injection hv with h5
    injection h5 with h5
    subst h5
    rcases e with e | e'
    · exact HNE1.out.1 e
    · exact HNE1.out.2 e'
  rintro e wn ⟨rfl, hpo⟩
  have HPO := Lib.hid (hpo.pre hb1)
  clear hp1 his1 hpo hb1
  refine hK.out _ _ ?_
  clear hK K
  try simp only [Act.put, List.setIfInBounds_toArray, List.set_cons_zero, List.set_cons_succ]
  have hf := PWPost.next ⟨HP1.out, HK1.out, HO1.out⟩ HPO.out
  have e : l ++ encIs [x0, x1] ++ encIs [x2, x3, x4, x5, x6] = l ++ encIs [x0, x1, x2, x3, x4, x5, x6] := by rw [List.append_assoc]; simp [encIs]
  rw [e] at hf
  clear HPO
  obtain ⟨v2, hp, hk, ho⟩ := hf
  have HP2 := Lib.hid hp
  have HK2 := Lib.hid hk
  have HO2 := Lib.hid ho
  have hcW : HT wn gc 159 [.int .i64 x0, .int .i64 x1, .int .i64 x2, .int .i64 x3, .int .i64 x4, .int .i64 x5, .int .i64 x6, .int .i64 x7] := HT.keptH HC0.out hk (fun e => e.elim (fun e => HNE0.out.1 e) (fun e => HNE0.out.2 e))
  have HC2 := Lib.hid hcW
  have HCC2 := Lib.hid (fun (j : Nat) (u : Value) (h : [.int .i64 x0, .int .i64 x1, .int .i64 x2, .int .i64 x3, .int .i64 x4, .int .i64 x5, .int .i64 x6, .int .i64 x7][j]? = some u) => hcW.cell h)
  have HNE2 : Hid (gc ≠ g ∧ v2.ownBlock ≠ some gc) := ⟨HNE0.out.1, fun e => by rcases ho gc e with h | h; exact HNE0.out.2 h; have := HC0.out.lt; omega⟩
  clear hp hk ho hcW
  generalize wn = W2 at *
  go_wp2_with fail
  refine wp_region_bl 6 (by kernel_rfl) ?_
  refine wpAnyU_take (i := 0) (oi := { dst := some 19, op := Op.move (Operand.tmp 0), type := 83, pos := "write.go:36", after := #[], guard := none }) (v := (.pointer (some ⟨g, 0, none⟩))) rfl (by kernel_rfl) (by kernel_rfl) (by kernel_rfl) (by kernel_rfl) (by kernel_rfl) (fun _ _ _ h => h) (BL.cls W2) ?_ ?_
  · refine Or.inl ⟨rfl, fun w hSw => ?_⟩
    exact EffR.same (by go_simp)
  try simp only [Act.put, List.setIfInBounds_toArray, List.set_cons_zero, List.set_cons_succ]
  refine wpAnyU_take (i := 1) (oi := { dst := some 20, op := Op.nilCheck (Operand.tmp 19), type := 0, pos := "write.go:36", after := #[{ on := 0, ground := Ground.data }], guard := none }) (v := (.pointer (some ⟨g, 0, none⟩))) rfl (by kernel_rfl) (by kernel_rfl) (by kernel_rfl) (by kernel_rfl) (by kernel_rfl) (fun _ _ _ h => h) (BL.cls W2) ?_ ?_
  · refine Or.inl ⟨rfl, fun w hSw => ?_⟩
    exact EffR.same (by go_simp)
  try simp only [Act.put, List.setIfInBounds_toArray, List.set_cons_zero, List.set_cons_succ]
  refine wpAnyU_take (i := 2) (oi := { dst := some 21, op := Op.fieldAddr 80 (Operand.tmp 20) 0, type := 0, pos := "write.go:36", after := #[{ on := 1, ground := Ground.data }], guard := none }) (v := (.pointer (some ⟨g, 0, none⟩))) rfl (by kernel_rfl) (by kernel_rfl) (by kernel_rfl) (by kernel_rfl) (by kernel_rfl) (fun _ _ _ h => h) (BL.cls W2) ?_ ?_
  · refine Or.inl ⟨rfl, fun w hSw => ?_⟩
    exact EffR.same (by go_simp)
  try simp only [Act.put, List.setIfInBounds_toArray, List.set_cons_zero, List.set_cons_succ]
  refine wpAnyU_take (i := 3) (oi := { dst := some 22, op := Op.fieldAddr 159 (Operand.tmp 3) 3, type := 0, pos := "write.go:36", after := #[], guard := none }) (v := (.pointer (some ⟨gc, 7, none⟩))) rfl (by kernel_rfl) (by kernel_rfl) (by kernel_rfl) (by kernel_rfl) (by kernel_rfl) (fun _ _ _ h => h) (BL.cls W2) ?_ ?_
  · refine Or.inl ⟨rfl, fun w hSw => ?_⟩
    exact EffR.same (by go_simp)
  try simp only [Act.put, List.setIfInBounds_toArray, List.set_cons_zero, List.set_cons_succ]
  refine wpAnyU_take (i := 4) (oi := { dst := some 23, op := Op.load 3 (Operand.tmp 22), type := 3, pos := "write.go:36", after := #[{ on := 3, ground := Ground.data }], guard := none }) (v := (.int .i64 x7)) rfl (by kernel_rfl) (by kernel_rfl) (by kernel_rfl) (by kernel_rfl) (by kernel_rfl) (fun _ _ _ h => h) (BL.cls W2) ?_ ?_
  · refine Or.inl ⟨rfl, fun w hSw => ?_⟩
    have e0 := BL.cell hSw (HCC2.out 7 _ rfl)
    exact EffR.same (by go_simp)
  try simp only [Act.put, List.setIfInBounds_toArray, List.set_cons_zero, List.set_cons_succ]
  refine wpAnyU_ready (rs := [5]) (by kernel_rfl) (by simp) ?_
  refine AllReadyU.cons (o := { dst := some 24, op := Op.buildSlice 155 1 #[(0, Operand.tmp 23)], type := 155, pos := "write.go:36", after := #[{ on := 4, ground := Ground.data }], guard := none }) rfl (fun wA5 hA5 K hK => ?_) AllReadyU.nil
  go_simp
  refine hK.out _ _ (BL (wA5.alloc (.cells #[.int .i64 x7] 3))) (BL.cls' (hA5.alloc (Below.size hA5) _)) (Below.refl _ _) ?_
  clear hK K
  try simp only [Act.put, List.setIfInBounds_toArray, List.set_cons_zero, List.set_cons_succ]
  refine wpAnyU_last (o := { dst := some 25, op := Op.call { callee := Callee.value (Operand.func 55), args := #[Operand.tmp 21, Operand.tmp 24], argTypes := #[78, 155] }, type := 0, pos := "write.go:36", after := #[{ on := 2, ground := Ground.data }, { on := 5, ground := Ground.data }], guard := none }) (by kernel_rfl) (by kernel_rfl) rfl (fun w1 hb1 K hK => ?_)
  go_simp
  have hbl : Below W2.heap.size W2 w1 := (Below.alloc hA5 hA5.size (.cells #[.int .i64 x7] 3)).trans (hb1.mono (by simp; exact Nat.le_succ_of_le hA5.size))
  have hp1 := HP2.out.below hbl
  have his : Is (wA5.alloc (.cells #[.int .i64 x7] 3)) (.slice (some ⟨wA5.heap.size, 0, none⟩) 1 1) [x7] := Is.block (l := [x7]) (heap_new rfl) (Nat.le_refl _) (by simp [maxLen])
  have his1 := his.mono hb1
  refine (WInt_any w1 g v2 (l ++ encIs [x0, x1, x2, x3, x4, x5, x6]) lg _ _ hp1 his1 (fun w2 hk => his1.kept1 hk (fun _ k hi e => ?_)) (fun n hn => HR.out n (by rw [show [x0, x1, x2, x3, x4, x5, x6, x7] = [x0, x1, x2, x3, x4, x5, x6] ++ ([x7] ++ []) from rfl]; exact List.mem_append_right _ (List.mem_append_left _ hn))) (by have h1 := HLEN.out; have h2 := encIs_length [x0, x1, x2, x3, x4, x5, x6] (fun n hn => HR.out n (by rw [show [x0, x1, x2, x3, x4, x5, x6, x7] = [] ++ ([x0, x1, x2, x3, x4, x5, x6] ++ [x7]) from rfl]; exact List.mem_append_right _ (List.mem_append_left _ hn))); simp at h1 h2 ⊢; omega)).mono ?_
  · obtain ⟨ad, n, c, hv, rfl⟩ := hi
    injection hv with h5
    injection h5 with h5
    subst h5
    have h6 := hA5.size
    rcases e with e | e'
    · have := HP2.out.lt
      simp only at e
      omega
    · have := (HP2.out.row _ e').2
      simp only at this
      omega
  rintro e wn ⟨rfl, hpo⟩
  have HPO := Lib.hid (hpo.pre hbl)
  clear hbl hp1 his his1 hpo hb1
  refine hK.out _ _ ?_
  clear hK K
  try simp only [Act.put, List.setIfInBounds_toArray, List.set_cons_zero, List.set_cons_succ]
  have hf := PWPost.next ⟨HP2.out, HK2.out, HO2.out⟩ HPO.out
  have e : l ++ encIs [x0, x1, x2, x3, x4, x5, x6] ++ encIs [x7] = l ++ encIs [x0, x1, x2, x3, x4, x5, x6, x7] := by rw [List.append_assoc]; simp [encIs]
  rw [e] at hf
  clear HPO
  go_wp2_with fail
  go_end0
  exact ⟨rfl, PWPost.pre (by rw [← HGC.out]; exact HBX.out) hf⟩
end Cam
