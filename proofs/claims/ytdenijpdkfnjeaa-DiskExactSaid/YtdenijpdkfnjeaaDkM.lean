import Derived.Test.YtdenijpdkfnjeaaMemA
import Derived.Deep.MidRow
import Derived.Laws.CopyOwn
import Derived.Deep.RegionHeld3
/- Blocks of cells in memory: rows of rows. No program in sight. -/
namespace Cam
open Go Go.RowKit

/-- the cells of block g -/
def HC (w : World) (g : Nat) (C : List Value) : Prop := ∃ t, w.heap[g]? = some (.cells C.toArray t (0, 0))
theorem HC.lt {w : World} {g : Nat} {C : List Value} (h : HC w g C) : g < w.heap.size := by
  obtain ⟨t, h⟩ := h
  exact (Array.getElem?_eq_some_iff.1 h).1
theorem HC.kept {S : Nat → Prop} {w w' : World} {g : Nat} {C : List Value} (h : HC w g C) (hk : Kept S w w') (hg : ¬ S g) : HC w' g C := by
  have hlt := h.lt
  obtain ⟨t, h⟩ := h
  exact ⟨t, (hk.block g hlt hg).trans h⟩
theorem HC.below {w w' : World} {g : Nat} {C : List Value} (h : HC w g C) (hb : Below w.heap.size w w') : HC w' g C := h.kept (Kept.of_below hb) (fun h => h)
theorem HC.alloc {w : World} {g : Nat} {C : List Value} (h : HC w g C) (o : Obj) : HC (w.alloc o) g C := h.below ((Below.refl _ _).alloc (Nat.le_refl _) o)
theorem HC.drew {w : World} {g : Nat} {C : List Value} (h : HC w g C) : HC w.drew g C := h
theorem HC.drewN {w : World} {g : Nat} {C : List Value} (h : HC w g C) (n : Nat) : HC (w.drewN n) g C := h
theorem HC.new {w : World} {C : List Value} {t : TypeId} : HC (w.alloc (.cells C.toArray t)) w.heap.size C := ⟨t, heap_alloc_new w _⟩
theorem HC.cell {w : World} {g : Nat} {C : List Value} (h : HC w g C) {j : Nat} {v : Value} (hj : C[j]? = some v) : w.cell? ⟨g, j, none⟩ = some v := by
  obtain ⟨t, h⟩ := h
  unfold World.cell?
  rw [h]
  simpa using hj
theorem HC.frozen {w : World} {g : Nat} {C : List Value} (h : HC w g C) (j : Nat) : w.frozen? ⟨g, j, none⟩ = false := by
  obtain ⟨t, h⟩ := h
  unfold World.frozen?
  rw [h]
  rfl
theorem HC.range {w : World} {g : Nat} {C : List Value} (h : HC w g C) (o : Nat) {cs : List Value} (hc : ∀ j v, cs[j]? = some v → C[o + j]? = some v) : w.rangeAt g o cs := fun j v hv => h.cell (hc j v hv)
theorem HC.there {w : World} {g : Nat} {C : List Value} (h : HC w g C) {o n : Nat} (hn : o + n ≤ C.length) : w.there g o n := fun j hj => by
  refine ⟨?_, h.frozen _⟩
  rw [h.cell (List.getElem?_eq_getElem (by omega : o + j < C.length))]
  rfl
theorem HC.put {w : World} {g : Nat} {C : List Value} (h : HC w g C) (j : Nat) (v : Value) : HC (w.setCell ⟨g, j, none⟩ v) g (C.set j v) := by
  obtain ⟨t, h⟩ := h
  refine ⟨t, ?_⟩
  rw [heap_setCell_same w g j _ _ v h]
  simp
theorem HC.puts {w : World} {g : Nat} {C : List Value} : ∀ {vs : List Value} {o : Nat} (_ : HC w g C) (_ : o + vs.length ≤ C.length), HC (w.setCells g o vs) g (splice C o vs) := by
  intro vs
  induction vs generalizing w C with
  | nil =>
    intro o h _
    have e : splice C o [] = C := by simp [splice]
    rw [e]
    exact h
  | cons v r ih =>
    intro o h hn
    simp only [List.length_cons] at hn
    have h1 := ih (o := o + 1) (h.put o v) (by rw [List.length_set]; omega)
    have e : splice (C.set o v) (o + 1) r = splice C o (v :: r) := by
      unfold splice
      apply List.ext_getElem?
      intro i
      simp only [List.getElem?_append, List.getElem?_take, List.getElem?_drop, List.getElem?_set, List.length_take, List.length_set, List.length_cons, List.getElem?_cons]
      grind
    rw [e] at h1
    exact h1
theorem setCells_kept (g : Nat) : ∀ (vs : List Value) (o : Nat) (w : World), Kept (fun k => k = g) w (w.setCells g o vs)
  | [], _, w => Kept.refl _ w
  | v :: r, o, w => ((Kept.refl (fun k => k = g) w).setCell ⟨g, o, none⟩ v rfl).trans (setCells_kept g r (o + 1) _) (fun _ _ h => h)

/-- rows of W cells, one behind the other -/
def flatW {α : Type} (f : α → List Value) (L : List α) : List Value := (L.map f).flatten
theorem flatW_length {α : Type} {f : α → List Value} {W : Nat} : ∀ {L : List α}, (∀ a ∈ L, (f a).length = W) → (flatW f L).length = L.length * W
  | [], _ => by simp [flatW]
  | a :: L, h => by
    have h1 := h a (by simp)
    have h2 := flatW_length (f := f) (W := W) (L := L) (fun b hb => h b (by simp [hb]))
    simp only [flatW, List.map_cons, List.flatten_cons, List.length_append, List.length_cons] at *
    rw [h1, h2, Nat.succ_mul]
    omega
theorem flatW_at {α : Type} {f : α → List Value} {W : Nat} : ∀ {L : List α} (_ : ∀ a ∈ L, (f a).length = W) {k : Nat} (hk : k < L.length) (j : Nat) (v : Value) (_ : (f L[k])[j]? = some v), (flatW f L)[k * W + j]? = some v
  | a :: L, h, 0, _, j, v, hv => by
    have hj := (List.getElem?_eq_some_iff.1 hv).1
    simp only [flatW, List.map_cons, List.flatten_cons, Nat.zero_mul, Nat.zero_add]
    rw [List.getElem?_append_left (show j < (f a).length from hj)]
    exact hv
  | a :: L, h, k + 1, hk, j, v, hv => by
    have h1 := h a (by simp)
    have := flatW_at (f := f) (W := W) (L := L) (fun b hb => h b (by simp [hb])) (k := k) (by simpa using hk) j v hv
    simp only [flatW, List.map_cons, List.flatten_cons] at *
    rw [List.getElem?_append_right (by rw [h1, Nat.succ_mul]; omega), h1, Nat.succ_mul, show k * W + W + j - W = k * W + j by omega]
    exact this
theorem flatW_set {α : Type} {f : α → List Value} {W : Nat} : ∀ {L : List α} (_ : ∀ a ∈ L, (f a).length = W) {k : Nat} (_ : k < L.length) (b : α) (_ : (f b).length = W), splice (flatW f L) (k * W) (f b) = flatW f (L.set k b)
  | a :: L, h, 0, _, b, hb => by
    have h1 := h a (by simp)
    simp only [flatW, List.map_cons, List.flatten_cons, Nat.zero_mul, List.set_cons_zero, splice, List.take_zero, List.nil_append, Nat.zero_add]
    rw [List.drop_append_of_le_length (by omega), List.drop_of_length_le (by omega), List.nil_append]
  | a :: L, h, k + 1, hk, b, hb => by
    have h1 := h a (by simp)
    have := flatW_set (f := f) (W := W) (L := L) (fun b hb => h b (by simp [hb])) (k := k) (by simpa using hk) b hb
    have hW : (k + 1) * W = k * W + W := Nat.succ_mul k W
    have t1 : (f a ++ flatW f L).take ((k + 1) * W) = f a ++ (flatW f L).take (k * W) := by
      rw [List.take_append, List.take_of_length_le (by omega), h1, show (k + 1) * W - W = k * W by omega]
    have t2 : (f a ++ flatW f L).drop ((k + 1) * W + W) = (flatW f L).drop (k * W + W) := by
      rw [List.drop_append, List.drop_of_length_le (by omega), h1, show (k + 1) * W + W - W = k * W + W by omega, List.nil_append]
    have e1 : flatW f (a :: L) = f a ++ flatW f L := by simp [flatW]
    have e2 : flatW f ((a :: L).set (k + 1) b) = f a ++ flatW f (L.set k b) := by simp [flatW]
    rw [e1, e2, ← this]
    unfold splice
    rw [hb, t1, t2, List.append_assoc]
theorem flatW_snoc {α : Type} (f : α → List Value) (L : List α) (a : α) : flatW f (L ++ [a]) = flatW f L ++ f a := by simp [flatW]

/-! Steps of a region that draws its order. -/
theorem step_load_mid {P : Program} {ops : Array Oper} {o : Oper} {a : Act} {w : World} {K : Act → World → Prop} {Q : Exit → Act → World → Prop} {E : Prop} (hgd : o.guard = none) (ty : TypeId) (x : Operand) (ho : o.op = .load ty x)
    (b k : Nat) (hx : a.eval x = .pointer (some ⟨b, k, none⟩)) (cs : List Value) (d : TypeDesc) (hc : w.rangeAt b k cs)
    (hu : P.underlying ty = some d) (hd : d.isRow = true) (hi : (P.info? ty).map (·.size) = some cs.length)
    (h : K (a.put o.dst (.agg cs.toArray)) w) : if Region.wanted o (yielded ops a.tmps) = true then Oper.wp P o a w K Q else E := by
  rw [if_pos (by simp [Region.wanted, hgd])]
  exact wp_load_mid ty x ho b k hx cs d hc hu hd hi h
theorem step_store_mid {P : Program} {ops : Array Oper} {o : Oper} {a : Act} {w : World} {K : Act → World → Prop} {Q : Exit → Act → World → Prop} {E : Prop} (hgd : o.guard = none) (ty : TypeId) (x y : Operand) (ho : o.op = .store ty x y)
    (b k : Nat) (cs : List Value) (hx : a.eval x = .pointer (some ⟨b, k, none⟩)) (hy : a.eval y = .agg cs.toArray)
    (ht : w.there b k cs.length) (hi : (P.info? ty).map (·.size) = some cs.length) (h1 : ∀ v ∈ cs, v.oneCell' = true)
    (h : K (a.put o.dst undef) (w.setCells b k cs)) : if Region.wanted o (yielded ops a.tmps) = true then Oper.wp P o a w K Q else E := by
  rw [if_pos (by simp [Region.wanted, hgd])]
  exact wp_store_mid ty x y ho b k cs.toArray hx hy (by simpa using ht) (by simpa using hi) (all_oneCell_toArray h1) (by simpa using h)

end Cam
