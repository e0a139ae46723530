import Derived.Test.YtdenijpdkfnjeaaRow
/- a block with its type. No program in sight. -/
namespace Cam
open Go Go.RowKit

def HT (w : World) (g : Nat) (t : TypeId) (C : List Value) : Prop := w.heap[g]? = some (.cells C.toArray t (0, 0))
theorem HT.lt {w : World} {g : Nat} {t : TypeId} {C : List Value} (h : HT w g t C) : g < w.heap.size := (Array.getElem?_eq_some_iff.1 h).1
theorem HT.cell {w : World} {g : Nat} {t : TypeId} {C : List Value} (h : HT w g t C) {j : Nat} {v : Value} (hj : C[j]? = some v) : w.cell? ⟨g, j, none⟩ = some v := by
  unfold World.cell?
  rw [h]
  simpa using hj
theorem HT.isSome {w : World} {g : Nat} {t : TypeId} {C : List Value} (h : HT w g t C) {j : Nat} (hj : j < C.length) : (w.cell? ⟨g, j, none⟩).isSome = true := by
  rw [h.cell (List.getElem?_eq_getElem hj)]
  rfl
theorem HT.frozen {w : World} {g : Nat} {t : TypeId} {C : List Value} (h : HT w g t C) (j : Nat) : w.frozen? ⟨g, j, none⟩ = false := by
  unfold World.frozen?
  rw [h]
  rfl
theorem HT.shape {w : World} {g : Nat} {t : TypeId} {C : List Value} (h : HT w g t C) : w.shape? g = some (t, C.length) := by
  unfold World.shape?
  rw [h]
  simp
theorem HT.drew {w : World} {g : Nat} {t : TypeId} {C : List Value} (h : HT w g t C) : HT w.drew g t C := h
theorem HT.put {w : World} {g : Nat} {t : TypeId} {C : List Value} (h : HT w g t C) (j : Nat) (v : Value) : HT (w.setCell ⟨g, j, none⟩ v) g t (C.set j v) := by
  unfold HT
  rw [heap_setCell_same w g j _ _ v h]
  simp
theorem HT.puts {w : World} {g : Nat} {t : TypeId} {C : List Value} : ∀ {vs : List Value} {o : Nat} (_ : HT w g t C) (_ : o + vs.length ≤ C.length), HT (w.setCells g o vs) g t (splice C o vs) := by
  intro vs
  induction vs generalizing w C with
  | nil =>
    intro o h _
    have e : splice C o [] = C := by simp [splice]
    rw [e]
    exact h
  | cons v r ih =>
    intro o h hn
    simp only [List.length_cons] at hn
    have h1 := ih (o := o + 1) (h.put o v) (by rw [List.length_set]; omega)
    have e : splice (C.set o v) (o + 1) r = splice C o (v :: r) := by
      unfold splice
      apply List.ext_getElem?
      intro i
      simp only [List.getElem?_append, List.getElem?_take, List.getElem?_drop, List.getElem?_set, List.length_take, List.length_set, List.length_cons, List.getElem?_cons]
      grind
    rw [e] at h1
    exact h1
theorem HT.new {w : World} {t : TypeId} {C : List Value} : HT (w.alloc (.cells C.toArray t)) w.heap.size t C := heap_alloc_new w _
theorem HT.below {w w' : World} {g : Nat} {t : TypeId} {C : List Value} (h : HT w g t C) (hb : Below w.heap.size w w') : HT w' g t C := (hb.block g h.lt).trans h
end Cam
