import Derived.Test.YtgjiphgehohooaaMem
import Derived.Test.YtgjiphgehohooaaWdP
/- lists of wides in memory. No program in sight. -/
namespace Cam
open Go Go.RowKit

/-- the cells of wides -/
def wcells : List Int → List Value
  | [] => []
  | x :: l => .int .i64 (wHi x) :: .int .u64 (wLo x) :: wcells l
theorem wcells_length (l : List Int) : (wcells l).length = l.length * 2 := by
  induction l with
  | nil => rfl
  | cons x l ih => simp [wcells, ih]; omega
theorem wcells_append (l m : List Int) : wcells (l ++ m) = wcells l ++ wcells m := by
  induction l with
  | nil => rfl
  | cons x l ih => simp [wcells, ih]
theorem wcells_at (l : List Int) (i : Nat) (h : i < l.length) : (wcells l)[i * 2]? = some (.int .i64 (wHi l[i])) ∧ (wcells l)[i * 2 + 1]? = some (.int .u64 (wLo l[i])) := by
  induction l generalizing i with
  | nil => cases h
  | cons x l ih =>
    cases i with
    | zero => exact ⟨rfl, rfl⟩
    | succ i =>
      have := ih i (by simpa using h)
      simpa [wcells, Nat.succ_mul] using this
theorem wcells_one (l : List Int) : ∀ u ∈ wcells l, u.oneCell' = true := by
  induction l with
  | nil => intro u hu; cases hu
  | cons x l ih =>
    intro u hu
    simp only [wcells, List.mem_cons] at hu
    rcases hu with rfl | rfl | hu
    · rfl
    · rfl
    · exact ih u hu

/-- a slice of wides -/
def Ws (w : World) (v : Value) (l : List Int) : Prop := Sl w v 2 l.length (wcells l)
theorem Ws.shape {w : World} {v : Value} {l : List Int} (h : Ws w v l) : ∃ a cap, v = .slice a l.length cap ∧ l.length ≤ cap ∧ cap ≤ 9223372036854775807 := Sl.shape h
theorem Ws.at {w : World} {a : Option Addr} {len cap : Nat} {l : List Int} (h : Ws w (.slice a len cap) l) (hp : 0 < l.length) :
    ∃ b off, a = some ⟨b, off, none⟩ ∧ b < w.heap.size ∧ ∀ i (hi : i < l.length), w.cell? ⟨b, off + i * 2, none⟩ = some (.int .i64 (wHi l[i])) ∧ w.cell? ⟨b, off + i * 2 + 1, none⟩ = some (.int .u64 (wLo l[i])) := by
  obtain ⟨b, off, h1, h2, h3⟩ := Sl.at h (by rw [wcells_length]; omega)
  refine ⟨b, off, h1, h2, fun i hi => ?_⟩
  have hx := wcells_at l i hi
  have h4 := h3 (i * 2) (by rw [wcells_length]; omega)
  have h5 := h3 (i * 2 + 1) (by rw [wcells_length]; omega)
  have e1 := (List.getElem?_eq_some_iff.1 hx.1).2
  have e2 := (List.getElem?_eq_some_iff.1 hx.2).2
  rw [e1] at h4
  rw [e2] at h5
  exact ⟨h4, by rw [Nat.add_assoc]; exact h5⟩
theorem Ws.mono {w w' : World} {v : Value} {l : List Int} (h : Ws w v l) (hb : Below w.heap.size w w') : Ws w' v l := Sl.mono h hb
theorem Ws.monoB {w w' : World} {B : Nat} {v : Value} {l : List Int} (h : Ws w v l) (hb : Below B w w') (hB : w.heap.size ≤ B) : Ws w' v l := h.mono (hb.mono hB)
theorem Ws.alloc {w : World} {v : Value} {l : List Int} (h : Ws w v l) (o : Obj) : Ws (w.alloc o) v l := h.mono ((Below.refl _ _).alloc (Nat.le_refl _) _)
theorem Ws.block {w : World} {g cap : Nat} {l : List Int} {e : TypeId} {fr : Nat × Nat} (h : w.heap[g]? = some (.cells (wcells l).toArray e fr)) (hn : l.length ≤ cap) (hm : cap ≤ maxLen) :
    Ws w (.slice (some ⟨g, 0, none⟩) l.length cap) l := by
  have := Sl.block (size := 2) (n := l.length) h (by simp [wcells_length]) hn hm
  unfold Ws
  simpa using this
theorem Ws.lit2 {w : World} {g : Nat} (hg : g = w.heap.size) (x y a b c d : Int) (hx : IsW a b x) (hy : IsW c d y) (e : TypeId) :
    Ws (w.alloc (.cells #[.int .i64 a, .int .u64 b, .int .i64 c, .int .u64 d] e)) (.slice (some ⟨g, 0, none⟩) 2 2) [x, y] := by
  refine Ws.block (l := [x, y]) (fr := (0, 0)) (e := e) ?_ (Nat.le_refl _) (by simp [maxLen])
  simp only [wcells, hx.words.1, hx.words.2, hy.words.1, hy.words.2]
  exact heap_new hg
theorem Ws.nil (w : World) : Ws w (.slice none 0 0) [] := Sl.nil w 2
theorem wcells_drop (l : List Int) (k : Nat) : (wcells l).drop (k * 2) = wcells (l.drop k) := by
  induction l generalizing k with
  | nil => simp [wcells]
  | cons x l ih =>
    cases k with
    | zero => simp
    | succ k => simpa [wcells, Nat.succ_mul] using ih k
theorem wcells_take (l : List Int) (k : Nat) : (wcells l).take (k * 2) = wcells (l.take k) := by
  induction l generalizing k with
  | nil => simp [wcells]
  | cons x l ih =>
    cases k with
    | zero => simp [wcells]
    | succ k => simpa [wcells, Nat.succ_mul] using ih k
/-- 'v[lo:hi]' -/
theorem Ws.cut {w : World} {a : Option Addr} {len cap : Nat} {l : List Int} (h : Ws w (.slice a len cap) l) (lo hi : Nat) (h1 : lo ≤ hi) (h2 : hi ≤ l.length) :
    Ws w (.slice (if cap = lo then a else a.map (·.add (lo * 2))) (hi - lo) (cap - lo)) ((l.drop lo).take (hi - lo)) := by
  have := Sl.cut h lo hi h1 h2
  unfold Ws
  have e : ((l.drop lo).take (hi - lo)).length = hi - lo := by rw [List.length_take, List.length_drop]; omega
  rw [e]
  rw [wcells_drop, wcells_take] at this
  exact this

/-- wides of the call's own -/
def OwnW (t : TypeId) (w : World) (base : Nat) (v : Value) (l : List Int) : Prop := w.ownsRow base t 2 v l.length (wcells l)
theorem OwnW.ws {t : TypeId} {w : World} {base : Nat} {v : Value} {l : List Int} (h : OwnW t w base v l) : Ws w v l := Sl.of_owns h
theorem OwnW.named {t : TypeId} {w : World} {base : Nat} {v : Value} {l : List Int} (h : OwnW t w base v l) : ∃ a n cap, v = .slice a n cap ∧ Hid (n = l.length) ∧ OwnW t w base (.slice a n cap) l := by
  obtain ⟨a, cap, rfl, _⟩ := h.ws.shape
  exact ⟨a, _, cap, rfl, rfl, h⟩
theorem OwnW.below {t : TypeId} {w w' : World} {base : Nat} {v : Value} {l : List Int} (h : OwnW t w base v l) (hb : Below w.heap.size w w') : OwnW t w' base v l := ownsRow_below h hb
theorem OwnW.alloc {t : TypeId} {w : World} {base : Nat} {v : Value} {l : List Int} (h : OwnW t w base v l) (o : Obj) : OwnW t (w.alloc o) base v l := World.ownsRow.alloc h o
theorem OwnW.empty (t : TypeId) (w : World) (base : Nat) : OwnW t w base (.slice none 0 0) [] := World.ownsRow_nil _ _ _ _
theorem OwnW.app {t : TypeId} {w : World} {base : Nat} {v : Value} {l m : List Int} (h : w.ownsRow base t 2 v (l.length + m.length) (wcells l ++ wcells m)) : OwnW t w base v (l ++ m) := by
  unfold OwnW
  rw [wcells_append]
  simpa using h
/-- 's = append(s, x...)' of wides, s nil or the call's own. -/
theorem wpList_append_wides {P : Program} {w : World} {ops : Array Oper} {rest : List Oper} {o : Oper} {a : Act} {Q : Exit → Act → World → Prop} (hgd : o.guard = none) (s x : Operand) (t : TypeId)
    (ho : o.op = .call { callee := .builtin .append, args := #[s, x], argTypes := #[t, t] })
    {e base : Nat} {v vx : Value} {l m : List Int} (E : Elem P t e 2 16) (hs : a.eval s = v) (hx : a.eval x = vx)
    (hown : OwnW e w base v l) (hsrc : Ws w vx m) (hlen : (l.length + m.length) * 16 ≤ 140737488355328) (hbase : base ≤ w.heap.size)
    (h : ∀ a' n' cap' w', Hid (n' = l.length + m.length) → OwnW e w' base (.slice a' n' cap') (l ++ m) → Below base w w' → w.grownBy w' v.ownBlock → wpList P ops Q rest (a.put o.dst (.slice a' n' cap')) w') : wpList P ops Q (o :: rest) a w :=
  wpList_append_sl hgd s x t ho E hs hx hown hsrc (wcells_one m) (by unfold maxLen; omega) (by omega) hbase (fun a' cap' w' h1 h2 h3 => h a' _ cap' w' rfl (OwnW.app h1) h3 h2)

end Cam
