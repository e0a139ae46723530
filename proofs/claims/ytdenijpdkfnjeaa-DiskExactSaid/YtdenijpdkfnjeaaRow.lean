import Derived.Test.YtdenijpdkfnjeaaDkM
/- Slices of rows: elements of K cells. No program in sight. -/
namespace Cam
open Go Go.RowKit

variable {α : Type} {enc : α → List Value} {K : Nat}
/-- a slice of elements of K cells -/
def Rs (enc : α → List Value) (K : Nat) (w : World) (v : Value) (L : List α) : Prop := (∀ a, (enc a).length = K) ∧ Sl w v K L.length (flatW enc L)
theorem Rs.shape {w : World} {v : Value} {L : List α} (h : Rs enc K w v L) : ∃ a cap, v = .slice a L.length cap ∧ L.length ≤ cap ∧ cap ≤ 9223372036854775807 := Sl.shape h.2
theorem Rs.mono {w w' : World} {v : Value} {L : List α} (h : Rs enc K w v L) (hb : Below w.heap.size w w') : Rs enc K w' v L := ⟨h.1, Sl.mono h.2 hb⟩
theorem Rs.monoB {w w' : World} {B : Nat} {v : Value} {L : List α} (h : Rs enc K w v L) (hb : Below B w w') (hB : w.heap.size ≤ B) : Rs enc K w' v L := h.mono (hb.mono hB)
theorem Rs.alloc {w : World} {v : Value} {L : List α} (h : Rs enc K w v L) (o : Obj) : Rs enc K (w.alloc o) v L := h.mono ((Below.refl _ _).alloc (Nat.le_refl _) _)
theorem Rs.nil (he : ∀ a, (enc a).length = K) (w : World) : Rs enc K w (.slice none 0 0) ([] : List α) := ⟨he, Sl.nil w K⟩
theorem Rs.at {w : World} {a : Option Addr} {len cap : Nat} {L : List α} (h : Rs enc K w (.slice a len cap) L) (hp : 0 < L.length) (hK : 0 < K) :
    ∃ b off, a = some ⟨b, off, none⟩ ∧ b < w.heap.size ∧ ∀ i (hi : i < L.length) j u, (enc L[i])[j]? = some u → w.cell? ⟨b, off + i * K + j, none⟩ = some u := by
  have hl : (flatW enc L).length = L.length * K := flatW_length (fun a _ => h.1 a)
  obtain ⟨b, off, h1, h2, h3⟩ := Sl.at h.2 (by rw [hl]; exact Nat.mul_pos hp hK)
  refine ⟨b, off, h1, h2, fun i hi j u hu => ?_⟩
  have h5 := flatW_at (f := enc) (W := K) (fun a _ => h.1 a) hi j u hu
  have hlt := (List.getElem?_eq_some_iff.1 h5).1
  have h4 := h3 (i * K + j) hlt
  rw [Nat.add_assoc, h4]
  exact (List.getElem_eq_iff hlt).2 h5 ▸ rfl
/-- rows of the call's own -/
def OwnR (enc : α → List Value) (K : Nat) (t : TypeId) (w : World) (base : Nat) (v : Value) (L : List α) : Prop := (∀ a, (enc a).length = K) ∧ w.ownsRow base t K v L.length (flatW enc L)
theorem OwnR.rs {t : TypeId} {w : World} {base : Nat} {v : Value} {L : List α} (h : OwnR enc K t w base v L) : Rs enc K w v L := ⟨h.1, Sl.of_owns h.2⟩
theorem OwnR.named {t : TypeId} {w : World} {base : Nat} {v : Value} {L : List α} (h : OwnR enc K t w base v L) : ∃ a n cap, v = .slice a n cap ∧ Hid (n = L.length) ∧ OwnR enc K t w base (.slice a n cap) L := by
  obtain ⟨a, cap, rfl, _⟩ := h.rs.shape
  exact ⟨a, _, cap, rfl, rfl, h⟩
theorem OwnR.empty (he : ∀ a, (enc a).length = K) (t : TypeId) (w : World) (base : Nat) : OwnR enc K t w base (.slice none 0 0) ([] : List α) := ⟨he, World.ownsRow_nil _ _ _ _⟩
theorem OwnR.below {t : TypeId} {w w' : World} {base : Nat} {v : Value} {L : List α} (h : OwnR enc K t w base v L) (hb : Below w.heap.size w w') : OwnR enc K t w' base v L := ⟨h.1, ownsRow_below h.2 hb⟩
theorem OwnR.belowB {t : TypeId} {w w' : World} {base B : Nat} {v : Value} {L : List α} (h : OwnR enc K t w base v L) (hb : Below B w w') (hl : ∀ g, v.ownBlock = some g → g < B) : OwnR enc K t w' base v L := ⟨h.1, ownsRow_belowB h.2 hb hl⟩
theorem OwnR.base {t : TypeId} {w : World} {base base' : Nat} {v : Value} {L : List α} (h : OwnR enc K t w base v L) (hb : base' ≤ base) : OwnR enc K t w base' v L := ⟨h.1, ownsRow_base h.2 hb⟩
theorem OwnR.alloc {t : TypeId} {w : World} {base : Nat} {v : Value} {L : List α} (h : OwnR enc K t w base v L) (o : Obj) : OwnR enc K t (w.alloc o) base v L := ⟨h.1, World.ownsRow.alloc h.2 o⟩
theorem OwnR.lt {t : TypeId} {w : World} {base : Nat} {v : Value} {L : List α} (h : OwnR enc K t w base v L) : ∀ g, v.ownBlock = some g → g < w.heap.size := fun g hg => (World.ownsRow.lt h.2 g hg).2
theorem OwnR.ge {t : TypeId} {w : World} {base : Nat} {v : Value} {L : List α} (h : OwnR enc K t w base v L) : ∀ g, v.ownBlock = some g → base ≤ g := fun g hg => (World.ownsRow.lt h.2 g hg).1
theorem OwnR.grown {t : TypeId} {w w' : World} {base : Nat} {v : Value} {row : Option Nat} {L : List α} (h : OwnR enc K t w base v L) (hg : w.grownBy w' row) (hne : ∀ k, v.ownBlock = some k → row ≠ some k) : OwnR enc K t w' base v L :=
  ⟨h.1, World.ownsRow.kept h.2 hg (by
    cases hv : v.ownBlock with
    | none => exact .inl rfl
    | some k => exact .inr (fun e => hne k hv e.symm))⟩
theorem OwnR.app {t : TypeId} {w : World} {base : Nat} {v : Value} {L M : List α} (he : ∀ a, (enc a).length = K) (h : w.ownsRow base t K v (L.length + M.length) (flatW enc L ++ flatW enc M)) : OwnR enc K t w base v (L ++ M) := by
  refine ⟨he, ?_⟩
  rw [List.length_append, show flatW enc (L ++ M) = flatW enc L ++ flatW enc M by simp [flatW]]
  exact h
theorem flatW_one (h1 : ∀ a, ∀ u ∈ enc a, u.oneCell' = true) (L : List α) : ∀ u ∈ flatW enc L, u.oneCell' = true := by
  intro u hu
  simp only [flatW, List.mem_flatten, List.mem_map] at hu
  obtain ⟨l, ⟨a, _, rfl⟩, h⟩ := hu
  exact h1 a u h
/-- a literal of one row -/
theorem Rs.one (he : ∀ a, (enc a).length = K) (w : World) (x : α) (t : TypeId) : Rs enc K (w.alloc (.cells (enc x).toArray t)) (.slice (some ⟨w.heap.size, 0, none⟩) 1 1) [x] := by
  have hb := Sl.block (n := 1) (cap := 1) (size := K) (heap_alloc_new w (.cells (enc x).toArray t)) (by simp [he]) (Nat.le_refl _) (by simp [maxLen])
  refine ⟨he, ?_⟩
  have e : flatW enc [x] = (enc x).toArray.toList := by simp [flatW]
  rw [e]
  exact hb
/-- 's = append(s, x...)' of rows, s nil or the call's own, and where it lies -/
theorem wpList_append_rows {P : Program} {w : World} {ops : Array Oper} {rest : List Oper} {o : Oper} {a : Act} {Q : Exit → Act → World → Prop} (hgd : o.guard = none) (s x : Operand) (t : TypeId)
    (ho : o.op = .call { callee := .builtin .append, args := #[s, x], argTypes := #[t, t] })
    {e base bytes : Nat} {v vx : Value} {L M : List α} (E : Elem P t e K bytes) (hs : a.eval s = v) (hx : a.eval x = vx)
    (hown : OwnR enc K e w base v L) (hsrc : Rs enc K w vx M) (h1 : ∀ a, ∀ u ∈ enc a, u.oneCell' = true) (hlen : (L.length + M.length) * bytes ≤ 140737488355328) (hb : 0 < bytes) (hbase : base ≤ w.heap.size)
    (h : ∀ a' n' cap' w', Hid (n' = L.length + M.length) → OwnR enc K e w' base (.slice a' n' cap') (L ++ M) → w.grownBy w' v.ownBlock →
      Hid ((Value.slice a' n' cap').ownBlock = v.ownBlock ∨ (Value.slice a' n' cap').ownBlock = some w.heap.size) → Below base w w' → wpList P ops Q rest (a.put o.dst (.slice a' n' cap')) w') : wpList P ops Q (o :: rest) a w := by
  refine wpList_plain hgd fun K' hK => ?_
  have hl : L.length + M.length ≤ maxLen := by
    have := Nat.le_mul_of_pos_right (L.length + M.length) hb
    unfold maxLen
    omega
  obtain ⟨a', cap', w', hr, h2, h3, h4⟩ := run_append_sl_at (P := P) (ty := o.type) w E hown.2 hsrc.2 (flatW_one h1 M) hl hlen hbase
  unfold Oper.wp execOp
  simp only [ho, resolve, invoke, builtin, Sem.run_bind, Sem.run_pure, Result.andThen_ok, List.map_toArray, List.map_cons, List.map_nil, hs, hx, hr]
  exact hK _ _ (h a' _ cap' w' rfl (OwnR.app hown.1 h2) h3 h4 ((Below.refl _ _).grown h3 hbase (fun k hk => hown.ge k hk)))

end Cam
