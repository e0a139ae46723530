import Derived.Test.YtgeclnjkkjmbaaaGreatPkPz
import Derived.Deep.MidRow
import Derived.Laws.CopyOwn
import Derived.Deep.RegionHeld3
import Derived.Lib.SliceRun
import Derived.Lib.AppendZerosOnto
import Derived.Lib.Overlaps
import Derived.Laws.Externs
import Derived.Laws.NewBlocks
import Derived.Laws.IdiomCopy
/- Several small texts in one: MemB, DkM, Row, RowI. No condition. -/
namespace Cam
open Go Go.RowKit
set_option linter.unusedVariables false
set_option linter.unusedSimpArgs false
set_option maxHeartbeats 200000
def inBlock (v : Value) (k : Nat) : Prop := ∃ ad n c, v = .slice (some ad) n c ∧ ad.block = k
theorem Kept.cell {S : Nat → Prop} {w w' : World} (hk : Kept S w w') {p : Addr} {x : Value} (h : w.cell? p = some x) (hp : ¬ S p.block) : w'.cell? p = some x := by
 have hlt := World.block_lt_of_cell? w _ h
 unfold World.cell? at *
 rw [hk.block _ hlt hp]
 exact h
theorem Sl.kept1 {S : Nat → Prop} {w w' : World} {v : Value} {size n : Nat} {cs : List Value} (h : Sl w v size n cs) (hk : Kept S w w') (ha : cs ≠ [] → ∀ k, inBlock v k → ¬ S k) : Sl w' v size n cs := by
 obtain ⟨h0, a, c, rfl, h1, h2, h3, h4⟩ := h
 refine ⟨h0, a, c, rfl, h1, h2, h3, fun ad had i u hu => ?_⟩
 have hc := h4 ad had i u hu
 subst had
 have hb : (ad.add i).block = ad.block := by unfold Addr.add; split <;> rfl
 exact hk.cell hc (by rw [hb]; exact ha (fun e => by subst e; simp at hu) _ ⟨ad, n, c, rfl, rfl⟩)
theorem Sl.inlt {w : World} {v : Value} {size n : Nat} {cs : List Value} (h : Sl w v size n cs) (hn : cs ≠ []) {k : Nat} (hk : inBlock v k) : k < w.heap.size := by
 obtain ⟨h0, a, c, rfl, h1, h2, h3, h4⟩ := h
 obtain ⟨ad, n', c', he, rfl⟩ := hk
 injection he with h5 _ _
 have hp : 0 < cs.length := List.length_pos_iff.2 hn
 have hlt := World.block_lt_of_cell? w _ (h4 ad h5 0 _ (List.getElem?_eq_getElem hp))
 have hb : (ad.add 0).block = ad.block := by unfold Addr.add; split <;> rfl
 rw [hb] at hlt
 exact hlt
theorem Bs.kept1 {S : Nat → Prop} {w w' : World} {v : Value} {l : List UInt8} (h : Bs w v l) (hk : Kept S w w') (ha : l ≠ [] → ∀ k, inBlock v k → ¬ S k) : Bs w' v l := Sl.kept1 h hk (fun hn => ha (fun e => hn (by rw [e]; rfl)))
theorem Is.kept1 {S : Nat → Prop} {w w' : World} {v : Value} {l : List Int} (h : Is w v l) (hk : Kept S w w') (ha : l ≠ [] → ∀ k, inBlock v k → ¬ S k) : Is w' v l := Sl.kept1 h hk (fun hn => ha (fun e => hn (by rw [e]; rfl)))
theorem Bs.inlt {w : World} {v : Value} {l : List UInt8} (h : Bs w v l) (hn : l ≠ []) {k : Nat} (hk : inBlock v k) : k < w.heap.size := Sl.inlt h (by cases l; exact absurd rfl hn; simp) hk
theorem Is.inlt {w : World} {v : Value} {l : List Int} (h : Is w v l) (hn : l ≠ []) {k : Nat} (hk : inBlock v k) : k < w.heap.size := Sl.inlt h (by cases l; exact absurd rfl hn; simp) hk
end Cam
namespace Cam
open Go Go.RowKit
set_option linter.unusedVariables false
set_option linter.unusedSimpArgs false
set_option maxHeartbeats 200000
def HC (w : World) (g : Nat) (C : List Value) : Prop := ∃ t, w.heap[g]? = some (.cells C.toArray t (0, 0))
theorem HC.lt {w : World} {g : Nat} {C : List Value} (h : HC w g C) : g < w.heap.size := by
 obtain ⟨t, h⟩ := h
 exact (Array.getElem?_eq_some_iff.1 h).1
theorem HC.kept {S : Nat → Prop} {w w' : World} {g : Nat} {C : List Value} (h : HC w g C) (hk : Kept S w w') (hg : ¬ S g) : HC w' g C := by
 have hlt := h.lt
 obtain ⟨t, h⟩ := h
 exact ⟨t, (hk.block g hlt hg).trans h⟩
theorem HC.below {w w' : World} {g : Nat} {C : List Value} (h : HC w g C) (hb : Below w.heap.size w w') : HC w' g C := h.kept (Kept.of_below hb) (fun h => h)
theorem HC.alloc {w : World} {g : Nat} {C : List Value} (h : HC w g C) (o : Obj) : HC (w.alloc o) g C := h.below ((Below.refl _ _).alloc (Nat.le_refl _) o)
theorem HC.drew {w : World} {g : Nat} {C : List Value} (h : HC w g C) : HC w.drew g C := h
theorem HC.drewN {w : World} {g : Nat} {C : List Value} (h : HC w g C) (n : Nat) : HC (w.drewN n) g C := h
theorem HC.new {w : World} {C : List Value} {t : TypeId} : HC (w.alloc (.cells C.toArray t)) w.heap.size C := ⟨t, heap_alloc_new w _⟩
theorem HC.cell {w : World} {g : Nat} {C : List Value} (h : HC w g C) {j : Nat} {v : Value} (hj : C[j]? = some v) : w.cell? ⟨g, j, none⟩ = some v := by
 obtain ⟨t, h⟩ := h
 unfold World.cell?
 rw [h]
 simpa using hj
theorem HC.frozen {w : World} {g : Nat} {C : List Value} (h : HC w g C) (j : Nat) : w.frozen? ⟨g, j, none⟩ = false := by
 obtain ⟨t, h⟩ := h
 unfold World.frozen?
 rw [h]
 rfl
theorem HC.range {w : World} {g : Nat} {C : List Value} (h : HC w g C) (o : Nat) {cs : List Value} (hc : ∀ j v, cs[j]? = some v → C[o + j]? = some v) : w.rangeAt g o cs := fun j v hv => h.cell (hc j v hv)
theorem HC.there {w : World} {g : Nat} {C : List Value} (h : HC w g C) {o n : Nat} (hn : o + n ≤ C.length) : w.there g o n := fun j hj => by
 refine ⟨?_, h.frozen _⟩
 rw [h.cell (List.getElem?_eq_getElem (by omega : o + j < C.length))]
 rfl
theorem HC.put {w : World} {g : Nat} {C : List Value} (h : HC w g C) (j : Nat) (v : Value) : HC (w.setCell ⟨g, j, none⟩ v) g (C.set j v) := by
 obtain ⟨t, h⟩ := h
 refine ⟨t, ?_⟩
 rw [heap_setCell_same w g j _ _ v h]
 simp
theorem HC.puts {w : World} {g : Nat} {C : List Value} : ∀ {vs : List Value} {o : Nat} (_ : HC w g C) (_ : o + vs.length ≤ C.length), HC (w.setCells g o vs) g (splice C o vs) := by
 intro vs
 induction vs generalizing w C with
 | nil =>
  intro o h _
  have e : splice C o [] = C := by simp [splice]
  rw [e]
  exact h
 | cons v r ih =>
  intro o h hn
  simp only [List.length_cons] at hn
  have h1 := ih (o := o + 1) (h.put o v) (by rw [List.length_set]; omega)
  have e : splice (C.set o v) (o + 1) r = splice C o (v :: r) := by
   unfold splice
   apply List.ext_getElem?
   intro i
   simp only [List.getElem?_append, List.getElem?_take, List.getElem?_drop, List.getElem?_set, List.length_take, List.length_set, List.length_cons, List.getElem?_cons]
   grind
  rw [e] at h1
  exact h1
theorem setCells_kept (g : Nat) : ∀ (vs : List Value) (o : Nat) (w : World), Kept (fun k => k = g) w (w.setCells g o vs)
 | [], _, w => Kept.refl _ w
 | v :: r, o, w => ((Kept.refl (fun k => k = g) w).setCell ⟨g, o, none⟩ v rfl).trans (setCells_kept g r (o + 1) _) (fun _ _ h => h)
def flatW {α : Type} (f : α → List Value) (L : List α) : List Value := (L.map f).flatten
theorem flatW_length {α : Type} {f : α → List Value} {W : Nat} : ∀ {L : List α}, (∀ a ∈ L, (f a).length = W) → (flatW f L).length = L.length * W
 | [], _ => by simp [flatW]
 | a :: L, h => by
  have h1 := h a (by simp)
  have h2 := flatW_length (f := f) (W := W) (L := L) (fun b hb => h b (by simp [hb]))
  simp only [flatW, List.map_cons, List.flatten_cons, List.length_append, List.length_cons] at *
  rw [h1, h2, Nat.succ_mul]
  omega
theorem flatW_at {α : Type} {f : α → List Value} {W : Nat} : ∀ {L : List α} (_ : ∀ a ∈ L, (f a).length = W) {k : Nat} (hk : k < L.length) (j : Nat) (v : Value) (_ : (f L[k])[j]? = some v), (flatW f L)[k * W + j]? = some v
 | a :: L, h, 0, _, j, v, hv => by
  have hj := (List.getElem?_eq_some_iff.1 hv).1
  simp only [flatW, List.map_cons, List.flatten_cons, Nat.zero_mul, Nat.zero_add]
  rw [List.getElem?_append_left (show j < (f a).length from hj)]
  exact hv
 | a :: L, h, k + 1, hk, j, v, hv => by
  have h1 := h a (by simp)
  have := flatW_at (f := f) (W := W) (L := L) (fun b hb => h b (by simp [hb])) (k := k) (by simpa using hk) j v hv
  simp only [flatW, List.map_cons, List.flatten_cons] at *
  rw [List.getElem?_append_right (by rw [h1, Nat.succ_mul]; omega), h1, Nat.succ_mul, show k * W + W + j - W = k * W + j by omega]
  exact this
/-! Steps of a region that draws its order. -/
theorem step_store_mid {P : Program} {ops : Array Oper} {o : Oper} {a : Act} {w : World} {K : Act → World → Prop} {Q : Exit → Act → World → Prop} {E : Prop} (hgd : o.guard = none) (ty : TypeId) (x y : Operand) (ho : o.op = .store ty x y)
  (b k : Nat) (cs : List Value) (hx : a.eval x = .pointer (some ⟨b, k, none⟩)) (hy : a.eval y = .agg cs.toArray)
  (ht : w.there b k cs.length) (hi : (P.info? ty).map (·.size) = some cs.length) (h1 : ∀ v ∈ cs, v.oneCell' = true)
  (h : K (a.put o.dst undef) (w.setCells b k cs)) : if Region.wanted o (yielded ops a.tmps) = true then Oper.wp P o a w K Q else E := by
 rw [if_pos (by simp [Region.wanted, hgd])]
 exact wp_store_mid ty x y ho b k cs.toArray hx hy (by simpa using ht) (by simpa using hi) (all_oneCell_toArray h1) (by simpa using h)
end Cam
namespace Cam
open Go Go.RowKit
set_option linter.unusedVariables false
set_option linter.unusedSimpArgs false
set_option maxHeartbeats 200000
variable {α : Type} {enc : α → List Value} {K : Nat}
def Rs (enc : α → List Value) (K : Nat) (w : World) (v : Value) (L : List α) : Prop := (∀ a, (enc a).length = K) ∧ Sl w v K L.length (flatW enc L)
theorem Rs.shape {w : World} {v : Value} {L : List α} (h : Rs enc K w v L) : ∃ a cap, v = .slice a L.length cap ∧ L.length ≤ cap ∧ cap ≤ 9223372036854775807 := Sl.shape h.2
theorem Rs.mono {w w' : World} {v : Value} {L : List α} (h : Rs enc K w v L) (hb : Below w.heap.size w w') : Rs enc K w' v L := ⟨h.1, Sl.mono h.2 hb⟩
theorem Rs.monoB {w w' : World} {B : Nat} {v : Value} {L : List α} (h : Rs enc K w v L) (hb : Below B w w') (hB : w.heap.size ≤ B) : Rs enc K w' v L := h.mono (hb.mono hB)
theorem Rs.alloc {w : World} {v : Value} {L : List α} (h : Rs enc K w v L) (o : Obj) : Rs enc K (w.alloc o) v L := h.mono (Bn)
theorem Rs.nil (he : ∀ a, (enc a).length = K) (w : World) : Rs enc K w (.slice none 0 0) ([] : List α) := ⟨he, Sl.nil w K⟩
theorem Rs.at {w : World} {a : Option Addr} {len cap : Nat} {L : List α} (h : Rs enc K w (.slice a len cap) L) (hp : 0 < L.length) (hK : 0 < K) :
  ∃ b off, a = some ⟨b, off, none⟩ ∧ b < w.heap.size ∧ ∀ i (hi : i < L.length) j u, (enc L[i])[j]? = some u → w.cell? ⟨b, off + i * K + j, none⟩ = some u := by
 have hl : (flatW enc L).length = L.length * K := flatW_length (fun a _ => h.1 a)
 obtain ⟨b, off, h1, h2, h3⟩ := Sl.at h.2 (by rw [hl]; exact Nat.mul_pos hp hK)
 refine ⟨b, off, h1, h2, fun i hi j u hu => ?_⟩
 have h5 := flatW_at (f := enc) (W := K) (fun a _ => h.1 a) hi j u hu
 have hlt := (List.getElem?_eq_some_iff.1 h5).1
 have h4 := h3 (i * K + j) hlt
 rw [Nat.add_assoc, h4]
 exact (List.getElem_eq_iff hlt).2 h5 ▸ rfl
def OwnR (enc : α → List Value) (K : Nat) (t : TypeId) (w : World) (base : Nat) (v : Value) (L : List α) : Prop := (∀ a, (enc a).length = K) ∧ w.ownsRow base t K v L.length (flatW enc L)
theorem OwnR.rs {t : TypeId} {w : World} {base : Nat} {v : Value} {L : List α} (h : OwnR enc K t w base v L) : Rs enc K w v L := ⟨h.1, Sl.of_owns h.2⟩
theorem OwnR.named {t : TypeId} {w : World} {base : Nat} {v : Value} {L : List α} (h : OwnR enc K t w base v L) : ∃ a n cap, v = .slice a n cap ∧ Hid (n = L.length) ∧ OwnR enc K t w base (.slice a n cap) L := by
 obtain ⟨a, cap, rfl, _⟩ := h.rs.shape
 exact ⟨a, _, cap, rfl, rfl, h⟩
theorem OwnR.empty (he : ∀ a, (enc a).length = K) (t : TypeId) (w : World) (base : Nat) : OwnR enc K t w base (.slice none 0 0) ([] : List α) := ⟨he, World.ownsRow_nil _ _ _ _⟩
theorem OwnR.below {t : TypeId} {w w' : World} {base : Nat} {v : Value} {L : List α} (h : OwnR enc K t w base v L) (hb : Below w.heap.size w w') : OwnR enc K t w' base v L := ⟨h.1, ownsRow_below h.2 hb⟩
theorem OwnR.base {t : TypeId} {w : World} {base base' : Nat} {v : Value} {L : List α} (h : OwnR enc K t w base v L) (hb : base' ≤ base) : OwnR enc K t w base' v L := ⟨h.1, ownsRow_base h.2 hb⟩
theorem OwnR.alloc {t : TypeId} {w : World} {base : Nat} {v : Value} {L : List α} (h : OwnR enc K t w base v L) (o : Obj) : OwnR enc K t (w.alloc o) base v L := ⟨h.1, World.ownsRow.alloc h.2 o⟩
theorem OwnR.lt {t : TypeId} {w : World} {base : Nat} {v : Value} {L : List α} (h : OwnR enc K t w base v L) : ∀ g, v.ownBlock = some g → g < w.heap.size := fun g hg => (World.ownsRow.lt h.2 g hg).2
theorem OwnR.ge {t : TypeId} {w : World} {base : Nat} {v : Value} {L : List α} (h : OwnR enc K t w base v L) : ∀ g, v.ownBlock = some g → base ≤ g := fun g hg => (World.ownsRow.lt h.2 g hg).1
theorem OwnR.grown {t : TypeId} {w w' : World} {base : Nat} {v : Value} {row : Option Nat} {L : List α} (h : OwnR enc K t w base v L) (hg : w.grownBy w' row) (hne : ∀ k, v.ownBlock = some k → row ≠ some k) : OwnR enc K t w' base v L :=
 ⟨h.1, World.ownsRow.kept h.2 hg (by
  cases hv : v.ownBlock with
  | none => exact .inl rfl
  | some k => exact .inr (fun e => hne k hv e.symm))⟩
theorem OwnR.app {t : TypeId} {w : World} {base : Nat} {v : Value} {L M : List α} (he : ∀ a, (enc a).length = K) (h : w.ownsRow base t K v (L.length + M.length) (flatW enc L ++ flatW enc M)) : OwnR enc K t w base v (L ++ M) := by
 refine ⟨he, ?_⟩
 rw [List.length_append, show flatW enc (L ++ M) = flatW enc L ++ flatW enc M by simp [flatW]]
 exact h
theorem flatW_one (h1 : ∀ a, ∀ u ∈ enc a, u.oneCell' = true) (L : List α) : ∀ u ∈ flatW enc L, u.oneCell' = true := by
 intro u hu
 simp only [flatW, List.mem_flatten, List.mem_map] at hu
 obtain ⟨l, ⟨a, _, rfl⟩, h⟩ := hu
 exact h1 a u h
theorem Rs.one (he : ∀ a, (enc a).length = K) (w : World) (x : α) (t : TypeId) : Rs enc K (w.alloc (.cells (enc x).toArray t)) (.slice (some ⟨w.heap.size, 0, none⟩) 1 1) [x] := by
 have hb := Sl.block (n := 1) (cap := 1) (size := K) (heap_alloc_new w (.cells (enc x).toArray t)) (by simp [he]) (Nat.le_refl _) (by simp [maxLen])
 refine ⟨he, ?_⟩
 have e : flatW enc [x] = (enc x).toArray.toList := by simp [flatW]
 rw [e]
 exact hb
theorem wpList_append_rows {P : Program} {w : World} {ops : Array Oper} {rest : List Oper} {o : Oper} {a : Act} {Q : Exit → Act → World → Prop} (hgd : o.guard = none) (s x : Operand) (t : TypeId)
  (ho : o.op = .call { callee := .builtin .append, args := #[s, x], argTypes := #[t, t] })
  {e base bytes : Nat} {v vx : Value} {L M : List α} (E : Elem P t e K bytes) (hs : a.eval s = v) (hx : a.eval x = vx)
  (hown : OwnR enc K e w base v L) (hsrc : Rs enc K w vx M) (h1 : ∀ a, ∀ u ∈ enc a, u.oneCell' = true) (hlen : (L.length + M.length) * bytes ≤ 140737488355328) (hb : 0 < bytes) (hbase : base ≤ w.heap.size)
  (h : ∀ a' n' cap' w', Hid (n' = L.length + M.length) → OwnR enc K e w' base (.slice a' n' cap') (L ++ M) → w.grownBy w' v.ownBlock →
   Hid ((Value.slice a' n' cap').ownBlock = v.ownBlock ∨ (Value.slice a' n' cap').ownBlock = some w.heap.size) → Below base w w' → wpList P ops Q rest (a.put o.dst (.slice a' n' cap')) w') : wpList P ops Q (o :: rest) a w := by
 refine wpList_plain hgd fun K' hK => ?_
 have hl : L.length + M.length ≤ maxLen := by
  have := Nat.le_mul_of_pos_right (L.length + M.length) hb
  unfold maxLen
  omega
 obtain ⟨a', cap', w', hr, h2, h3, h4⟩ := run_append_sl_at (P := P) (ty := o.type) w E hown.2 hsrc.2 (flatW_one h1 M) hl hlen hbase
 unfold Oper.wp execOp
 simp only [ho, resolve, invoke, builtin, Sem.run_bind, Sem.run_pure, Result.andThen_ok, List.map_toArray, List.map_cons, List.map_nil, hs, hx, hr]
 exact hK _ _ (h a' _ cap' w' rfl (OwnR.app hown.1 h2) h3 h4 ((Below.refl _ _).grown h3 hbase (fun k hk => hown.ge k hk)))
end Cam
namespace Cam
open Go Go.RowKit
set_option linter.unusedVariables false
set_option linter.unusedSimpArgs false
set_option maxHeartbeats 200000
def HT (w : World) (g : Nat) (t : TypeId) (C : List Value) : Prop := w.heap[g]? = some (.cells C.toArray t (0, 0))
theorem HT.lt {w : World} {g : Nat} {t : TypeId} {C : List Value} (h : HT w g t C) : g < w.heap.size := (Array.getElem?_eq_some_iff.1 h).1
theorem HT.cell {w : World} {g : Nat} {t : TypeId} {C : List Value} (h : HT w g t C) {j : Nat} {v : Value} (hj : C[j]? = some v) : w.cell? ⟨g, j, none⟩ = some v := by
 unfold World.cell?
 rw [h]
 simpa using hj
theorem HT.isSome {w : World} {g : Nat} {t : TypeId} {C : List Value} (h : HT w g t C) {j : Nat} (hj : j < C.length) : (w.cell? ⟨g, j, none⟩).isSome = true := by
 rw [h.cell (List.getElem?_eq_getElem hj)]
 rfl
theorem HT.frozen {w : World} {g : Nat} {t : TypeId} {C : List Value} (h : HT w g t C) (j : Nat) : w.frozen? ⟨g, j, none⟩ = false := by
 unfold World.frozen?
 rw [h]
 rfl
theorem HT.shape {w : World} {g : Nat} {t : TypeId} {C : List Value} (h : HT w g t C) : w.shape? g = some (t, C.length) := by
 unfold World.shape?
 rw [h]
 simp
theorem HT.drew {w : World} {g : Nat} {t : TypeId} {C : List Value} (h : HT w g t C) : HT w.drew g t C := h
theorem HT.put {w : World} {g : Nat} {t : TypeId} {C : List Value} (h : HT w g t C) (j : Nat) (v : Value) : HT (w.setCell ⟨g, j, none⟩ v) g t (C.set j v) := by
 unfold HT
 rw [heap_setCell_same w g j _ _ v h]
 simp
theorem HT.puts {w : World} {g : Nat} {t : TypeId} {C : List Value} : ∀ {vs : List Value} {o : Nat} (_ : HT w g t C) (_ : o + vs.length ≤ C.length), HT (w.setCells g o vs) g t (splice C o vs) := by
 intro vs
 induction vs generalizing w C with
 | nil =>
  intro o h _
  have e : splice C o [] = C := by simp [splice]
  rw [e]
  exact h
 | cons v r ih =>
  intro o h hn
  simp only [List.length_cons] at hn
  have h1 := ih (o := o + 1) (h.put o v) (by rw [List.length_set]; omega)
  have e : splice (C.set o v) (o + 1) r = splice C o (v :: r) := by
   unfold splice
   apply List.ext_getElem?
   intro i
   simp only [List.getElem?_append, List.getElem?_take, List.getElem?_drop, List.getElem?_set, List.length_take, List.length_set, List.length_cons, List.getElem?_cons]
   grind
  rw [e] at h1
  exact h1
theorem HT.new {w : World} {t : TypeId} {C : List Value} : HT (w.alloc (.cells C.toArray t)) w.heap.size t C := heap_alloc_new w _
theorem HT.below {w w' : World} {g : Nat} {t : TypeId} {C : List Value} (h : HT w g t C) (hb : Below w.heap.size w w') : HT w' g t C := (hb.block g h.lt).trans h
theorem Below.puts {B : Nat} {a w : World} (h : Below B a w) {g : Nat} (hg : B ≤ g) (o : Nat) (vs : List Value) : Below B a (w.setCells g o vs) := by
 have hk := setCells_kept g vs o w
 exact h.trans ⟨hk.os, hk.tape, hk.output, hk.size, fun k hk' => by
  by_cases hl : k < w.heap.size
  ·
   exact hk.block k hl (by omega)
  ·
   have : w.heap.size ≤ k := by omega
   have e1 : (w.setCells g o vs).heap.size = w.heap.size := by
    clear hk h
    induction vs generalizing w o with
    | nil => rfl
    | cons v r ih => rw [World.setCells, ih]; simp; simpa using hl; simpa using this
   rw [Array.getElem?_eq_none (by omega), Array.getElem?_eq_none (by omega)]⟩
variable {α : Type} {enc : α → List Value} {K : Nat}
theorem OwnR.open {t : TypeId} {w : World} {base : Nat} {ad : Addr} {n c : Nat} {L : List α} (h : OwnR enc K t w base (.slice (some ad) n c) L) :
  ∃ g C, ad = ⟨g, 0, none⟩ ∧ base ≤ g ∧ HT w g t C ∧ n = L.length ∧ n ≤ c ∧ c ≤ 9223372036854775807 ∧ C.length = c * K ∧ C.take (n * K) = flatW enc L := by
 obtain ⟨a, cap, e, _⟩ := h.rs.shape
 simp only [Value.slice.injEq] at e
 obtain ⟨_, hn, _⟩ := e
 rcases h.2.2 with ⟨e, _⟩ | ⟨g, cap, cur, e, hg, hh, h1, h2, h3, h4⟩
 ·
  cases e
 ·
  cases e
  exact ⟨g, cur.toList, rfl, hg, by unfold HT; simpa using hh, rfl, h1, by unfold maxLen at h2; omega, by simpa using h3, h4⟩
theorem splice_length {C vs : List Value} {o : Nat} (h : o + vs.length ≤ C.length) : (splice C o vs).length = C.length := by
 unfold splice
 simp only [List.length_append, List.length_take, List.length_drop]
 omega
end Cam
