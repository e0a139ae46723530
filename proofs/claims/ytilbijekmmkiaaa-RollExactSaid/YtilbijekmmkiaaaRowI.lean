import Derived.Test.YtilbijekmmkiaaaRow
import Derived.Lib.SliceRun
import Derived.Lib.AppendZerosOnto
import Derived.Lib.Overlaps
import Derived.Laws.Externs
import Derived.Laws.NewBlocks
import Derived.Laws.IdiomCopy
/- Rows of K cells in a block: what slices.Insert and slices.Delete write. No program in sight. -/
namespace Cam
open Go Go.RowKit
def HT (w : World) (g : Nat) (t : TypeId) (C : List Value) : Prop := w.heap[g]? = some (.cells C.toArray t (0, 0))
theorem HT.lt {w : World} {g : Nat} {t : TypeId} {C : List Value} (h : HT w g t C) : g < w.heap.size := (Array.getElem?_eq_some_iff.1 h).1
theorem HT.cell {w : World} {g : Nat} {t : TypeId} {C : List Value} (h : HT w g t C) {j : Nat} {v : Value} (hj : C[j]? = some v) : w.cell? ⟨g, j, none⟩ = some v := by
 unfold World.cell?
 rw [h]
 simpa using hj
theorem HT.isSome {w : World} {g : Nat} {t : TypeId} {C : List Value} (h : HT w g t C) {j : Nat} (hj : j < C.length) : (w.cell? ⟨g, j, none⟩).isSome = true := by
 rw [h.cell (List.getElem?_eq_getElem hj)]
 rfl
theorem HT.frozen {w : World} {g : Nat} {t : TypeId} {C : List Value} (h : HT w g t C) (j : Nat) : w.frozen? ⟨g, j, none⟩ = false := by
 unfold World.frozen?
 rw [h]
 rfl
theorem HT.shape {w : World} {g : Nat} {t : TypeId} {C : List Value} (h : HT w g t C) : w.shape? g = some (t, C.length) := by
 unfold World.shape?
 rw [h]
 simp
theorem HT.drew {w : World} {g : Nat} {t : TypeId} {C : List Value} (h : HT w g t C) : HT w.drew g t C := h
theorem HT.put {w : World} {g : Nat} {t : TypeId} {C : List Value} (h : HT w g t C) (j : Nat) (v : Value) : HT (w.setCell ⟨g, j, none⟩ v) g t (C.set j v) := by
 unfold HT
 rw [heap_setCell_same w g j _ _ v h]
 simp
theorem HT.puts {w : World} {g : Nat} {t : TypeId} {C : List Value} : ∀ {vs : List Value} {o : Nat} (_ : HT w g t C) (_ : o + vs.length ≤ C.length), HT (w.setCells g o vs) g t (splice C o vs) := by
 intro vs
 induction vs generalizing w C with
 | nil =>
  intro o h _
  have e : splice C o [] = C := by simp [splice]
  rw [e]
  exact h
 | cons v r ih =>
  intro o h hn
  simp only [List.length_cons] at hn
  have h1 := ih (o := o + 1) (h.put o v) (by rw [List.length_set]; omega)
  have e : splice (C.set o v) (o + 1) r = splice C o (v :: r) := by
   unfold splice
   apply List.ext_getElem?
   intro i
   simp only [List.getElem?_append, List.getElem?_take, List.getElem?_drop, List.getElem?_set, List.length_take, List.length_set, List.length_cons, List.getElem?_cons]
   grind
  rw [e] at h1
  exact h1
theorem HT.new {w : World} {t : TypeId} {C : List Value} : HT (w.alloc (.cells C.toArray t)) w.heap.size t C := heap_alloc_new w _
theorem HT.below {w w' : World} {g : Nat} {t : TypeId} {C : List Value} (h : HT w g t C) (hb : Below w.heap.size w w') : HT w' g t C := (hb.block g h.lt).trans h
theorem Below.puts {B : Nat} {a w : World} (h : Below B a w) {g : Nat} (hg : B ≤ g) (o : Nat) (vs : List Value) : Below B a (w.setCells g o vs) := by
 have hk := setCells_kept g vs o w
 exact h.trans ⟨hk.os, hk.tape, hk.output, hk.size, fun k hk' => by
  by_cases hl : k < w.heap.size
  ·
   exact hk.block k hl (by omega)
  ·
   have : w.heap.size ≤ k := by omega
   have e1 : (w.setCells g o vs).heap.size = w.heap.size := by
    clear hk h
    induction vs generalizing w o with
    | nil => rfl
    | cons v r ih => rw [World.setCells, ih]; simp; simpa using hl; simpa using this
   rw [Array.getElem?_eq_none (by omega), Array.getElem?_eq_none (by omega)]⟩
variable {α : Type} {enc : α → List Value} {K : Nat}
theorem OwnR.open {t : TypeId} {w : World} {base : Nat} {ad : Addr} {n c : Nat} {L : List α} (h : OwnR enc K t w base (.slice (some ad) n c) L) :
  ∃ g C, ad = ⟨g, 0, none⟩ ∧ base ≤ g ∧ HT w g t C ∧ n = L.length ∧ n ≤ c ∧ c ≤ 9223372036854775807 ∧ C.length = c * K ∧ C.take (n * K) = flatW enc L := by
 obtain ⟨a, cap, e, _⟩ := h.rs.shape
 simp only [Value.slice.injEq] at e
 obtain ⟨_, hn, _⟩ := e
 rcases h.2.2 with ⟨e, _⟩ | ⟨g, cap, cur, e, hg, hh, h1, h2, h3, h4⟩
 ·
  cases e
 ·
  cases e
  exact ⟨g, cur.toList, rfl, hg, by unfold HT; simpa using hh, rfl, h1, by unfold maxLen at h2; omega, by simpa using h3, h4⟩
theorem OwnR.close {t : TypeId} {w : World} {base g n c : Nat} {C : List Value} {L : List α} (he : ∀ a, (enc a).length = K) (hg : base ≤ g) (hh : HT w g t C) (hn : n = L.length) (hnc : n ≤ c) (hm : c ≤ 9223372036854775807) (hl : C.length = c * K) (ht : C.take (n * K) = flatW enc L) :
  OwnR enc K t w base (.slice (some ⟨g, 0, none⟩) n c) L := by
 subst hn
 exact ⟨he, flatW_length (fun a _ => he a), Or.inr ⟨g, c, C.toArray, rfl, hg, hh, hnc, by unfold maxLen; omega, by simpa using hl, by simpa using ht⟩⟩
theorem flatW_take (he : ∀ a, (enc a).length = K) : ∀ (L : List α) (i : Nat), flatW enc (L.take i) = (flatW enc L).take (i * K)
 | [], i => by simp [flatW]
 | a :: L, 0 => by simp [flatW]
 | a :: L, i + 1 => by
  have := flatW_take he L i
  have e1 : flatW enc (a :: L) = enc a ++ flatW enc L := by simp [flatW]
  have e2 : flatW enc ((a :: L).take (i + 1)) = enc a ++ flatW enc (L.take i) := by simp [flatW]
  rw [e1, e2, this, List.take_append, List.take_of_length_le (show (enc a).length ≤ (i + 1) * K by rw [he a, Nat.succ_mul]; omega), he a, Nat.succ_mul, Nat.add_sub_cancel]
theorem flatW_drop (he : ∀ a, (enc a).length = K) : ∀ (L : List α) (i : Nat), flatW enc (L.drop i) = (flatW enc L).drop (i * K)
 | [], i => by simp [flatW]
 | a :: L, 0 => by simp [flatW]
 | a :: L, i + 1 => by
  have := flatW_drop he L i
  have e1 : flatW enc (a :: L) = enc a ++ flatW enc L := by simp [flatW]
  rw [e1, List.drop_succ_cons, this, List.drop_append, List.drop_of_length_le (show (enc a).length ≤ (i + 1) * K by rw [he a, Nat.succ_mul]; omega), he a, Nat.succ_mul, Nat.add_sub_cancel]
  rfl
theorem flatW_app (L M : List α) : flatW enc (L ++ M) = flatW enc L ++ flatW enc M := by simp [flatW]
theorem splice_length {C vs : List Value} {o : Nat} (h : o + vs.length ≤ C.length) : (splice C o vs).length = C.length := by
 unfold splice
 simp only [List.length_append, List.length_take, List.length_drop]
 omega
theorem ins_splice {C : List Value} {n i c : Nat} {L : List α} {x : α} (he : ∀ a, (enc a).length = K) (hn : n = L.length) (hi : i ≤ n) (hc : n + 1 ≤ c) (hl : C.length = c * K) (ht : C.take (i * K) = (flatW enc L).take (i * K)) :
  (splice (splice C ((i + 1) * K) ((flatW enc L).drop (i * K))) (i * K) (enc x)).take ((n + 1) * K) = flatW enc (L.take i ++ x :: L.drop i) := by
 have hfl : (flatW enc L).length = n * K := by rw [hn]; exact flatW_length (fun a _ => he a)
 have hiK : i * K ≤ n * K := Nat.mul_le_mul_right K hi
 have h1 : (n + 1) * K = n * K + K := Nat.succ_mul n K
 have h2 : (i + 1) * K = i * K + K := Nat.succ_mul i K
 have h3 : (n + 1) * K ≤ c * K := Nat.mul_le_mul_right K hc
 rw [flatW_app, show x :: L.drop i = [x] ++ L.drop i from rfl, flatW_app, flatW_take he, flatW_drop he, show flatW enc [x] = enc x by simp [flatW]]
 apply List.ext_getElem?
 intro j
 have hx := he x
 have hT : ∀ j, j < i * K → C[j]? = (flatW enc L)[j]? := fun j hj => by
  have := congrArg (·[j]?) ht
  simpa [List.getElem?_take, hj] using this
 unfold splice
 simp only [List.getElem?_append, List.getElem?_take, List.getElem?_drop, List.length_take, List.length_append, List.length_drop, hfl, hx, hl]
 by_cases c1 : j < i * K
 ·
  have := hT j c1
  grind
 ·
  by_cases c2 : j < i * K + K
  ·
   grind
  ·
   by_cases c3 : j < n * K + K
   ·
    grind
   ·
    have : (flatW enc L)[i * K + (j - (i * K) - K)]? = none := List.getElem?_eq_none (by omega)
    grind
theorem ins_splice2 {C : List Value} {n i c : Nat} {L : List α} {x : α} (he : ∀ a, (enc a).length = K) (hn : n = L.length) (hi : i ≤ n) (hc : n + 1 ≤ c) (hl : C.length = c * K) (ht : C.take (i * K) = (flatW enc L).take (i * K)) :
  (splice (splice C (i * K) (enc x)) ((i + 1) * K) ((flatW enc L).drop (i * K))).take ((n + 1) * K) = flatW enc (L.take i ++ x :: L.drop i) := by
 have hfl : (flatW enc L).length = n * K := by rw [hn]; exact flatW_length (fun a _ => he a)
 have hiK : i * K ≤ n * K := Nat.mul_le_mul_right K hi
 have h1 : (n + 1) * K = n * K + K := Nat.succ_mul n K
 have h2 : (i + 1) * K = i * K + K := Nat.succ_mul i K
 have h3 : (n + 1) * K ≤ c * K := Nat.mul_le_mul_right K hc
 rw [flatW_app, show x :: L.drop i = [x] ++ L.drop i from rfl, flatW_app, flatW_take he, flatW_drop he, show flatW enc [x] = enc x by simp [flatW]]
 apply List.ext_getElem?
 intro j
 have hx := he x
 have hT : ∀ j, j < i * K → C[j]? = (flatW enc L)[j]? := fun j hj => by
  have := congrArg (·[j]?) ht
  simpa [List.getElem?_take, hj] using this
 unfold splice
 simp only [List.getElem?_append, List.getElem?_take, List.getElem?_drop, List.length_take, List.length_append, List.length_drop, hfl, hx, hl]
 by_cases c1 : j < i * K
 ·
  have := hT j c1
  grind
 ·
  by_cases c2 : j < i * K + K
  ·
   grind
  ·
   by_cases c3 : j < n * K + K
   ·
    grind
   ·
    have : (flatW enc L)[i * K + (j - (i * K) - K)]? = none := List.getElem?_eq_none (by omega)
    grind
end Cam
namespace Cam
open Go Go.RowKit
theorem isSome_puts (b : Nat) (vs : List Value) (o : Nat) (w : World) (h : ∀ j, j < vs.length → (w.cell? ⟨b, o + j, none⟩).isSome = true) (k : Nat) (hk : (w.cell? ⟨b, k, none⟩).isSome = true) : ((w.setCells b o vs).cell? ⟨b, k, none⟩).isSome = true := by
 by_cases hin : o ≤ k ∧ k < o + vs.length
 ·
  have := World.cell?_setCells_in b vs o w h (k - o) (by omega)
  rw [show o + (k - o) = k by omega] at this
  rw [this]; rfl
 ·
  rw [World.cell?_setCells_out b vs o w ⟨b, k, none⟩ (fun _ _ => by show k < o ∨ o + vs.length ≤ k; omega)]
  exact hk
theorem wpList_copy_run {P : Program} (w : World) {ops : Array Oper} {rest : List Oper} {o : Oper} {a : Act} {Q : Exit → Act → World → Prop} (hgd : o.guard = none) (d s : Operand) (t t' : TypeId)
  (ho : o.op = .call { callee := .builtin .copy, args := #[d, s], argTypes := #[t, t'] }) (v u : Value) (hd : a.eval d = v) (hs : a.eval s = u) {v' : Value} {w' : World}
  (hr : (Builtin.copy_ #[t, t'] o.type #[v, u]).run P w = .ok v' w') (h : wpList P ops Q rest (a.put o.dst v') w') : wpList P ops Q (o :: rest) a w :=
 wpList_plain hgd fun K hK => by
  unfold Oper.wp execOp
  simp only [ho, resolve, invoke, builtin, Sem.run_bind, Sem.run_pure, Result.andThen_ok, List.map_toArray, List.map_cons, List.map_nil, hd, hs, hr]
  exact hK _ _ h
theorem step_copy_run {P : Program} {ops : Array Oper} {o : Oper} {a : Act} {w : World} {K : Act → World → Prop} {Q : Exit → Act → World → Prop} {E : Prop}
  (hg : o.guard = none) (d x : Operand) (dT sT : TypeId) (hop : o.op = Op.call { callee := Callee.builtin Builtin.copy, args := #[d, x], argTypes := #[dT, sT] })
  (v u : Value) (hd : a.eval d = v) (hx : a.eval x = u) {v' : Value} {w' : World} (hr : (Builtin.copy_ #[dT, sT] o.type #[v, u]).run P w = .ok v' w') (hK : K (a.put o.dst v') w') :
  if Region.wanted o (yielded ops a.tmps) = true then Oper.wp P o a w K Q else E := by
 have hw : Region.wanted o (yielded ops a.tmps) = true := by simp [Region.wanted, hg]
 rw [if_pos hw]
 unfold Oper.wp
 simp [execOp, hop, resolve, invoke, builtin, hd, hx, hr, Result.andThen]
 exact hK
theorem run_copy_wide {P : Program} (w : World) (dT sT ty elem : TypeId) (b o dLen dCap : Nat) (a : Addr) (sLen sCap W : Nat) (cs : List Value)
  (hu : P.underlying dT = some (.slice elem)) (hs : (P.info? elem).map (·.size) = some W) (hn : cs.length = Nat.min sLen dLen * W)
  (hsrc : ∀ j v, cs[j]? = some v → w.cell? (a.add j) = some v) (hc : ∀ j, j < cs.length → (w.cell? ⟨b, o + j, none⟩).isSome = true) (hf : ∀ j, j < cs.length → w.frozen? ⟨b, o + j, none⟩ = false) (h1 : ∀ v ∈ cs, v.oneCell' = true) :
  (Builtin.copy_ #[dT, sT] ty #[.slice (some ⟨b, o, none⟩) dLen dCap, .slice (some a) sLen sCap]).run P w = .ok (goInt (Nat.min sLen dLen)) (w.setCells b o cs) := by
 have hl := run_loadCells_list (P := P) w a cs hsrc
 have hst := run_storeCells_cells (P := P) b o cs 0 w (by simpa using hc) (by simpa using hf) h1
 cases hq : P.info? elem with
 | none => simp [hq] at hs
 | some i =>
  have hi : i.size = W := by simpa [hq] using hs
  simp [Builtin.copy_, run_underlying hu, Builtin.lenOf, Builtin.firstCells, Go.sizeOf, typeInfo, hq, hi, ← hn, hl, hst]
end Cam
