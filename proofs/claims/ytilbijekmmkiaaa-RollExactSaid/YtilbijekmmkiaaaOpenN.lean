import Derived.Test.YtilbijekmmkiaaaOpenS
import Derived.Test.YtilbijekmmkiaaaOpenA
import Derived.Test.YtilbijekmmkiaaaProg
/- structs of numbers alone, as arguments. -/
namespace Cam
open Go Go.RowKit Go.Proofs Go.ChangeShapes Go.WideShapes Go.ChangeAt
def i64s (n : Int) : Prop := -9223372036854775808 ≤ n ∧ n ≤ 9223372036854775807
def Nums (cs : List Value) : Prop := ∃ L : List Int, cs = L.map (Value.int .i64) ∧ ∀ n ∈ L, i64s n
theorem nums_at {cs : List Value} (h : ∀ j, j < cs.length → ∃ n, cs[j]? = some (.int .i64 n) ∧ i64s n) : Nums cs := by
 induction cs with
 | nil => exact ⟨[], rfl, by simp⟩
 | cons c cs ih =>
  obtain ⟨n, h0, w0⟩ := h 0 (by simp)
  obtain ⟨L, rfl, hL⟩ := ih (fun j hj => by simpa using h (j + 1) (by simpa using hj))
  simp at h0
  subst h0
  refine ⟨n :: L, rfl, fun m hm => ?_⟩
  rcases List.mem_cons.1 hm with rfl | hm
  ·
   exact w0
  ·
   exact hL m hm
theorem Nums.at {cs : List Value} (h : Nums cs) {j : Nat} (hj : j < cs.length) : ∃ n, cs[j]? = some (.int .i64 n) ∧ i64s n := by
 obtain ⟨L, rfl, hL⟩ := h
 rw [List.length_map] at hj
 exact ⟨L[j], by rw [List.getElem?_map, List.getElem?_eq_getElem hj]; rfl, hL _ (List.getElem_mem hj)⟩
theorem Opens.nums_int {P : Program} {t : TypeId} (hu : P.underlying t = some (.int .i64)) : Opens P t (fun _ cs => Nums cs) :=
 (Opens.int hu).mono fun w cs ⟨n, hn, hw⟩ => ⟨[n], hn, fun m hm => by rw [List.mem_singleton] at hm; subst hm; exact i64_of_wf hw⟩
theorem Opens.nums_array {P : Program} {t e n : Nat} (hu : P.underlying t = some (.array n e)) (hs : P.cellsOf e = 1) (hc : P.cellsOf t = n) (he : P.underlying e = some (.int .i64)) : Opens P t (fun _ cs => Nums cs) :=
 (Opens.array hu hs (Opens.int he)).mono fun w cs ⟨hl, hq⟩ => nums_at fun j hj => by
  obtain ⟨m, hm, hw⟩ := hq j (by omega)
  have h1 := congrArg (fun L => L[0]?) hm
  rw [List.getElem?_take_of_lt (by omega)] at h1
  simp at h1
  exact ⟨m, h1, i64_of_wf hw⟩
def tiled (P : Program) (fs : Array Field) (n : Nat) : Bool := (List.range n).all fun j => (List.range fs.size).any fun i => match fs[i]? with | some f => decide (f.offset ≤ j) && decide (j < f.offset + P.cellsOf f.type) && decide (f.offset + P.cellsOf f.type ≤ n) | none => false
theorem Opens.nums_struct {P : Program} {t : TypeId} {fs : Array Field} (hu : P.underlying t = some (.struct fs)) (E : ∀ (i : Nat) (f : Field), fs[i]? = some f → Opens P f.type (fun _ cs => Nums cs)) (ht : tiled P fs (P.cellsOf t) = true) :
  Opens P t (fun _ cs => cs.length = P.cellsOf t ∧ Nums cs) :=
 (Opens.struct (Q := fun _ _ cs => Nums cs) hu E).mono fun w cs ⟨hl, hq⟩ => ⟨hl, nums_at fun j hj => by
  unfold tiled at ht
  rw [List.all_eq_true] at ht
  have h1 := ht j (List.mem_range.2 (by omega))
  rw [List.any_eq_true] at h1
  obtain ⟨i, hi, h2⟩ := h1
  cases hf : fs[i]? with
  | none => rw [hf] at h2; cases h2
  | some f =>
   rw [hf] at h2
   simp only [Bool.and_eq_true, decide_eq_true_eq] at h2
   obtain ⟨⟨a, b⟩, c⟩ := h2
   have hn := hq i f hf
   obtain ⟨n, h3, h4⟩ := hn.at (j := j - f.offset) (by rw [List.length_take, List.length_drop]; omega)
   rw [List.getElem?_take_of_lt (by omega), List.getElem?_drop, show f.offset + (j - f.offset) = j by omega] at h3
   exact ⟨n, h3, h4⟩⟩
end Cam
