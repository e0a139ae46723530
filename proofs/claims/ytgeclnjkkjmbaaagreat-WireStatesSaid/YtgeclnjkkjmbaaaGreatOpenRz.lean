import Derived.Test.YtgeclnjkkjmbaaaGreatOpen
import Derived.Test.YtgeclnjkkjmbaaaGreatMem
import Derived.OpenShut
import Derived.Test.YtgeclnjkkjmbaaaGreatProg
import Derived.Test.YtgeclnjkkjmbaaaGreatVc
/- Several small texts in one: OpenS, OpenA, OpenF, OpenR. No condition. -/
namespace Cam
open Go Go.RowKit Go.ChangeShapes Go.WideShapes Go.ChangeAt
set_option linter.unusedVariables false
set_option linter.unusedSimpArgs false
set_option maxHeartbeats 200000
theorem weightsEach_mem {H : Type} {P : Program} : ∀ {ts : List TypeId} {l : List (DataW H)} {i : Nat} {t : TypeId} {d : DataW H}, ts[i]? = some t → l[i]? = some d → ∀ {n : Nat}, n ∈ d.weights P t → n ∈ DataW.weightsEach P ts l
 | [], _, i, _, _, ht, _, _, _ => by simp at ht
 | _ :: _, [], i, _, _, _, hd, _, _ => by simp at hd
 | t' :: ts, d' :: l, i, t, d, ht, hd, n, hn => by
  simp only [DataW.weightsEach, List.mem_append]
  cases i with
  | zero =>
   simp at ht hd
   subst ht hd
   exact Or.inl hn
  | succ i =>
   simp at ht hd
   exact Or.inr (weightsEach_mem ht hd hn)
theorem Opens.struct {P : Program} {t : TypeId} {fs : Array Field} {Q : Nat → World → List Value → Prop} (hu : P.underlying t = some (.struct fs)) (E : ∀ i f, fs[i]? = some f → Opens P f.type (Q i)) :
  Opens P t (fun w cs => cs.length = P.cellsOf t ∧ ∀ i f, fs[i]? = some f → Q i w ((cs.drop f.offset).take (P.cellsOf f.type))) := by
 intro H enc w fuel cs d ps h hw
 obtain ⟨xs, m, _, hx, hl, hlen, hf⟩ := DataW.trod_struct hu h
 simp only [Prod.mk.injEq] at hx
 obtain ⟨rfl, _⟩ := hx
 refine ⟨hl, fun i f hi => ?_⟩
 have hlt : i < xs.length := by rw [hlen]; exact (Array.getElem?_eq_some_iff.1 hi).1
 have h1 := hf i f hi
 rw [List.getElem?_eq_getElem hlt] at h1
 refine E i f hi H enc w m _ xs[i].1 xs[i].2 h1 (fun n hn => hw n ?_)
 simp only [DataW.weights, hu]
 refine weightsEach_mem (i := i) (t := f.type) (d := xs[i].1) ?_ ?_ hn
 ·
  simp [hi]
 ·
  simp [List.getElem?_eq_getElem hlt]
end Cam
namespace Cam
open Go Go.RowKit Go.ChangeShapes Go.WideShapes Go.ChangeAt
set_option linter.unusedVariables false
set_option linter.unusedSimpArgs false
set_option maxHeartbeats 200000
theorem Opens.array {P : Program} {t e n size : Nat} {Q : World → List Value → Prop} (hu : P.underlying t = some (.array n e)) (hs : P.cellsOf e = size) (E : Opens P e Q) :
  Opens P t (fun w cs => cs.length = P.cellsOf t ∧ ∀ i, i < n → Q w ((cs.drop (i * size)).take size)) := by
 intro H enc w fuel cs d ps h hw
 obtain ⟨xs, m, rfl, hx, hl, hxl, hel⟩ := DataW.trod_array hu h
 simp only [Prod.mk.injEq] at hx
 obtain ⟨rfl, _⟩ := hx
 refine ⟨hl, fun i hi => ?_⟩
 have h1 := hel i hi
 rw [hs, List.getElem?_eq_getElem (by omega)] at h1
 refine E H enc w m _ xs[i].1 xs[i].2 h1 (fun x hx => hw x ?_)
 simp only [DataW.weights, hu]
 exact weightsAll_mem (List.mem_map_of_mem (List.getElem_mem _)) hx
end Cam
namespace Cam
open Go Go.RowKit Go.Proofs Go.ChangeShapes Go.WideShapes Go.ChangeAt
set_option linter.unusedVariables false
set_option linter.unusedSimpArgs false
set_option maxHeartbeats 200000
def i64s (n : Int) : Prop := -9223372036854775808 ≤ n ∧ n ≤ 9223372036854775807
def Nums (cs : List Value) : Prop := ∃ L : List Int, cs = L.map (Value.int .i64) ∧ ∀ n ∈ L, i64s n
theorem nums_at {cs : List Value} (h : ∀ j, j < cs.length → ∃ n, cs[j]? = some (.int .i64 n) ∧ i64s n) : Nums cs := by
 induction cs with
 | nil => exact ⟨[], rfl, by simp⟩
 | cons c cs ih =>
  obtain ⟨n, h0, w0⟩ := h 0 (by simp)
  obtain ⟨L, rfl, hL⟩ := ih (fun j hj => by simpa using h (j + 1) (by simpa using hj))
  simp at h0
  subst h0
  refine ⟨n :: L, rfl, fun m hm => ?_⟩
  rcases List.mem_cons.1 hm with rfl | hm
  ·
   exact w0
  ·
   exact hL m hm
theorem Nums.at {cs : List Value} (h : Nums cs) {j : Nat} (hj : j < cs.length) : ∃ n, cs[j]? = some (.int .i64 n) ∧ i64s n := by
 obtain ⟨L, rfl, hL⟩ := h
 rw [List.length_map] at hj
 exact ⟨L[j], by rw [List.getElem?_map, List.getElem?_eq_getElem hj]; rfl, hL _ (List.getElem_mem hj)⟩
theorem Opens.nums_int {P : Program} {t : TypeId} (hu : P.underlying t = some (.int .i64)) : Opens P t (fun _ cs => Nums cs) :=
 (Opens.int hu).mono fun w cs ⟨n, hn, hw⟩ => ⟨[n], hn, fun m hm => by rw [List.mem_singleton] at hm; subst hm; exact i64_of_wf hw⟩
theorem Opens.nums_array {P : Program} {t e n : Nat} (hu : P.underlying t = some (.array n e)) (hs : P.cellsOf e = 1) (hc : P.cellsOf t = n) (he : P.underlying e = some (.int .i64)) : Opens P t (fun _ cs => Nums cs) :=
 (Opens.array hu hs (Opens.int he)).mono fun w cs ⟨hl, hq⟩ => nums_at fun j hj => by
  obtain ⟨m, hm, hw⟩ := hq j (by omega)
  have h1 := congrArg (fun L => L[0]?) hm
  rw [List.getElem?_take_of_lt (by omega)] at h1
  simp at h1
  exact ⟨m, h1, i64_of_wf hw⟩
def tiled (P : Program) (fs : Array Field) (n : Nat) : Bool := (List.range n).all fun j => (List.range fs.size).any fun i => match fs[i]? with | some f => decide (f.offset ≤ j) && decide (j < f.offset + P.cellsOf f.type) && decide (f.offset + P.cellsOf f.type ≤ n) | none => false
theorem Opens.nums_struct {P : Program} {t : TypeId} {fs : Array Field} (hu : P.underlying t = some (.struct fs)) (E : ∀ (i : Nat) (f : Field), fs[i]? = some f → Opens P f.type (fun _ cs => Nums cs)) (ht : tiled P fs (P.cellsOf t) = true) :
  Opens P t (fun _ cs => cs.length = P.cellsOf t ∧ Nums cs) :=
 (Opens.struct (Q := fun _ _ cs => Nums cs) hu E).mono fun w cs ⟨hl, hq⟩ => ⟨hl, nums_at fun j hj => by
  unfold tiled at ht
  rw [List.all_eq_true] at ht
  have h1 := ht j (List.mem_range.2 (by omega))
  rw [List.any_eq_true] at h1
  obtain ⟨i, hi, h2⟩ := h1
  cases hf : fs[i]? with
  | none => rw [hf] at h2; cases h2
  | some f =>
   rw [hf] at h2
   simp only [Bool.and_eq_true, decide_eq_true_eq] at h2
   obtain ⟨⟨a, b⟩, c⟩ := h2
   have hn := hq i f hf
   obtain ⟨n, h3, h4⟩ := hn.at (j := j - f.offset) (by rw [List.length_take, List.length_drop]; omega)
   rw [List.getElem?_take_of_lt (by omega), List.getElem?_drop, show f.offset + (j - f.offset) = j by omega] at h3
   exact ⟨n, h3, h4⟩⟩
end Cam
namespace Cam
open Go Go.RowKit Go.Proofs Go.ChangeShapes Go.WideShapes Go.ChangeAt
set_option linter.unusedVariables false
set_option linter.unusedSimpArgs false
set_option maxRecDepth 100000
theorem opens_due : Opens Tryz.prog 106 (fun _ cs => cs.length = Tryz.prog.cellsOf 106 ∧ Nums cs) :=
 Opens.nums_struct Tryz.underlying106 (by
  intro i f hf
  have hm := Array.mem_of_getElem? hf
  simp only [List.mem_toArray, List.mem_cons, List.not_mem_nil, or_false] at hm
  rcases hm with rfl | rfl | rfl
  all_goals exact Opens.nums_int Tryz.underlying3) (by kernel_rfl)
theorem opens_fall : Opens Tryz.prog 159 (fun _ cs => cs.length = Tryz.prog.cellsOf 159 ∧ Nums cs) :=
 Opens.nums_struct Tryz.underlying159 (by
  intro i f hf
  have hm := Array.mem_of_getElem? hf
  simp only [List.mem_toArray, List.mem_cons, List.not_mem_nil, or_false] at hm
  rcases hm with rfl | rfl | rfl | rfl
  case inr.inr.inl => exact Opens.nums_array Tryz.underlying157 (by kernel_rfl) (by kernel_rfl) Tryz.underlying3
  all_goals exact Opens.nums_int Tryz.underlying3) (by kernel_rfl)
theorem due_of {c : List Value} (hl : c.length = 3) (h : Nums c) : ∃ x : DT, c = x.vs ∧ okI x.ints := by
 obtain ⟨L, rfl, hL⟩ := h
 rw [List.length_map] at hl
 match L, hl with
 | [a, b, d], _ => exact ⟨⟨a, b, d⟩, rfl, hL⟩
theorem fall_of {c : List Value} (hl : c.length = 8) (h : Nums c) : ∃ x : FT, c = x.vs ∧ okI x.ints := by
 obtain ⟨L, rfl, hL⟩ := h
 rw [List.length_map] at hl
 match L, hl with
 | [a, b, d, e, f, g, i, j], _ => exact ⟨⟨a, b, d, e, f, g, i, j⟩, rfl, hL⟩
theorem rows_of {α : Type} {enc : α → List Value} {ints : α → List Int} : ∀ {css : List (List Value)}, (∀ c ∈ css, ∃ x : α, c = enc x ∧ okI (ints x)) → ∃ l : List α, css.flatten = flatW enc l ∧ css.length = l.length ∧ ∀ x ∈ l, okI (ints x)
 | [], _ => ⟨[], rfl, rfl, by simp⟩
 | c :: css, h => by
  obtain ⟨f, rfl, hf⟩ := h c (by simp)
  obtain ⟨l, h1, h2, h3⟩ := rows_of (enc := enc) (ints := ints) (css := css) (fun c hc => h c (by simp [hc]))
  refine ⟨f :: l, by rw [List.flatten_cons, h1]; rfl, by simp [h2], fun x hx => ?_⟩
  rcases List.mem_cons.1 hx with rfl | hx
  ·
   exact hf
  ·
   exact h3 x hx
theorem opens_dues : Opens Tryz.prog 60 (fun w cs => ∃ v D, cs = [v] ∧ Rs DT.vs 3 w v D ∧ ∀ x ∈ D, okI x.ints) :=
 (Opens.slice Tryz.underlying60 (size := 3) (by kernel_rfl) rfl opens_due).mono fun w cs ⟨v, css, h2, _, h4, h5⟩ => by
  obtain ⟨D, e1, e2, e3⟩ := rows_of (enc := DT.vs) (ints := DT.ints) (fun c hc => due_of (by rw [(h5 c hc).2.1]; kernel_rfl) (h5 c hc).2.2)
  rw [e1, e2] at h4
  exact ⟨v, D, h2, ⟨fun _ => rfl, h4⟩, e3⟩
theorem opens_falls : Opens Tryz.prog 61 (fun w cs => ∃ v F, cs = [v] ∧ Rs FT.vs 8 w v F ∧ ∀ x ∈ F, okI x.ints) :=
 (Opens.slice Tryz.underlying61 (size := 8) (by kernel_rfl) rfl opens_fall).mono fun w cs ⟨v, css, h2, _, h4, h5⟩ => by
  obtain ⟨F, e1, e2, e3⟩ := rows_of (enc := FT.vs) (ints := FT.ints) (fun c hc => fall_of (by rw [(h5 c hc).2.1]; kernel_rfl) (h5 c hc).2.2)
  rw [e1, e2] at h4
  exact ⟨v, F, h2, ⟨fun _ => rfl, h4⟩, e3⟩
def ReplyCells (w : World) (cs : List Value) : Prop := ∃ xc xn xa vd vf D F, cs = [.int .i64 xc, .int .i64 xn, .int .i64 xa, vd, vf] ∧ okI [xc, xn, xa] ∧ Rs DT.vs 3 w vd D ∧ Rs FT.vs 8 w vf F ∧ (∀ x ∈ D, okI x.ints) ∧ ∀ x ∈ F, okI x.ints
theorem opens_reply : Opens Tryz.prog 63 (fun w cs => ReplyCells w cs) :=
 (Opens.struct (Q := fun i w cs => if i = 3 then ∃ v D, cs = [v] ∧ Rs DT.vs 3 w v D ∧ ∀ x ∈ D, okI x.ints else if i = 4 then ∃ v F, cs = [v] ∧ Rs FT.vs 8 w v F ∧ ∀ x ∈ F, okI x.ints else Nums cs) Tryz.underlying63 (by
  intro i f hf
  match i, hf with
  | 0, hf => simp at hf; subst hf; exact Opens.nums_int Tryz.underlying44
  | 1, hf => simp at hf; subst hf; exact Opens.nums_int Tryz.underlying3
  | 2, hf => simp at hf; subst hf; exact Opens.nums_int Tryz.underlying3
  | 3, hf => simp at hf; subst hf; exact opens_dues
  | 4, hf => simp at hf; subst hf; exact opens_falls
  | i + 5, hf => simp at hf)).mono fun w cs ⟨hl, hq⟩ => by
  have hc : Tryz.prog.cellsOf 63 = 5 := by kernel_rfl
  have c1 : Tryz.prog.cellsOf 3 = 1 := by kernel_rfl
  have c2 : Tryz.prog.cellsOf 44 = 1 := by kernel_rfl
  have c3 : Tryz.prog.cellsOf 60 = 1 := by kernel_rfl
  have c4 : Tryz.prog.cellsOf 61 = 1 := by kernel_rfl
  rw [hc] at hl
  match cs, hl with
  | [u0, u1, u2, u3, u4], _ =>
   have h0 := hq 0 _ rfl
   have h1 := hq 1 _ rfl
   have h2 := hq 2 _ rfl
   have h3 := hq 3 _ rfl
   have h4 := hq 4 _ rfl
   simp [c1, c2, c3, c4] at h0 h1 h2 h3 h4
   obtain ⟨n0, e0, w0⟩ := h0.at (j := 0) (by simp)
   obtain ⟨n1, e1, w1⟩ := h1.at (j := 0) (by simp)
   obtain ⟨n2, e2, w2⟩ := h2.at (j := 0) (by simp)
   simp at e0 e1 e2
   obtain ⟨D, hD, kD⟩ := h3
   obtain ⟨F, hF, kF⟩ := h4
   subst e0 e1 e2
   refine ⟨n0, n1, n2, u3, u4, D, F, rfl, fun m hm => ?_, hD, hF, kD, kF⟩
   simp only [List.mem_cons, List.not_mem_nil, or_false] at hm
   rcases hm with rfl | rfl | rfl
   ·
    exact w0
   ·
    exact w1
   ·
    exact w2
end Cam
