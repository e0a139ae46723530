import Derived.Test.YtgeclnjkkjmbaaaGreatOpenF
import Derived.Test.YtgeclnjkkjmbaaaGreatVc
/- replies as arguments. -/
namespace Cam
open Go Go.RowKit Go.Proofs Go.ChangeShapes Go.WideShapes Go.ChangeAt

theorem opens_due : Opens Tryz.prog 106 (fun _ cs => cs.length = Tryz.prog.cellsOf 106 ∧ Nums cs) :=
  Opens.nums_struct Tryz.underlying106 (by
    intro i f hf
    have hm := Array.mem_of_getElem? hf
    simp only [List.mem_toArray, List.mem_cons, List.not_mem_nil, or_false] at hm
    rcases hm with rfl | rfl | rfl
    all_goals exact Opens.nums_int Tryz.underlying3) (by kernel_rfl)
theorem opens_fall : Opens Tryz.prog 159 (fun _ cs => cs.length = Tryz.prog.cellsOf 159 ∧ Nums cs) :=
  Opens.nums_struct Tryz.underlying159 (by
    intro i f hf
    have hm := Array.mem_of_getElem? hf
    simp only [List.mem_toArray, List.mem_cons, List.not_mem_nil, or_false] at hm
    rcases hm with rfl | rfl | rfl | rfl
    case inr.inr.inl => exact Opens.nums_array Tryz.underlying157 (by kernel_rfl) (by kernel_rfl) Tryz.underlying3
    all_goals exact Opens.nums_int Tryz.underlying3) (by kernel_rfl)
theorem due_of {c : List Value} (hl : c.length = 3) (h : Nums c) : ∃ x : DT, c = x.vs ∧ okI x.ints := by
  obtain ⟨L, rfl, hL⟩ := h
  rw [List.length_map] at hl
  match L, hl with
  | [a, b, d], _ => exact ⟨⟨a, b, d⟩, rfl, hL⟩
theorem fall_of {c : List Value} (hl : c.length = 8) (h : Nums c) : ∃ x : FT, c = x.vs ∧ okI x.ints := by
  obtain ⟨L, rfl, hL⟩ := h
  rw [List.length_map] at hl
  match L, hl with
  | [a, b, d, e, f, g, i, j], _ => exact ⟨⟨a, b, d, e, f, g, i, j⟩, rfl, hL⟩
theorem rows_of {α : Type} {enc : α → List Value} {ints : α → List Int} : ∀ {css : List (List Value)}, (∀ c ∈ css, ∃ x : α, c = enc x ∧ okI (ints x)) → ∃ l : List α, css.flatten = flatW enc l ∧ css.length = l.length ∧ ∀ x ∈ l, okI (ints x)
  | [], _ => ⟨[], rfl, rfl, by simp⟩
  | c :: css, h => by
    obtain ⟨f, rfl, hf⟩ := h c (by simp)
    obtain ⟨l, h1, h2, h3⟩ := rows_of (enc := enc) (ints := ints) (css := css) (fun c hc => h c (by simp [hc]))
    refine ⟨f :: l, by rw [List.flatten_cons, h1]; rfl, by simp [h2], fun x hx => ?_⟩
    rcases List.mem_cons.1 hx with rfl | hx
    · exact hf
    · exact h3 x hx
theorem opens_dues : Opens Tryz.prog 60 (fun w cs => ∃ v D, cs = [v] ∧ Rs DT.vs 3 w v D ∧ ∀ x ∈ D, okI x.ints) :=
  (Opens.slice Tryz.underlying60 (size := 3) (by kernel_rfl) rfl opens_due).mono fun w cs ⟨v, css, h2, _, h4, h5⟩ => by
    obtain ⟨D, e1, e2, e3⟩ := rows_of (enc := DT.vs) (ints := DT.ints) (fun c hc => due_of (by rw [(h5 c hc).2.1]; kernel_rfl) (h5 c hc).2.2)
    rw [e1, e2] at h4
    exact ⟨v, D, h2, ⟨fun _ => rfl, h4⟩, e3⟩
theorem opens_falls : Opens Tryz.prog 61 (fun w cs => ∃ v F, cs = [v] ∧ Rs FT.vs 8 w v F ∧ ∀ x ∈ F, okI x.ints) :=
  (Opens.slice Tryz.underlying61 (size := 8) (by kernel_rfl) rfl opens_fall).mono fun w cs ⟨v, css, h2, _, h4, h5⟩ => by
    obtain ⟨F, e1, e2, e3⟩ := rows_of (enc := FT.vs) (ints := FT.ints) (fun c hc => fall_of (by rw [(h5 c hc).2.1]; kernel_rfl) (h5 c hc).2.2)
    rw [e1, e2] at h4
    exact ⟨v, F, h2, ⟨fun _ => rfl, h4⟩, e3⟩
def ReplyCells (w : World) (cs : List Value) : Prop := ∃ xc xn xa vd vf D F, cs = [.int .i64 xc, .int .i64 xn, .int .i64 xa, vd, vf] ∧ okI [xc, xn, xa] ∧ Rs DT.vs 3 w vd D ∧ Rs FT.vs 8 w vf F ∧ (∀ x ∈ D, okI x.ints) ∧ ∀ x ∈ F, okI x.ints
set_option maxRecDepth 100000 in
theorem opens_reply : Opens Tryz.prog 63 (fun w cs => ReplyCells w cs) :=
  (Opens.struct (Q := fun i w cs => if i = 3 then ∃ v D, cs = [v] ∧ Rs DT.vs 3 w v D ∧ ∀ x ∈ D, okI x.ints else if i = 4 then ∃ v F, cs = [v] ∧ Rs FT.vs 8 w v F ∧ ∀ x ∈ F, okI x.ints else Nums cs) Tryz.underlying63 (by
    intro i f hf
    match i, hf with
    | 0, hf => simp at hf; subst hf; exact Opens.nums_int Tryz.underlying44
    | 1, hf => simp at hf; subst hf; exact Opens.nums_int Tryz.underlying3
    | 2, hf => simp at hf; subst hf; exact Opens.nums_int Tryz.underlying3
    | 3, hf => simp at hf; subst hf; exact opens_dues
    | 4, hf => simp at hf; subst hf; exact opens_falls
    | i + 5, hf => simp at hf)).mono fun w cs ⟨hl, hq⟩ => by
    have hc : Tryz.prog.cellsOf 63 = 5 := by kernel_rfl
    have c1 : Tryz.prog.cellsOf 3 = 1 := by kernel_rfl
    have c2 : Tryz.prog.cellsOf 44 = 1 := by kernel_rfl
    have c3 : Tryz.prog.cellsOf 60 = 1 := by kernel_rfl
    have c4 : Tryz.prog.cellsOf 61 = 1 := by kernel_rfl
    rw [hc] at hl
    match cs, hl with
    | [u0, u1, u2, u3, u4], _ =>
      have h0 := hq 0 _ rfl
      have h1 := hq 1 _ rfl
      have h2 := hq 2 _ rfl
      have h3 := hq 3 _ rfl
      have h4 := hq 4 _ rfl
      simp [c1, c2, c3, c4] at h0 h1 h2 h3 h4
      obtain ⟨n0, e0, w0⟩ := h0.at (j := 0) (by simp)
      obtain ⟨n1, e1, w1⟩ := h1.at (j := 0) (by simp)
      obtain ⟨n2, e2, w2⟩ := h2.at (j := 0) (by simp)
      simp at e0 e1 e2
      obtain ⟨D, hD, kD⟩ := h3
      obtain ⟨F, hF, kF⟩ := h4
      subst e0 e1 e2
      refine ⟨n0, n1, n2, u3, u4, D, F, rfl, fun m hm => ?_, hD, hF, kD, kF⟩
      simp only [List.mem_cons, List.not_mem_nil, or_false] at hm
      rcases hm with rfl | rfl | rfl
      · exact w0
      · exact w1
      · exact w2
theorem open_reply {W : World} {v : Value} (h : ArgOk Tryz.prog W 63 v) : ∃ xc xn xa vd vf D F, v = .agg #[.int .i64 xc, .int .i64 xn, .int .i64 xa, vd, vf] ∧ okI [xc, xn, xa] ∧ Rs DT.vs 3 W vd D ∧ Rs FT.vs 8 W vf F ∧ (∀ x ∈ D, okI x.ints) ∧ ∀ x ∈ F, okI x.ints := by
  obtain ⟨xc, xn, xa, vd, vf, D, F, hc, h1, h2, h3, h4, h5⟩ := h.2 _ opens_reply
  refine ⟨xc, xn, xa, vd, vf, D, F, ?_, h1, h2, h3, h4, h5⟩
  cases v with
  | agg ar =>
    obtain ⟨l⟩ := ar
    change l = _ at hc
    rw [hc]
  | _ => have := congrArg List.length hc; simp [Value.cells] at this

end Cam
