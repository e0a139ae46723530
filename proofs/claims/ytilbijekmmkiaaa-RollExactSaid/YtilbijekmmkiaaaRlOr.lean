import Derived.Test.YtilbijekmmkiaaaOpenN
import Derived.Test.YtilbijekmmkiaaaRlD
/- rolls, instruments and assets as arguments. -/
namespace Cam
open Go Go.RowKit Go.Proofs Go.ChangeShapes Go.WideShapes Go.ChangeAt
theorem opensr_mem : Opens Try.prog 33 (fun _ cs => cs.length = Try.prog.cellsOf 33 ∧ Nums cs) :=
 Opens.nums_struct Try.underlying33 (by
  intro i f hf
  have hm := Array.mem_of_getElem? hf
  simp only [List.mem_toArray, List.mem_cons, List.not_mem_nil, or_false] at hm
  rcases hm with rfl | rfl | rfl
  all_goals exact Opens.nums_int Try.underlying3) (by kernel_rfl)
theorem opensr_inst : Opens Try.prog 38 (fun _ cs => cs.length = Try.prog.cellsOf 38 ∧ Nums cs) :=
 Opens.nums_struct Try.underlying38 (by
  intro i f hf
  have hm := Array.mem_of_getElem? hf
  simp only [List.mem_toArray, List.mem_cons, List.not_mem_nil, or_false] at hm
  rcases hm with rfl | rfl | rfl | rfl | rfl | rfl | rfl
  case inr.inr.inr.inr.inr.inr => exact Opens.nums_array Try.underlying36 (by kernel_rfl) (by kernel_rfl) Try.underlying3
  all_goals exact Opens.nums_int Try.underlying3) (by kernel_rfl)
theorem opensr_asset : Opens Try.prog 42 (fun _ cs => cs.length = Try.prog.cellsOf 42 ∧ Nums cs) :=
 Opens.nums_struct Try.underlying42 (by
  intro i f hf
  have hm := Array.mem_of_getElem? hf
  simp only [List.mem_toArray, List.mem_cons, List.not_mem_nil, or_false] at hm
  rcases hm with rfl | rfl | rfl | rfl
  all_goals exact Opens.nums_int Try.underlying3) (by kernel_rfl)
theorem memr_of {c : List Value} (hl : c.length = 3) (h : Nums c) : ∃ x : MbT, c = x.vs := by
 obtain ⟨L, rfl, hL⟩ := h
 rw [List.length_map] at hl
 match L, hl with
 | [a, b, d], _ => exact ⟨⟨a, b, d⟩, rfl⟩
theorem instr_of {c : List Value} (hl : c.length = 12) (h : Nums c) : ∃ x : InT, c = x.vs := by
 obtain ⟨L, rfl, hL⟩ := h
 rw [List.length_map] at hl
 match L, hl with
 | [a3, a4, a5, a6, a7, a8, a9, b0, b1, b2, b3, b4], _ => exact ⟨⟨a3, a4, a5, a6, a7, a8, a9, b0, b1, b2, b3, b4⟩, rfl⟩
theorem assetr_of {c : List Value} (hl : c.length = 4) (h : Nums c) : ∃ x : AsT, c = x.vs := by
 obtain ⟨L, rfl, hL⟩ := h
 rw [List.length_map] at hl
 match L, hl with
 | [a, b, d, e], _ => exact ⟨⟨a, b, d, e⟩, rfl⟩
theorem rowsr_of {α : Type} {enc : α → List Value} : ∀ {css : List (List Value)}, (∀ c ∈ css, ∃ x : α, c = enc x) → ∃ l : List α, css.flatten = flatW enc l ∧ css.length = l.length
 | [], _ => ⟨[], rfl, rfl⟩
 | c :: css, h => by
  obtain ⟨f, rfl⟩ := h c (by simp)
  obtain ⟨l, h1, h2⟩ := rowsr_of (enc := enc) (css := css) (fun c hc => h c (by simp [hc]))
  exact ⟨f :: l, by rw [List.flatten_cons, h1]; rfl, by simp [h2]⟩
theorem opensr_mems : Opens Try.prog 22 (fun w cs => ∃ v D, cs = [v] ∧ Rs MbT.vs 3 w v D) :=
 (Opens.slice Try.underlying22 (size := 3) (by kernel_rfl) rfl opensr_mem).mono fun w cs ⟨v, css, h2, _, h4, h5⟩ => by
  obtain ⟨D, e1, e2⟩ := rowsr_of (enc := MbT.vs) (fun c hc => memr_of (by rw [(h5 c hc).2.1]; kernel_rfl) (h5 c hc).2.2)
  rw [e1, e2] at h4
  exact ⟨v, D, h2, MbT.len, h4⟩
theorem opensr_insts : Opens Try.prog 23 (fun w cs => ∃ v D, cs = [v] ∧ Rs InT.vs 12 w v D) :=
 (Opens.slice Try.underlying23 (size := 12) (by kernel_rfl) rfl opensr_inst).mono fun w cs ⟨v, css, h2, _, h4, h5⟩ => by
  obtain ⟨D, e1, e2⟩ := rowsr_of (enc := InT.vs) (fun c hc => instr_of (by rw [(h5 c hc).2.1]; kernel_rfl) (h5 c hc).2.2)
  rw [e1, e2] at h4
  exact ⟨v, D, h2, InT.len, h4⟩
theorem opensr_assets : Opens Try.prog 24 (fun w cs => ∃ v D, cs = [v] ∧ Rs AsT.vs 4 w v D) :=
 (Opens.slice Try.underlying24 (size := 4) (by kernel_rfl) rfl opensr_asset).mono fun w cs ⟨v, css, h2, _, h4, h5⟩ => by
  obtain ⟨D, e1, e2⟩ := rowsr_of (enc := AsT.vs) (fun c hc => assetr_of (by rw [(h5 c hc).2.1]; kernel_rfl) (h5 c hc).2.2)
  rw [e1, e2] at h4
  exact ⟨v, D, h2, AsT.len, h4⟩
def RollCells (w : World) (cs : List Value) : Prop := ∃ va vb vc R, cs = [va, vb, vc] ∧ RollIn w va vb vc R
set_option maxRecDepth 100000 in
theorem opensr_roll : Opens Try.prog 26 (fun w cs => RollCells w cs) :=
 (Opens.struct (Q := fun i w cs => if i = 0 then ∃ v D, cs = [v] ∧ Rs MbT.vs 3 w v D else if i = 1 then ∃ v D, cs = [v] ∧ Rs InT.vs 12 w v D else ∃ v D, cs = [v] ∧ Rs AsT.vs 4 w v D) Try.underlying26 (by
  intro i f hf
  match i, hf with
  | 0, hf => simp at hf; subst hf; exact opensr_mems
  | 1, hf => simp at hf; subst hf; exact opensr_insts
  | 2, hf => simp at hf; subst hf; exact opensr_assets
  | i + 3, hf => simp at hf)).mono fun w cs ⟨hl, hq⟩ => by
  have hc : Try.prog.cellsOf 26 = 3 := by kernel_rfl
  have c1 : Try.prog.cellsOf 22 = 1 := by kernel_rfl
  have c2 : Try.prog.cellsOf 23 = 1 := by kernel_rfl
  have c3 : Try.prog.cellsOf 24 = 1 := by kernel_rfl
  rw [hc] at hl
  match cs, hl with
  | [u0, u1, u2], _ =>
   have h0 := hq 0 _ rfl
   have h1 := hq 1 _ rfl
   have h2 := hq 2 _ rfl
   simp [c1, c2, c3] at h0 h1 h2
   obtain ⟨D, hD⟩ := h0
   obtain ⟨E, hE⟩ := h1
   obtain ⟨F, hF⟩ := h2
   exact ⟨u0, u1, u2, ⟨D, E, F⟩, rfl, hD, hE, hF⟩
theorem agg_of {v : Value} {l : List Value} (h : v.cells.toList = l) (h2 : l.length ≠ 1) : v = .agg l.toArray := by
 cases v with
 | agg ar =>
  obtain ⟨m⟩ := ar
  change m = _ at h
  rw [h]
 | _ => have := congrArg List.length h; simp [Value.cells] at this; omega
theorem open_roll {W : World} {v : Value} (h : ArgOk Try.prog W 26 v) : ∃ va vb vc R, v = .agg #[va, vb, vc] ∧ RollIn W va vb vc R := by
 obtain ⟨va, vb, vc, R, hc, h1⟩ := h.2 _ opensr_roll
 exact ⟨va, vb, vc, R, agg_of hc (by simp), h1⟩
theorem open_inst {W : World} {v : Value} (h : ArgOk Try.prog W 38 v) : ∃ x : InT, v = .agg x.vs.toArray := by
 obtain ⟨hl, hn⟩ := h.2 _ opensr_inst
 obtain ⟨x, hx⟩ := instr_of (by rw [hl]; kernel_rfl) hn
 exact ⟨x, agg_of hx (by rw [InT.len]; decide)⟩
theorem open_asset {W : World} {v : Value} (h : ArgOk Try.prog W 42 v) : ∃ x : AsT, v = .agg x.vs.toArray := by
 obtain ⟨hl, hn⟩ := h.2 _ opensr_asset
 obtain ⟨x, hx⟩ := assetr_of (by rw [hl]; kernel_rfl) hn
 exact ⟨x, agg_of hx (by rw [AsT.len]; decide)⟩
end Cam
