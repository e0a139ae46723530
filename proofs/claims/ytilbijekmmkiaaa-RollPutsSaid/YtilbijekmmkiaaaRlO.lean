import Derived.Test.YtilbijekmmkiaaaOpenN
import Derived.Test.YtilbijekmmkiaaaRlY
/- acts as arguments. -/
namespace Cam
open Go Go.RowKit Go.Proofs Go.ChangeShapes Go.WideShapes Go.ChangeAt

theorem opens_inst : Opens Try.prog 38 (fun _ cs => cs.length = Try.prog.cellsOf 38 ∧ Nums cs) :=
  Opens.nums_struct Try.underlying38 (by
    intro i f hf
    have hm := Array.mem_of_getElem? hf
    simp only [List.mem_toArray, List.mem_cons, List.not_mem_nil, or_false] at hm
    rcases hm with rfl | rfl | rfl | rfl | rfl | rfl | rfl
    case inr.inr.inr.inr.inr.inr => exact Opens.nums_array Try.underlying36 (by kernel_rfl) (by kernel_rfl) Try.underlying3
    all_goals exact Opens.nums_int Try.underlying3) (by kernel_rfl)
theorem opens_asset : Opens Try.prog 42 (fun _ cs => cs.length = Try.prog.cellsOf 42 ∧ Nums cs) :=
  Opens.nums_struct Try.underlying42 (by
    intro i f hf
    have hm := Array.mem_of_getElem? hf
    simp only [List.mem_toArray, List.mem_cons, List.not_mem_nil, or_false] at hm
    rcases hm with rfl | rfl | rfl | rfl
    all_goals exact Opens.nums_int Try.underlying3) (by kernel_rfl)
theorem opens_ract : Opens Try.prog 64 (fun _ cs => cs.length = Try.prog.cellsOf 64 ∧ Nums cs) :=
  Opens.nums_struct Try.underlying64 (by
    intro i f hf
    have hm := Array.mem_of_getElem? hf
    simp only [List.mem_toArray, List.mem_cons, List.not_mem_nil, or_false] at hm
    rcases hm with rfl | rfl | rfl | rfl | rfl
    case inr.inr.inr.inl => exact opens_inst.mono (fun _ _ h => h.2)
    case inr.inr.inr.inr => exact opens_asset.mono (fun _ _ h => h.2)
    all_goals exact Opens.nums_int Try.underlying3) (by kernel_rfl)
theorem act_of {c : List Value} (hl : c.length = 19) (h : Nums c) : ∃ x : AcT, c = x.vs := by
  obtain ⟨L, rfl, hL⟩ := h
  rw [List.length_map] at hl
  match L, hl with
  | [a0, a1, a2, a3, a4, a5, a6, a7, a8, a9, b0, b1, b2, b3, b4, b5, b6, b7, b8], _ => exact ⟨⟨a0, a1, a2, ⟨a3, a4, a5, a6, a7, a8, a9, b0, b1, b2, b3, b4⟩, ⟨b5, b6, b7, b8⟩⟩, rfl⟩
theorem racts_of : ∀ {css : List (List Value)}, (∀ c ∈ css, ∃ f : AcT, c = f.vs) → ∃ l : List AcT, css.flatten = flatW AcT.vs l ∧ css.length = l.length
  | [], _ => ⟨[], rfl, rfl⟩
  | c :: css, h => by
    obtain ⟨f, rfl⟩ := h c (by simp)
    obtain ⟨l, h1, h2⟩ := racts_of (css := css) (fun c hc => h c (by simp [hc]))
    exact ⟨f :: l, by rw [List.flatten_cons, h1]; rfl, by simp [h2]⟩
theorem open_racts {W : World} {v : Value} (h : ArgOk Try.prog W 61 v) : ∃ l, Rs AcT.vs 19 W v l := by
  have h1 := h.single Try.underlying61
  obtain ⟨v', css, h2, _, h4, h5⟩ := h.2 _ (Opens.slice Try.underlying61 (size := 19) (by kernel_rfl) rfl opens_ract)
  rw [h1] at h2
  cases h2
  obtain ⟨l, e1, e2⟩ := racts_of (fun c hc => act_of (by rw [(h5 c hc).2.1]; kernel_rfl) (h5 c hc).2.2)
  rw [e1, e2] at h4
  exact ⟨l, AcT.len, h4⟩

end Cam
