import Derived.Test.YtgjiphgehohooaaOpenS
import Derived.Test.YtgjiphgehohooaaWdM
import Derived.Test.YtgjiphgehohooaaProg
/- wides as arguments. -/
namespace Cam
open Go Go.RowKit Go.Proofs Go.ChangeShapes Go.WideShapes Go.ChangeAt

theorem opens_wide : Opens Try.prog 29 (fun _ cs => ∃ a b, cs = [.int .i64 a, .int .u64 b] ∧ (Lit.int .i64 a).wf = true ∧ (Lit.int .u64 b).wf = true) :=
  Opens.two Try.underlying29 Try.underlying3 Try.underlying27 rfl rfl (by kernel_rfl) (by kernel_rfl) (by kernel_rfl)

theorem wide_of_wf {a b : Int} (ha : (Lit.int .i64 a).wf = true) (hb : (Lit.int .u64 b).wf = true) : IsW a b (a * 18446744073709551616 + b) := by
  have h1 := i64_of_wf ha
  have h2 := u64_of_wf hb
  exact ⟨h1, h2, rfl⟩

theorem open_wide {W : World} {v : Value} (h : ArgOk Try.prog W 29 v) : ∃ hi lo x, v = .agg #[.int .i64 hi, .int .u64 lo] ∧ IsW hi lo x := by
  obtain ⟨_, ho⟩ := h
  obtain ⟨a, b, hc, wa, wb⟩ := ho _ opens_wide
  cases v with
  | agg ar =>
    obtain ⟨l⟩ := ar
    change l = _ at hc
    subst hc
    exact ⟨a, b, _, rfl, wide_of_wf wa wb⟩
  | _ => simp [Value.cells] at hc

theorem wides_of : ∀ {css : List (List Value)}, (∀ c ∈ css, ∃ a b, c = [.int .i64 a, .int .u64 b] ∧ (Lit.int .i64 a).wf = true ∧ (Lit.int .u64 b).wf = true) → ∃ l : List Int, css.flatten = wcells l ∧ css.length = l.length ∧ ∀ x ∈ l, isWide x = true
  | [], _ => ⟨[], rfl, rfl, by simp⟩
  | c :: css, h => by
    obtain ⟨a, b, rfl, wa, wb⟩ := h c (by simp)
    obtain ⟨l, h1, h2, h3⟩ := wides_of (css := css) (fun c hc => h c (by simp [hc]))
    have hw := wide_of_wf wa wb
    refine ⟨(a * 18446744073709551616 + b) :: l, ?_, by simp [h2], ?_⟩
    · rw [List.flatten_cons, h1, wcells, hw.words.1, hw.words.2]
      rfl
    · intro x hx
      rcases List.mem_cons.1 hx with rfl | hx
      · exact hw.wide
      · exact h3 x hx

theorem open_wides {W : World} {v : Value} (h : ArgOk Try.prog W 41 v) : ∃ l, Ws W v l ∧ ∀ x ∈ l, isWide x = true := by
  have h1 := h.single Try.underlying41
  obtain ⟨v', css, h2, _, h4, h5⟩ := h.2 _ (Opens.slice Try.underlying41 (by kernel_rfl) rfl opens_wide)
  rw [h1] at h2
  cases h2
  obtain ⟨l, e1, e2, e3⟩ := wides_of (fun c hc => (h5 c hc).2)
  rw [e1, e2] at h4
  exact ⟨l, h4, e3⟩

end Cam
