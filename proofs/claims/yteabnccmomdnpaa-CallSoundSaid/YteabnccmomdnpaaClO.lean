import Derived.Test.YteabnccmomdnpaaOpenS
import Derived.Test.YteabnccmomdnpaaClP
import Derived.Test.YteabnccmomdnpaaProg
/- calls as arguments. -/
namespace Cam
open Go Go.RowKit Go.Proofs Go.ChangeShapes Go.WideShapes Go.ChangeAt

/-- a struct of three numbers -/
theorem Opens.three {P : Program} {t : TypeId} {f0 f1 f2 : Field} (hu : P.underlying t = some (.struct #[f0, f1, f2])) (h0 : P.underlying f0.type = some (.int .i64)) (h1 : P.underlying f1.type = some (.int .i64)) (h2 : P.underlying f2.type = some (.int .i64))
    (o : f0.offset = 0 ∧ f1.offset = 1 ∧ f2.offset = 2) (c0 : P.cellsOf f0.type = 1) (c1 : P.cellsOf f1.type = 1) (c2 : P.cellsOf f2.type = 1) (c : P.cellsOf t = 3) :
    Opens P t (fun _ cs => ∃ a b d, cs = [.int .i64 a, .int .i64 b, .int .i64 d] ∧ (Lit.int .i64 a).wf = true ∧ (Lit.int .i64 b).wf = true ∧ (Lit.int .i64 d).wf = true) := by
  refine (Opens.struct (Q := fun _ _ cs => ∃ n, cs = [.int .i64 n] ∧ (Lit.int .i64 n).wf = true) hu ?_).mono ?_
  · intro i f hf
    match i, hf with
    | 0, hf =>
      simp at hf
      subst hf
      exact Opens.int h0
    | 1, hf =>
      simp at hf
      subst hf
      exact Opens.int h1
    | 2, hf =>
      simp at hf
      subst hf
      exact Opens.int h2
    | i + 3, hf => simp at hf
  · rintro w cs ⟨hl, hq⟩
    obtain ⟨o0, o1, o2⟩ := o
    obtain ⟨a, ha, wa⟩ := hq 0 f0 rfl
    obtain ⟨b, hb, wb⟩ := hq 1 f1 rfl
    obtain ⟨d, hd, wd⟩ := hq 2 f2 rfl
    rw [c] at hl
    match cs, hl with
    | [x0, x1, x2], _ =>
      simp [o0, o1, o2, c0, c1, c2] at ha hb hd
      subst ha hb hd
      exact ⟨a, b, d, rfl, wa, wb, wd⟩
/-- a struct of three numbers, and one -/
theorem Opens.threeOne {P : Program} {t : TypeId} {f0 f1 : Field} {Q : World → List Value → Prop} (hu : P.underlying t = some (.struct #[f0, f1])) (h0 : Opens P f0.type Q) (h1 : P.underlying f1.type = some (.int .i64))
    (o : f0.offset = 0 ∧ f1.offset = 3) (c0 : P.cellsOf f0.type = 3) (c1 : P.cellsOf f1.type = 1) (c : P.cellsOf t = 4) :
    Opens P t (fun w cs => ∃ ds n, cs = ds ++ [.int .i64 n] ∧ Q w ds ∧ (Lit.int .i64 n).wf = true) := by
  refine (Opens.struct (Q := fun i w cs => if i = 0 then Q w cs else ∃ n, cs = [.int .i64 n] ∧ (Lit.int .i64 n).wf = true) hu ?_).mono ?_
  · intro i f hf
    match i, hf with
    | 0, hf =>
      simp at hf
      subst hf
      simpa using h0
    | 1, hf =>
      simp at hf
      subst hf
      simpa using Opens.int h1
    | i + 2, hf => simp at hf
  · rintro w cs ⟨hl, hq⟩
    obtain ⟨o0, o1⟩ := o
    have ha := hq 0 f0 rfl
    obtain ⟨b, hb, wb⟩ := hq 1 f1 rfl
    rw [c] at hl
    match cs, hl with
    | [x0, x1, x2, x3], _ =>
      simp [o0, o1, c0, c1] at ha hb
      subst hb
      exact ⟨[x0, x1, x2], b, rfl, ha, wb⟩
theorem opens_due : Opens Try.prog 26 (fun _ cs => ∃ a b d, cs = [.int .i64 a, .int .i64 b, .int .i64 d] ∧ (Lit.int .i64 a).wf = true ∧ (Lit.int .i64 b).wf = true ∧ (Lit.int .i64 d).wf = true) :=
  Opens.three Try.underlying26 Try.underlying3 Try.underlying3 Try.underlying3 ⟨rfl, rfl, rfl⟩ (by kernel_rfl) (by kernel_rfl) (by kernel_rfl) (by kernel_rfl)
theorem opens_call : Opens Try.prog 28 (fun _ cs => ∃ c : CT, cs = c.vs) :=
  (Opens.threeOne Try.underlying28 opens_due Try.underlying3 ⟨rfl, rfl⟩ (by kernel_rfl) (by kernel_rfl) (by kernel_rfl)).mono fun w cs ⟨ds, n, h, ⟨a, b, d, hd, _⟩, _⟩ => ⟨⟨a, b, d, n⟩, by rw [h, hd]; rfl⟩
theorem open_due {W : World} {v : Value} (h : ArgOk Try.prog W 26 v) : ∃ a b d, v = .agg #[.int .i64 a, .int .i64 b, .int .i64 d] ∧ (Lit.int .i64 a).wf = true ∧ (Lit.int .i64 b).wf = true ∧ (Lit.int .i64 d).wf = true := by
  obtain ⟨_, ho⟩ := h
  obtain ⟨a, b, d, hc, wa, wb, wd⟩ := ho _ opens_due
  cases v with
  | agg ar =>
    obtain ⟨l⟩ := ar
    change l = _ at hc
    subst hc
    exact ⟨a, b, d, rfl, wa, wb, wd⟩
  | _ => simp [Value.cells] at hc
theorem calls_of : ∀ {css : List (List Value)}, (∀ c ∈ css, ∃ f : CT, c = f.vs) → ∃ l : List CT, css.flatten = flatW CT.vs l ∧ css.length = l.length
  | [], _ => ⟨[], rfl, rfl⟩
  | c :: css, h => by
    obtain ⟨f, rfl⟩ := h c (by simp)
    obtain ⟨l, h1, h2⟩ := calls_of (css := css) (fun c hc => h c (by simp [hc]))
    exact ⟨f :: l, by rw [List.flatten_cons, h1]; rfl, by simp [h2]⟩
theorem open_calls {W : World} {v : Value} (h : ArgOk Try.prog W 22 v) : ∃ l, Cs W v l := by
  have h1 := h.single Try.underlying22
  obtain ⟨v', css, h2, _, h4, h5⟩ := h.2 _ (Opens.slice Try.underlying22 (by kernel_rfl) rfl opens_call)
  rw [h1] at h2
  cases h2
  obtain ⟨l, e1, e2⟩ := calls_of (fun c hc => (h5 c hc).2)
  rw [e1, e2] at h4
  exact ⟨l, CT.len, h4⟩

end Cam
