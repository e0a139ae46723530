import Derived.Test.YteabnccmomdnpaaClO
import Derived.Test.YteabnccmomdnpaaCmY
/- acts as arguments. -/
namespace Cam
open Go Go.RowKit Go.Proofs Go.ChangeShapes Go.WideShapes Go.ChangeAt

/-- a struct of two numbers, and of a struct of three cells -/
theorem Opens.twoThree {P : Program} {t : TypeId} {f0 f1 f2 : Field} {Q : World → List Value → Prop} (hu : P.underlying t = some (.struct #[f0, f1, f2])) (h0 : P.underlying f0.type = some (.int .i64)) (h1 : P.underlying f1.type = some (.int .i64)) (h2 : Opens P f2.type Q)
    (o : f0.offset = 0 ∧ f1.offset = 1 ∧ f2.offset = 2) (c0 : P.cellsOf f0.type = 1) (c1 : P.cellsOf f1.type = 1) (c2 : P.cellsOf f2.type = 3) (c : P.cellsOf t = 5) :
    Opens P t (fun w cs => ∃ a b ds, cs = .int .i64 a :: .int .i64 b :: ds ∧ Q w ds) := by
  refine (Opens.struct (Q := fun i w cs => if i = 2 then Q w cs else ∃ n, cs = [.int .i64 n]) hu ?_).mono ?_
  · intro i f hf
    match i, hf with
    | 0, hf =>
      simp at hf
      subst hf
      simpa using (Opens.int h0).mono (fun w cs ⟨n, h, _⟩ => ⟨n, h⟩)
    | 1, hf =>
      simp at hf
      subst hf
      simpa using (Opens.int h1).mono (fun w cs ⟨n, h, _⟩ => ⟨n, h⟩)
    | 2, hf =>
      simp at hf
      subst hf
      simpa using h2
    | i + 3, hf => simp at hf
  · rintro w cs ⟨hl, hq⟩
    obtain ⟨o0, o1, o2⟩ := o
    have ha := hq 0 f0 rfl
    have hb := hq 1 f1 rfl
    have hd := hq 2 f2 rfl
    rw [c] at hl
    match cs, hl with
    | [x0, x1, x2, x3, x4], _ =>
      simp [o0, o1, o2, c0, c1, c2] at ha hb hd
      obtain ⟨a, rfl⟩ := ha
      obtain ⟨b, rfl⟩ := hb
      exact ⟨a, b, [x2, x3, x4], rfl, hd⟩
theorem opens_act : Opens Try.prog 44 (fun _ cs => ∃ c : AT, cs = c.vs ∧ (-9223372036854775808 ≤ c.amt ∧ c.amt ≤ 9223372036854775807)) :=
  (Opens.twoThree Try.underlying44 Try.underlying3 Try.underlying3 opens_due ⟨rfl, rfl, rfl⟩ (by kernel_rfl) (by kernel_rfl) (by kernel_rfl) (by kernel_rfl)).mono fun w cs ⟨a, b, ds, h, ⟨x, y, z, hd, _, _, wz⟩⟩ => ⟨⟨a, b, x, y, z⟩, by rw [h, hd]; rfl, i64_of_wf wz⟩
theorem acts_of : ∀ {css : List (List Value)}, (∀ c ∈ css, ∃ f : AT, c = f.vs ∧ (-9223372036854775808 ≤ f.amt ∧ f.amt ≤ 9223372036854775807)) → ∃ l : List AT, css.flatten = flatW AT.vs l ∧ css.length = l.length ∧ ∀ c ∈ l, (-9223372036854775808 ≤ c.amt ∧ c.amt ≤ 9223372036854775807)
  | [], _ => ⟨[], rfl, rfl, fun _ h => by cases h⟩
  | c :: css, h => by
    obtain ⟨f, rfl, hf⟩ := h c (by simp)
    obtain ⟨l, h1, h2, h3⟩ := acts_of (css := css) (fun c hc => h c (by simp [hc]))
    refine ⟨f :: l, by rw [List.flatten_cons, h1]; rfl, by simp [h2], fun c hc => ?_⟩
    rcases List.mem_cons.1 hc with rfl | hc
    · exact hf
    · exact h3 c hc
theorem open_acts {W : World} {v : Value} (h : ArgOk Try.prog W 42 v) : ∃ l, Rs AT.vs 5 W v l ∧ ∀ c ∈ l, (-9223372036854775808 ≤ c.amt ∧ c.amt ≤ 9223372036854775807) := by
  have h1 := h.single Try.underlying42
  obtain ⟨v', css, h2, _, h4, h5⟩ := h.2 _ (Opens.slice Try.underlying42 (by kernel_rfl) rfl opens_act)
  rw [h1] at h2
  cases h2
  obtain ⟨l, e1, e2, e3⟩ := acts_of (fun c hc => (h5 c hc).2)
  rw [e1, e2] at h4
  exact ⟨l, ⟨AT.len, h4⟩, e3⟩

end Cam
