import Derived.Test.YtfkkojdaceedpaaOpenS
import Derived.Test.YtfkkojdaceedpaaPkI
/- items as arguments. -/
namespace Cam
open Go Go.RowKit Go.Proofs Go.ChangeShapes Go.WideShapes Go.ChangeAt

theorem Opens.four {P : Program} {t : TypeId} {f0 f1 f2 f3 : Field} {Q0 Q1 Q2 Q3 : World → List Value → Prop} (hu : P.underlying t = some (.struct #[f0, f1, f2, f3])) (E0 : Opens P f0.type Q0) (E1 : Opens P f1.type Q1) (E2 : Opens P f2.type Q2) (E3 : Opens P f3.type Q3)
    (o0 : f0.offset = 0) (o1 : f1.offset = 1) (o2 : f2.offset = 2) (o3 : f3.offset = 3) (c0 : P.cellsOf f0.type = 1) (c1 : P.cellsOf f1.type = 1) (c2 : P.cellsOf f2.type = 1) (c3 : P.cellsOf f3.type = 1) (c : P.cellsOf t = 4) :
    Opens P t (fun w cs => ∃ a b c d, cs = [a, b, c, d] ∧ Q0 w [a] ∧ Q1 w [b] ∧ Q2 w [c] ∧ Q3 w [d]) := by
  refine (Opens.struct (Q := fun i => if i = 0 then Q0 else if i = 1 then Q1 else if i = 2 then Q2 else Q3) hu ?_).mono ?_
  · intro i f hf
    match i, hf with
    | 0, hf =>
      simp at hf
      subst hf
      simpa using E0
    | 1, hf =>
      simp at hf
      subst hf
      simpa using E1
    | 2, hf =>
      simp at hf
      subst hf
      simpa using E2
    | 3, hf =>
      simp at hf
      subst hf
      simpa using E3
    | i + 4, hf => simp at hf
  · rintro w cs ⟨hl, hq⟩
    have q0 := hq 0 f0 rfl
    have q1 := hq 1 f1 rfl
    have q2 := hq 2 f2 rfl
    have q3 := hq 3 f3 rfl
    rw [c] at hl
    match cs, hl with
    | [x, y, z, u], _ =>
      simp [o0, o1, o2, o3, c0, c1, c2, c3] at q0 q1 q2 q3
      exact ⟨x, y, z, u, rfl, q0, q1, q2, q3⟩

theorem opens_item : Opens Try.prog 31 (fun w cs => ∃ (x : Item) (vl vt : Value), cs = [.int .i64 x.kind, vl, .bool x.is, vt] ∧ Is w vl x.l ∧ Bs w vt x.t ∧ ∀ n ∈ x.l, -9223372036854775808 ≤ n ∧ n ≤ 9223372036854775807) := by
  refine (Opens.four Try.underlying31 (Opens.int Try.underlying3) (Opens.ints Try.underlying29 Try.underlying3 (by kernel_rfl) rfl) (Opens.bool Try.underlying4) (Opens.bytes Try.underlying25 Try.underlying5 (by kernel_rfl) (by kernel_rfl)) rfl rfl rfl rfl (by kernel_rfl) (by kernel_rfl) (by kernel_rfl) (by kernel_rfl) (by kernel_rfl)).mono ?_
  rintro w cs ⟨a, b, c, d, rfl, ⟨n, e0, _⟩, ⟨v, l, e1, _, hs, hw⟩, ⟨s, e2⟩, ⟨v', t, e3, hb, _⟩⟩
  cases e0
  cases e1
  cases e2
  cases e3
  exact ⟨⟨n, l, s, t⟩, _, _, rfl, hs, hb, fun n hn => i64_of_wf (hw n hn)⟩

theorem items_of {w : World} : ∀ {css : List (List Value)}, (∀ c ∈ css, ∃ (x : Item) (vl vt : Value), c = [.int .i64 x.kind, vl, .bool x.is, vt] ∧ Is w vl x.l ∧ Bs w vt x.t ∧ ∀ n ∈ x.l, -9223372036854775808 ≤ n ∧ n ≤ 9223372036854775807) →
    ∃ es : List (Item × Value × Value), css.flatten = itcells es ∧ css.length = es.length ∧ ∀ e ∈ es, (Is w e.2.1 e.1.l ∧ Bs w e.2.2 e.1.t) ∧ ∀ n ∈ e.1.l, -9223372036854775808 ≤ n ∧ n ≤ 9223372036854775807
  | [], _ => ⟨[], rfl, rfl, by simp⟩
  | c :: css, h => by
    obtain ⟨x, vl, vt, rfl, h1, h2, h3⟩ := h c (by simp)
    obtain ⟨es, e1, e2, e3⟩ := items_of (css := css) (fun c hc => h c (by simp [hc]))
    refine ⟨(x, vl, vt) :: es, ?_, by simp [e2], ?_⟩
    · rw [List.flatten_cons, e1]
      rfl
    · intro e he
      rcases List.mem_cons.1 he with rfl | he
      · exact ⟨⟨h1, h2⟩, h3⟩
      · exact e3 e he

theorem open_items {W : World} {v : Value} (h : ArgOk Try.prog W 22 v) : ∃ l, Its W v l ∧ ∀ x ∈ l, ∀ n ∈ x.l, -9223372036854775808 ≤ n ∧ n ≤ 9223372036854775807 := by
  have h1 := h.single Try.underlying22
  obtain ⟨v', css, h2, _, h4, h5⟩ := h.2 _ (Opens.slice Try.underlying22 (by kernel_rfl) rfl opens_item)
  rw [h1] at h2
  cases h2
  obtain ⟨es, e1, e2, e3⟩ := items_of (fun c hc => (h5 c hc).2)
  rw [e1, e2] at h4
  refine ⟨es.map (·.1), ⟨es, rfl, h4, fun e he => (e3 e he).1⟩, fun x hx => ?_⟩
  obtain ⟨e, he, rfl⟩ := List.mem_map.1 hx
  exact (e3 e he).2

end Cam
