import Derived.Test.YtdihockdaccmdaaFaE
/- falls as arguments. -/
namespace Cam
open Go Go.RowKit Go.Proofs Go.ChangeShapes Go.WideShapes Go.ChangeAt

theorem one_of {cs : List Value} {n : Int} (h : cs = [.int .i64 n]) : cs = [.int .i64 n] := h
/-- a struct of int, int, [5]int, int -/
theorem Opens.fall {P : Program} {t e : TypeId} {f0 f1 f2 f3 : Field} (hu : P.underlying t = some (.struct #[f0, f1, f2, f3])) (h0 : P.underlying f0.type = some (.int .i64)) (h1 : P.underlying f1.type = some (.int .i64))
    (h2 : P.underlying f2.type = some (.array 5 e)) (he : P.underlying e = some (.int .i64)) (h3 : P.underlying f3.type = some (.int .i64))
    (o : f0.offset = 0 ∧ f1.offset = 1 ∧ f2.offset = 2 ∧ f3.offset = 7) (c0 : P.cellsOf f0.type = 1) (c1 : P.cellsOf f1.type = 1) (c2 : P.cellsOf f2.type = 5) (ce : P.cellsOf e = 1) (c3 : P.cellsOf f3.type = 1) (c : P.cellsOf t = 8) :
    Opens P t (fun _ cs => ∃ f : FT, cs = f.vs) := by
  refine (Opens.struct (Q := fun i _ cs => if i = 2 then (∀ j, j < 5 → ∃ n, (cs.drop (j * 1)).take 1 = [.int .i64 n]) else ∃ n, cs = [.int .i64 n]) hu ?_).mono ?_
  · intro i f hf
    match i, hf with
    | 0, hf =>
      simp at hf
      subst hf
      exact (Opens.int h0).mono fun w cs ⟨n, hn, _⟩ => ⟨n, hn⟩
    | 1, hf =>
      simp at hf
      subst hf
      exact (Opens.int h1).mono fun w cs ⟨n, hn, _⟩ => ⟨n, hn⟩
    | 2, hf =>
      simp at hf
      subst hf
      refine (Opens.array h2 ce (Opens.int he)).mono fun w cs ⟨_, hq⟩ => ?_
      intro j hj
      obtain ⟨n, hn, _⟩ := hq j hj
      exact ⟨n, hn⟩
    | 3, hf =>
      simp at hf
      subst hf
      exact (Opens.int h3).mono fun w cs ⟨n, hn, _⟩ => ⟨n, hn⟩
    | i + 4, hf => simp at hf
  · rintro w cs ⟨hl, hq⟩
    obtain ⟨o0, o1, o2, o3⟩ := o
    obtain ⟨a, ha⟩ := hq 0 f0 rfl
    obtain ⟨b, hb⟩ := hq 1 f1 rfl
    have h5 := hq 2 f2 rfl
    obtain ⟨r, hr⟩ := hq 3 f3 rfl
    rw [c] at hl
    match cs, hl with
    | [x0, x1, x2, x3, x4, x5, x6, x7], _ =>
      simp [o0, o1, o2, o3, c0, c1, c2, c3] at ha hb h5 hr
      obtain ⟨p0, e0⟩ := h5 0 (by omega)
      obtain ⟨p1, e1⟩ := h5 1 (by omega)
      obtain ⟨p2, e2⟩ := h5 2 (by omega)
      obtain ⟨p3, e3⟩ := h5 3 (by omega)
      obtain ⟨p4, e4⟩ := h5 4 (by omega)
      simp at e0 e1 e2 e3 e4
      subst ha hb hr e0 e1 e2 e3 e4
      exact ⟨⟨a, b, p0, p1, p2, p3, p4, r⟩, rfl⟩
theorem opens_fall : Opens Try.prog 24 (fun _ cs => ∃ f : FT, cs = f.vs) :=
  Opens.fall Try.underlying24 Try.underlying3 Try.underlying3 Try.underlying22 Try.underlying3 Try.underlying3 ⟨rfl, rfl, rfl, rfl⟩ (by kernel_rfl) (by kernel_rfl) (by kernel_rfl) (by kernel_rfl) (by kernel_rfl) (by kernel_rfl)
theorem open_fall {W : World} {v : Value} (h : ArgOk Try.prog W 24 v) : ∃ f : FT, v = .agg f.vs.toArray := by
  obtain ⟨_, ho⟩ := h
  obtain ⟨f, hc⟩ := ho _ opens_fall
  cases v with
  | agg ar =>
    obtain ⟨l⟩ := ar
    change l = _ at hc
    subst hc
    exact ⟨f, rfl⟩
  | _ => simp [Value.cells, FT.vs] at hc
theorem falls_of : ∀ {css : List (List Value)}, (∀ c ∈ css, ∃ f : FT, c = f.vs) → ∃ l : List FT, css.flatten = fcells l ∧ css.length = l.length
  | [], _ => ⟨[], rfl, rfl⟩
  | c :: css, h => by
    obtain ⟨f, rfl⟩ := h c (by simp)
    obtain ⟨l, h1, h2⟩ := falls_of (css := css) (fun c hc => h c (by simp [hc]))
    exact ⟨f :: l, by rw [List.flatten_cons, h1]; rfl, by simp [h2]⟩
theorem open_falls {W : World} {v : Value} (h : ArgOk Try.prog W 35 v) : ∃ l, Fs W v l := by
  have h1 := h.single Try.underlying35
  obtain ⟨v', css, h2, _, h4, h5⟩ := h.2 _ (Opens.slice Try.underlying35 (by kernel_rfl) rfl opens_fall)
  rw [h1] at h2
  cases h2
  obtain ⟨l, e1, e2⟩ := falls_of (fun c hc => (h5 c hc).2)
  rw [e1, e2] at h4
  exact ⟨l, h4⟩

end Cam
