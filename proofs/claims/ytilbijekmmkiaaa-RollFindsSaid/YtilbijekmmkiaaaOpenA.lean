import Derived.Test.YtilbijekmmkiaaaOpen
import Derived.Test.YtilbijekmmkiaaaMem
import Derived.OpenShut
/- arrays as arguments. -/
namespace Cam
open Go Go.RowKit Go.ChangeShapes Go.WideShapes Go.ChangeAt

theorem Opens.array {P : Program} {t e n size : Nat} {Q : World → List Value → Prop} (hu : P.underlying t = some (.array n e)) (hs : P.cellsOf e = size) (E : Opens P e Q) :
    Opens P t (fun w cs => cs.length = P.cellsOf t ∧ ∀ i, i < n → Q w ((cs.drop (i * size)).take size)) := by
  intro H enc w fuel cs d ps h hw
  obtain ⟨xs, m, rfl, hx, hl, hxl, hel⟩ := DataW.trod_array hu h
  simp only [Prod.mk.injEq] at hx
  obtain ⟨rfl, _⟩ := hx
  refine ⟨hl, fun i hi => ?_⟩
  have h1 := hel i hi
  rw [hs, List.getElem?_eq_getElem (by omega)] at h1
  refine E H enc w m _ xs[i].1 xs[i].2 h1 (fun x hx => hw x ?_)
  simp only [DataW.weights, hu]
  exact weightsAll_mem (List.mem_map_of_mem (List.getElem_mem _)) hx

/-- '[5]int' -/
theorem ArgOk.five {P : Program} {W : World} {t : TypeId} {v : Value} {e : TypeId} (h : ArgOk P W t v) (hu : P.underlying t = some (.array 5 e)) (he : P.underlying e = some (.int .i64)) (hs : P.cellsOf e = 1) (hc : P.cellsOf t = 5) :
    ∃ a b c d f, v = .agg #[.int .i64 a, .int .i64 b, .int .i64 c, .int .i64 d, .int .i64 f] ∧ (Lit.int .i64 a).wf = true ∧ (Lit.int .i64 b).wf = true ∧ (Lit.int .i64 c).wf = true ∧ (Lit.int .i64 d).wf = true ∧ (Lit.int .i64 f).wf = true := by
  obtain ⟨_, ho⟩ := h
  obtain ⟨hl, hq⟩ := ho _ (Opens.array hu hs (Opens.int he))
  rw [hc] at hl
  cases v with
  | agg ar =>
    obtain ⟨l⟩ := ar
    change l.length = 5 at hl
    match l, hl with
    | [x0, x1, x2, x3, x4], _ =>
      obtain ⟨a, ha, wa⟩ := hq 0 (by omega)
      obtain ⟨b, hb, wb⟩ := hq 1 (by omega)
      obtain ⟨c, hc, wc⟩ := hq 2 (by omega)
      obtain ⟨d, hd, wd⟩ := hq 3 (by omega)
      obtain ⟨f, hf, wf⟩ := hq 4 (by omega)
      simp [Value.cells] at ha hb hc hd hf
      subst ha hb hc hd hf
      exact ⟨a, b, c, d, f, rfl, wa, wb, wc, wd, wf⟩
  | _ => simp [Value.cells] at hl

end Cam
