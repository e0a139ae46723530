import Derived.Test.YtilbijekmmkiaaaOpen
import Derived.Test.YtilbijekmmkiaaaMem
import Derived.OpenShut
/- arrays as arguments. -/
namespace Cam
open Go Go.RowKit Go.ChangeShapes Go.WideShapes Go.ChangeAt
theorem Opens.array {P : Program} {t e n size : Nat} {Q : World → List Value → Prop} (hu : P.underlying t = some (.array n e)) (hs : P.cellsOf e = size) (E : Opens P e Q) :
  Opens P t (fun w cs => cs.length = P.cellsOf t ∧ ∀ i, i < n → Q w ((cs.drop (i * size)).take size)) := by
 intro H enc w fuel cs d ps h hw
 obtain ⟨xs, m, rfl, hx, hl, hxl, hel⟩ := DataW.trod_array hu h
 simp only [Prod.mk.injEq] at hx
 obtain ⟨rfl, _⟩ := hx
 refine ⟨hl, fun i hi => ?_⟩
 have h1 := hel i hi
 rw [hs, List.getElem?_eq_getElem (by omega)] at h1
 refine E H enc w m _ xs[i].1 xs[i].2 h1 (fun x hx => hw x ?_)
 simp only [DataW.weights, hu]
 exact weightsAll_mem (List.mem_map_of_mem (List.getElem_mem _)) hx
end Cam
