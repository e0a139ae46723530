import Derived.Test.YtlnclfiiplpaiaaOpen
import Derived.Test.YtlnclfiiplpaiaaMem
import Derived.OpenShut
/- structs as arguments. -/
namespace Cam
open Go Go.RowKit Go.ChangeShapes Go.WideShapes Go.ChangeAt
theorem weightsEach_mem {H : Type} {P : Program} : ∀ {ts : List TypeId} {l : List (DataW H)} {i : Nat} {t : TypeId} {d : DataW H}, ts[i]? = some t → l[i]? = some d → ∀ {n : Nat}, n ∈ d.weights P t → n ∈ DataW.weightsEach P ts l
 | [], _, i, _, _, ht, _, _, _ => by simp at ht
 | _ :: _, [], i, _, _, _, hd, _, _ => by simp at hd
 | t' :: ts, d' :: l, i, t, d, ht, hd, n, hn => by
  simp only [DataW.weightsEach, List.mem_append]
  cases i with
  | zero =>
   simp at ht hd
   subst ht hd
   exact Or.inl hn
  | succ i =>
   simp at ht hd
   exact Or.inr (weightsEach_mem ht hd hn)
theorem Opens.struct {P : Program} {t : TypeId} {fs : Array Field} {Q : Nat → World → List Value → Prop} (hu : P.underlying t = some (.struct fs)) (E : ∀ i f, fs[i]? = some f → Opens P f.type (Q i)) :
  Opens P t (fun w cs => cs.length = P.cellsOf t ∧ ∀ i f, fs[i]? = some f → Q i w ((cs.drop f.offset).take (P.cellsOf f.type))) := by
 intro H enc w fuel cs d ps h hw
 obtain ⟨xs, m, _, hx, hl, hlen, hf⟩ := DataW.trod_struct hu h
 simp only [Prod.mk.injEq] at hx
 obtain ⟨rfl, _⟩ := hx
 refine ⟨hl, fun i f hi => ?_⟩
 have hlt : i < xs.length := by rw [hlen]; exact (Array.getElem?_eq_some_iff.1 hi).1
 have h1 := hf i f hi
 rw [List.getElem?_eq_getElem hlt] at h1
 refine E i f hi H enc w m _ xs[i].1 xs[i].2 h1 (fun n hn => hw n ?_)
 simp only [DataW.weights, hu]
 refine weightsEach_mem (i := i) (t := f.type) (d := xs[i].1) ?_ ?_ hn
 ·
  simp [hi]
 ·
  simp [List.getElem?_eq_getElem hlt]
theorem Opens.two {P : Program} {t : TypeId} {f0 f1 : Field} {k0 k1 : IntKind} (hu : P.underlying t = some (.struct #[f0, f1])) (h0 : P.underlying f0.type = some (.int k0)) (h1 : P.underlying f1.type = some (.int k1))
  (o0 : f0.offset = 0) (o1 : f1.offset = 1) (c0 : P.cellsOf f0.type = 1) (c1 : P.cellsOf f1.type = 1) (c : P.cellsOf t = 2) :
  Opens P t (fun _ cs => ∃ a b, cs = [.int k0 a, .int k1 b] ∧ (Lit.int k0 a).wf = true ∧ (Lit.int k1 b).wf = true) := by
 refine (Opens.struct (Q := fun i _ cs => ∃ n, cs = [.int (if i = 0 then k0 else k1) n] ∧ (Lit.int (if i = 0 then k0 else k1) n).wf = true) hu ?_).mono ?_
 ·
  intro i f hf
  match i, hf with
  | 0, hf =>
   simp at hf
   subst hf
   simpa using Opens.int h0
  | 1, hf =>
   simp at hf
   subst hf
   simpa using Opens.int h1
  | i + 2, hf => simp at hf
 ·
  rintro w cs ⟨hl, hq⟩
  obtain ⟨a, ha, wa⟩ := hq 0 f0 rfl
  obtain ⟨b, hb, wb⟩ := hq 1 f1 rfl
  rw [c] at hl
  match cs, hl with
  | [x, y], _ =>
   simp [o0, o1, c0, c1] at ha hb
   subst ha hb
   exact ⟨a, b, rfl, by simpa using wa, by simpa using wb⟩
end Cam
