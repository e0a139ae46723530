import Derived.Test.YtilbijekmmkiaaaRlH
/- roll: Turn, Those. -/
namespace Cam
open Go Go.RowKit Go.Proofs
theorem flatW_set1 {α : Type} {enc : α → List Value} {K : Nat} (he : ∀ a, (enc a).length = K) {L : List α} {i : Nat} (hi : i < L.length) {x : α} {j : Nat} {v : Value} (hj : j < K) (hx : enc x = (enc L[i]).set j v) : flatW enc (L.set i x) = (flatW enc L).set (i * K + j) v := by
 rw [← flatW_set (f := enc) (W := K) (fun a _ => he a) hi x (he x), hx]
 have hA : ∀ q, q < K → (flatW enc L)[i * K + q]? = (enc L[i])[q]? := fun q hq => by
  have hq2 : q < (enc L[i]).length := by rw [he]; exact hq
  rw [flatW_at (f := enc) (W := K) (fun a _ => he a) hi q _ (List.getElem?_eq_getElem hq2)]
  exact (List.getElem?_eq_getElem hq2).symm
 have hl : (flatW enc L).length = L.length * K := flatW_length (fun a _ => he a)
 have h4 : (i + 1) * K ≤ L.length * K := Nat.mul_le_mul_right K hi
 have h2 : (i + 1) * K = i * K + K := Nat.succ_mul i K
 apply List.ext_getElem?
 intro q
 unfold splice
 simp only [List.getElem?_append, List.getElem?_take, List.getElem?_drop, List.length_take, List.getElem?_set, List.length_set, hl, he]
 by_cases c1 : q < i * K
 ·
  grind
 ·
  by_cases c2 : q < i * K + K
  ·
   have := hA (q - i * K) (by omega)
   rw [show i * K + (q - i * K) = q by omega] at this
   grind
  ·
   grind
theorem OwnR.put1 {α : Type} {enc : α → List Value} {K : Nat} {t : TypeId} {w : World} {base g n c : Nat} {L : List α} (h : OwnR enc K t w base (.slice (some ⟨g, 0, none⟩) n c) L) {i : Nat} (hi : i < L.length) {j : Nat} (hj : j < K) (v : Value) (x : α) (hx : enc x = (enc L[i]).set j v) :
  OwnR enc K t (w.setCell ⟨g, i * K + j, none⟩ v) base (.slice (some ⟨g, 0, none⟩) n c) (L.set i x) := by
 obtain ⟨g', C, e, hg, hh, hn, hnc, hm, hl, ht⟩ := h.open
 cases e
 have hp := hh.put (i * K + j) v
 refine OwnR.close h.1 hg hp (by simpa using hn) hnc hm (by simpa using hl) ?_
 rw [List.take_set, ht, flatW_set1 h.1 hi hj hx]
theorem OwnR.cellAt {α : Type} {enc : α → List Value} {K : Nat} {t : TypeId} {w : World} {base g n c : Nat} {L : List α} (h : OwnR enc K t w base (.slice (some ⟨g, 0, none⟩) n c) L) {i : Nat} (hi : i < L.length) {j : Nat} {v : Value} (hv : (enc L[i])[j]? = some v) :
  w.cell? ⟨g, i * K + j, none⟩ = some v ∧ w.frozen? ⟨g, i * K + j, none⟩ = false := by
 obtain ⟨g', C, e, hg, hh, hn, hnc, hm, hl, ht⟩ := h.open
 cases e
 refine ⟨hh.cell ?_, hh.frozen _⟩
 have h1 := flatW_at (f := enc) (W := K) (fun a _ => h.1 a) hi j v hv
 rw [← ht, List.getElem?_take] at h1
 split at h1
 ·
  exact h1
 ·
  cases h1
end Cam
