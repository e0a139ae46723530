import Derived.Test.YtlnclfiiplpaiaaJnR
/- A crash with a run of open writes over zeros. No walk. -/
namespace Cam
open Go Go.RowKit Go.Proofs

theorem idxs_get : ∀ (L : List (List UInt8)) (k j : Nat), (idxs k L)[j]? = L[j]?.map (fun b => (k + j, b))
  | [], k, j => by simp [idxs]
  | b :: L, k, 0 => by simp [idxs]
  | b :: L, k, j + 1 => by
    rw [idxs, List.getElem?_cons_succ, idxs_get L, List.getElem?_cons_succ, show k + 1 + j = k + (j + 1) by omega]
theorem puts_snoc : ∀ (A : List (List UInt8)) (N : List (List UInt8)) (k : Nat) (b : List UInt8), puts N k (A ++ [b]) = (puts N k A).set (k + A.length) b
  | [], N, k, b => by simp [puts]
  | a :: A, N, k, b => by
    rw [List.cons_append, puts, puts_snoc A, puts, List.length_cons, show k + 1 + A.length = k + (A.length + 1) by omega]
theorem crashTo_idxs {at_ : Nat} {L S : List (List UInt8)} (hz : ∀ i, i < L.length → S[at_ + i]? = some zero64) (h : at_ + L.length ≤ S.length) (picks : List Int) :
    ∀ j, j ≤ L.length → crashTo (idxs at_ L) picks S j = puts S at_ (mixL (pickN picks) (L.take j))
  | 0, _ => by simp [crashTo, mixL, puts]
  | j + 1, hj => by
    have ih := crashTo_idxs hz h picks j (by omega)
    have hl : (mixL (pickN picks) (L.take j)).length = j := by rw [mixL_length, List.length_take]; omega
    have e : L.take (j + 1) = L.take j ++ [L[j]] := by rw [List.take_add_one, List.getElem?_eq_getElem (by omega)]; rfl
    have e2 : (puts S at_ (mixL (pickN picks) (L.take j))).getD (at_ + j) [] = zero64 := by
      rw [List.getD_eq_getElem?_getD, puts_get _ _ _ _ (by rw [hl]; omega), if_neg (by rw [hl]; omega), hz j (by omega)]
      rfl
    have e3 : (idxs at_ L)[j]? = some (at_ + j, L[j]) := by rw [idxs_get, List.getElem?_eq_getElem (by omega)]; rfl
    rw [crashTo, e3, ih]
    show (puts S at_ _).set (at_ + j) (mixB (pickN picks j) ((puts S at_ _).getD (at_ + j) []) L[j]) = _
    rw [e2, e, mixL_append, mixL, mixL, puts_snoc, hl]
    simp only [List.length_take, Nat.min_eq_left (show j ≤ L.length by omega), Nat.zero_add]
/-- a disk behind the crash of a run of writes over zeros, and its start -/
theorem crash_run {D : DK} (h : OnD D) (ho : D.op = []) {at_ : Nat} {L : List (List UInt8)} (hz : ∀ i, i < L.length → D.now[at_ + i]? = some zero64) (hl : at_ + L.length ≤ D.now.length) (picks : List Int) :
    dStart (dCrash (dPuts D at_ L) picks) = { syn := puts D.now at_ (mixL (pickN picks) L), now := puts D.now at_ (mixL (pickN picks) L), op := [], off := false, arm := 0, torn := false } := by
  have hs : D.syn = D.now := by rw [h.full, ho]; rfl
  have e : dCrash (dPuts D at_ L) picks = { syn := puts D.now at_ (mixL (pickN picks) L), now := puts D.now at_ (mixL (pickN picks) L), op := [], off := true, arm := 0, torn := false } := by
    have e1 : (dPuts D at_ L).op = idxs at_ L := by unfold dPuts; rw [ho]; rfl
    have e2 : (dPuts D at_ L).syn = D.now := hs
    unfold dCrash
    rw [e1, e2, idxs_length, crashTo_idxs hz hl picks L.length (Nat.le_refl _), List.take_length]
  rw [e]
  unfold dStart
  rw [if_neg (by simp)]
end Cam
