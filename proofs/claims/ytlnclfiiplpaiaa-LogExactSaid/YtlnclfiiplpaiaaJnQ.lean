import Derived.Test.YtlnclfiiplpaiaaJnI
/- The journal on a disk that is on, and not armed: what Begin and Append make of its blocks. No walk. -/
namespace Cam
open Go Go.RowKit Go.Proofs
structure OnD (D : DK) : Prop where
 off : D.off = false
 arm : D.arm = 0
 torn : D.torn = false
 full : D.now = sets D.syn D.op
def puts (N : List (List UInt8)) : Nat → List (List UInt8) → List (List UInt8)
 | _, [] => N
 | k, b :: L => puts (N.set k b) (k + 1) L
def idxs : Nat → List (List UInt8) → List (Nat × List UInt8)
 | _, [] => []
 | k, b :: L => (k, b) :: idxs (k + 1) L
theorem puts_length : ∀ (L : List (List UInt8)) (N : List (List UInt8)) (k : Nat), (puts N k L).length = N.length
 | [], _, _ => rfl
 | b :: L, N, k => by rw [puts, puts_length L, List.length_set]
theorem sets_idxs : ∀ (L : List (List UInt8)) (S : List (List UInt8)) (o : List (Nat × List UInt8)) (k : Nat), sets S (o ++ idxs k L) = puts (sets S o) k L
 | [], S, o, k => by simp [idxs, puts]
 | b :: L, S, o, k => by
  have e : o ++ idxs k (b :: L) = (o ++ [(k, b)]) ++ idxs (k + 1) L := by simp [idxs]
  rw [e, sets_idxs L S _ (k + 1), sets_snoc, puts]
theorem puts_get : ∀ (L : List (List UInt8)) (N : List (List UInt8)) (k i : Nat), k + L.length ≤ N.length → (puts N k L)[i]? = if k ≤ i ∧ i < k + L.length then L[i - k]? else N[i]?
 | [], N, k, i, _ => by
  rw [puts, if_neg (by simp only [List.length_nil]; omega)]
 | b :: L, N, k, i, h => by
  rw [List.length_cons] at h
  rw [puts, puts_get L (N.set k b) (k + 1) i (by rw [List.length_set]; omega), List.length_cons]
  by_cases h1 : k + 1 ≤ i ∧ i < k + 1 + L.length
  ·
   rw [if_pos h1, if_pos (by omega)]
   obtain ⟨j, rfl⟩ : ∃ j, i = k + 1 + j := ⟨i - (k + 1), by omega⟩
   rw [show k + 1 + j - (k + 1) = j by omega, show k + 1 + j - k = j + 1 by omega, List.getElem?_cons_succ]
  ·
   rw [if_neg h1, List.getElem?_set]
   by_cases h2 : k = i
   ·
    subst h2
    rw [if_pos rfl, if_pos (by omega), if_pos (by omega), Nat.sub_self]
    rfl
   ·
    rw [if_neg h2, if_neg (by omega)]
theorem dWrite_on {D : DK} (h : OnD D) (k : Nat) (b : List UInt8) : dWrite D k b = (0, dPut D k b) := by
 have e : dLast (dPut D k b) = (false, dPut D k b) := by unfold dLast; rw [if_pos (show (dPut D k b).arm = 0 from h.arm)]
 unfold dWrite
 rw [if_neg (by rw [h.off]; decide), e]
 rfl
theorem OnD.put {D : DK} (h : OnD D) (k : Nat) (b : List UInt8) : OnD (dPut D k b) := ⟨h.off, h.arm, h.torn, by
 show D.now.set k b = sets D.syn (D.op ++ [(k, b)])
 rw [sets_snoc, ← h.full]⟩
def dPuts (D : DK) (k : Nat) (L : List (List UInt8)) : DK := { D with now := puts D.now k L, op := D.op ++ idxs k L }
theorem dWrites_on : ∀ (L : List (List UInt8)) {D : DK} (_ : OnD D) (k : Nat), dWrites D k L = (0, dPuts D k L)
 | [], D, h, k => by
  rw [dWrites]
  unfold dPuts
  simp [puts, idxs]
 | b :: L, D, h, k => by
  rw [dWrites_ok (by rw [dWrite_on h])]
  rw [dWrite_on h, dWrites_on L (h.put k b) (k + 1)]
  unfold dPuts dPut
  simp [puts, idxs]
theorem OnD.puts {D : DK} (h : OnD D) (k : Nat) (L : List (List UInt8)) : OnD (dPuts D k L) := ⟨h.off, h.arm, h.torn, by
 show Cam.puts D.now k L = sets D.syn (D.op ++ idxs k L)
 rw [sets_idxs, ← h.full]⟩
theorem dSync_on {D : DK} (h : OnD D) : dSync D = (0, { D with syn := D.now, op := [] }) := by
 have e : dLast D = (false, D) := by unfold dLast; rw [if_pos h.arm]
 unfold dSync
 rw [if_neg (by rw [h.off]; decide), e, if_neg (by simp)]
 have hf := h.full
 obtain ⟨syn, now, op, off, arm, torn⟩ := D
 simp only at hf
 subst hf
 rfl
def dLaid (D : DK) (N : List (List UInt8)) : DK := { D with syn := N, now := N, op := [] }
theorem OnD.laid {D : DK} (h : OnD D) (N : List (List UInt8)) : OnD (dLaid D N) := ⟨h.off, h.arm, h.torn, rfl⟩
theorem dPhase_on {D : DK} (h : OnD D) (k : Nat) (L : List (List UInt8)) : dPhase D k L = (0, dLaid D (puts D.now k L)) := by
 unfold dPhase
 rw [dWrites_on L h k, if_pos rfl, dSync_on (h.puts k L)]
 rfl
theorem dPhases_on : ∀ (Ls : List (List (List UInt8))) {D : DK} (_ : OnD D) (_ : D.op = []) (_ : D.syn = D.now) (k : Nat), dPhases D k Ls = (0, dLaid D (Ls.foldl (fun N L => puts N k L) D.now))
 | [], D, h, ho, hs, k => by
  rw [dPhases]
  unfold dLaid
  simp only [List.foldl_nil]
  cases D
  simp_all
 | L :: Ls, D, h, ho, hs, k => by
  rw [dPhases_ok (by rw [dPhase_on h]), dPhase_on h, dPhases_on Ls (h.laid _) rfl rfl k]
  rfl
theorem dPhases_on2 {D : DK} (h : OnD D) (k : Nat) (L M : List (List UInt8)) : dPhases D k [L, M] = (0, dLaid D (puts (puts D.now k L) k M)) := by
 rw [dPhases_ok (by rw [dPhase_on h]), dPhase_on h, dPhases_on _ (h.laid _) rfl rfl k]
 rfl
def halfOf (N : List (List UInt8)) (fr m : Nat) : List (List UInt8) := (N.drop fr).take m
theorem halfOf_get {N : List (List UInt8)} {fr m i : Nat} : (halfOf N fr m)[i]? = if i < m then N[fr + i]? else none := by
 unfold halfOf
 rw [List.getElem?_take]
 split
 ·
  rw [List.getElem?_drop]
 ·
  rfl
def Holds (N : List (List UInt8)) (fr m g : Nat) (s : List UInt8) (rs : List (List UInt8)) : Prop :=
 (rowsOf g 0 s).length + (recRows g 1 rs).length ≤ m ∧ halfOf N fr m = rowsOf g 0 s ++ (recRows g 1 rs ++ List.replicate (m - ((rowsOf g 0 s).length + (recRows g 1 rs).length)) zero64)
theorem not_stands_zeros (k : Nat) : ¬ stands (List.replicate k zero64) := by
 intro h
 cases k with
 | zero => exact h.1 rfl
 | succ k =>
  have h2 := h.2.1
  rw [List.replicate_succ] at h2
  simp [zero64] at h2
theorem Holds.read {N : List (List UInt8)} {fr m g : Nat} {s : List UInt8} {rs : List (List UInt8)} (h : Holds N fr m g s rs) (hg1 : 1 ≤ g) (hg : g ≤ 1099511627776) (hs : s.length ≤ 65536) (hr : ∀ r ∈ rs, r.length ≤ 65536) (hn : rs.length < 2147483647) :
  readL (halfOf N fr m) = ⟨g, s, rs, (rowsOf g 0 s).length + (recRows g 1 rs).length⟩ := by
 rw [h.2]
 exact readL_rows hg1 hg s hs rs hr hn _ (fun e => not_stands_zeros _ e.1)
theorem begin_holds {N : List (List UInt8)} {ot m g : Nat} {s : List UInt8} (hN : ot + m ≤ N.length) (hfit : (rowsOf g 0 s).length ≤ m) :
  Holds (puts (puts N ot (List.replicate m zero64)) ot (rowsOf g 0 s)) ot m g s [] := by
 refine ⟨by simpa [recRows] using hfit, ?_⟩
 apply List.ext_getElem?
 intro i
 rw [halfOf_get, puts_get _ _ _ _ (by rw [puts_length]; omega), puts_get _ _ _ _ (by rw [List.length_replicate]; omega)]
 simp only [recRows, List.nil_append, List.length_nil, Nat.add_zero, List.length_replicate]
 rw [List.getElem?_append, List.getElem?_replicate]
 by_cases h1 : i < m
 ·
  rw [if_pos h1]
  by_cases h2 : i < (rowsOf g 0 s).length
  ·
   rw [if_pos (by omega), if_pos h2, show ot + i - ot = i by omega]
  ·
   rw [if_neg (by omega), if_pos (by omega), if_neg h2, List.getElem?_replicate, if_pos (by omega), if_pos (by omega)]
 ·
  rw [if_neg h1, if_neg (by omega), List.getElem?_replicate, if_neg (by omega)]
theorem puts_other {N L : List (List UInt8)} {at_ fr m : Nat} (h : at_ + L.length ≤ N.length) (hd : at_ + L.length ≤ fr ∨ fr + m ≤ at_) : halfOf (puts N at_ L) fr m = halfOf N fr m := by
 apply List.ext_getElem?
 intro i
 rw [halfOf_get, halfOf_get]
 by_cases h1 : i < m
 ·
  rw [if_pos h1, if_pos h1, puts_get _ _ _ _ h, if_neg (by omega)]
 ·
  rw [if_neg h1, if_neg h1]
theorem append_holds {N : List (List UInt8)} {fr m g : Nat} {s : List UInt8} {rs qs : List (List UInt8)} (h : Holds N fr m g s rs) (hN : fr + m ≤ N.length) (hfit : (rowsOf g 0 s).length + (recRows g 1 rs).length + (recRows g (rs.length + 1) qs).length ≤ m) :
  Holds (puts N (fr + ((rowsOf g 0 s).length + (recRows g 1 rs).length)) (recRows g (rs.length + 1) qs)) fr m g s (rs ++ qs) := by
 have hq : recRows g 1 (rs ++ qs) = recRows g 1 rs ++ recRows g (rs.length + 1) qs := by rw [recRows_append, Nat.add_comm 1]
 obtain ⟨h1, h2⟩ := h
 refine ⟨by rw [hq, List.length_append]; omega, ?_⟩
 rw [hq]
 generalize rowsOf g 0 s = A at *
 generalize recRows g 1 rs = B at *
 generalize recRows g (rs.length + 1) qs = C at *
 have hg : ∀ i : Nat, (halfOf N fr m)[i]? = (A ++ (B ++ List.replicate (m - (A.length + B.length)) zero64))[i]? := fun i => by rw [h2]
 apply List.ext_getElem?
 intro i
 rw [halfOf_get, puts_get _ _ _ _ (by omega)]
 have hi := hg i
 rw [halfOf_get] at hi
 simp only [List.getElem?_append, List.getElem?_replicate, List.length_append] at hi ⊢
 by_cases h3 : i < m
 ·
  rw [if_pos h3] at hi ⊢
  by_cases h4 : fr + (A.length + B.length) ≤ fr + i ∧ fr + i < fr + (A.length + B.length) + C.length
  ·
   rw [if_pos h4, if_neg (by omega), if_pos (by omega), if_neg (by omega)]
   congr 1
   omega
  ·
   rw [if_neg h4, hi]
   by_cases h5 : i < A.length
   ·
    rw [if_pos h5, if_pos h5]
   ·
    rw [if_neg h5, if_neg h5]
    by_cases h6 : i - A.length < B.length
    ·
     rw [if_pos h6, if_pos (by omega), if_pos h6]
    ·
     rw [if_neg h6, if_pos (show i - A.length - B.length < m - (A.length + B.length) by omega), if_neg (show ¬ i - A.length < B.length + C.length by omega), if_pos (by omega)]
 ·
  rw [if_neg h3] at hi ⊢
  rw [if_neg (show ¬ i < A.length by omega), if_neg (show ¬ i - A.length < B.length + C.length by omega), if_neg (by omega)]
end Cam
