import Derived.Test.YtlnclfiiplpaiaaJnT
/- A log's disk behind a crash: what is found. No walk. -/
namespace Cam
open Go Go.RowKit Go.Proofs

theorem half_puts {N : List (List UInt8)} {fr m : Nat} {A B C : List (List UInt8)} (h2 : halfOf N fr m = A ++ (B ++ List.replicate (m - (A.length + B.length)) zero64)) (hN : fr + m ≤ N.length) (hfit : A.length + B.length + C.length ≤ m) :
    halfOf (puts N (fr + (A.length + B.length)) C) fr m = A ++ (B ++ (C ++ List.replicate (m - (A.length + B.length + C.length)) zero64)) := by
  have hg : ∀ i : Nat, (halfOf N fr m)[i]? = (A ++ (B ++ List.replicate (m - (A.length + B.length)) zero64))[i]? := fun i => by rw [h2]
  apply List.ext_getElem?
  intro i
  rw [halfOf_get, puts_get _ _ _ _ (by omega)]
  have hi := hg i
  rw [halfOf_get] at hi
  simp only [List.getElem?_append, List.getElem?_replicate] at hi ⊢
  by_cases h3 : i < m
  · rw [if_pos h3] at hi ⊢
    by_cases h4 : fr + (A.length + B.length) ≤ fr + i ∧ fr + i < fr + (A.length + B.length) + C.length
    · rw [if_pos h4, if_neg (by omega), if_neg (by omega), if_pos (by omega)]
      congr 1
      omega
    · rw [if_neg h4, hi]
      by_cases h5 : i < A.length
      · rw [if_pos h5, if_pos h5]
      · rw [if_neg h5, if_neg h5]
        by_cases h6 : i - A.length < B.length
        · rw [if_pos h6, if_pos h6]
        · rw [if_neg h6, if_neg h6, if_pos (by omega), if_neg (by omega), if_pos (by omega)]
  · rw [if_neg h3] at hi ⊢
    rw [if_neg (by omega), if_neg (by omega), if_neg (by omega), if_neg (by omega)]
/-- behind a half's records there are zeros -/
theorem Holds.zeros {N : List (List UInt8)} {fr m g : Nat} {s : List UInt8} {rs : List (List UInt8)} (h : Holds N fr m g s rs) (i : Nat) (hi : (rowsOf g 0 s).length + (recRows g 1 rs).length + i < m) : N[fr + ((rowsOf g 0 s).length + (recRows g 1 rs).length) + i]? = some zero64 := by
  have e : (halfOf N fr m)[(rowsOf g 0 s).length + (recRows g 1 rs).length + i]? = some zero64 := by
    rw [h.2]
    simp only [List.getElem?_append, List.getElem?_replicate]
    rw [if_neg (by omega), if_neg (by omega), if_pos (by omega)]
  rw [halfOf_get, if_pos hi] at e
  rw [← e]
  congr 1
  omega
/-- a half whose last records were torn, on a disk -/
theorem Holds.torn {N : List (List UInt8)} {fr m g : Nat} {s : List UInt8} {rs qs : List (List UInt8)} (h : Holds N fr m g s rs) (hN : fr + m ≤ N.length) (hfit : (rowsOf g 0 s).length + (recRows g 1 rs).length + (recRows g (1 + rs.length) qs).length ≤ m)
    (hg1 : 1 ≤ g) (hg : g ≤ 1099511627776) (hs : s.length ≤ 65536) (hr : ∀ r ∈ rs, r.length ≤ 65536) (hq : ∀ r ∈ qs, r.length ≤ 65536) (hn : rs.length + qs.length < 2147483647) (pk : Nat → Nat) (hp : ∀ j, pk j ≤ 64) :
    ∃ q fin, q ≤ qs.length ∧ readL (halfOf (puts N (fr + ((rowsOf g 0 s).length + (recRows g 1 rs).length)) (mixL pk (recRows g (1 + rs.length) qs))) fr m) = ⟨g, s, rs ++ qs.take q, fin⟩ ∧ ((∀ j, pk j = 64) → q = qs.length) := by
  rw [half_puts h.2 hN (by rw [mixL_length]; exact hfit)]
  exact torn_read hg1 hg s hs rs qs hr hq hn pk hp _
theorem mixL_congr {L : List (List UInt8)} {pk pk' : Nat → Nat} (h : ∀ i, i < L.length → pk i = pk' i) : mixL pk L = mixL pk' L := by
  apply List.ext_getElem?
  intro i
  rw [mixL_get, mixL_get]
  by_cases hi : i < L.length
  · rw [h i hi]
  · rw [List.getElem?_eq_none (by omega)]
    rfl
/-- LogMade's disk behind its crash -/
theorem made_open {s r : List UInt8} (hs : s.length ≤ 300) (hr : r.length ≤ 2000) (picks : List Int) :
    ∃ q fin, q ≤ 1 ∧ openT 300 (puts (first1 300 s) (rowsOf 1 0 s).length (mixL (pickN picks) (recRows 1 1 [r]))) = ⟨0, ⟨1, s, [r].take q, fin⟩, false⟩ ∧ ((∀ j, j < (rowsOf 1 1 r).length → pickN picks j = 64) → q = 1) := by
  have e0 : (rowsOf 1 0 s).length ≤ 6 := by rw [rowsOf_length]; unfold needN; omega
  have e1 : (recRows 1 1 [r]).length = (rowsOf 1 1 r).length := by rw [recRows, recRows, List.append_nil]
  have e2 : (rowsOf 1 1 r).length ≤ 33 := by rw [rowsOf_length]; unfold needN; omega
  have h1 := first1_holds (n := 300) (s := s) (by omega)
  obtain ⟨pk, hpk⟩ : ∃ pk : Nat → Nat, pk = fun j => if j < (rowsOf 1 1 r).length then pickN picks j else 64 := ⟨_, rfl⟩
  have hm : mixL (pickN picks) (recRows 1 1 [r]) = mixL pk (recRows 1 1 [r]) := mixL_congr (fun i hi => by rw [hpk]; show _ = if _ then _ else _; rw [if_pos (by omega)])
  obtain ⟨q, fin, hq, e, hall⟩ := h1.torn (qs := [r]) (by rw [first1_length]; omega) (by show (rowsOf 1 0 s).length + 0 + (recRows 1 1 [r]).length ≤ 300 / 2; omega) (by decide) (by decide) (by omega) (fun _ h => by simp at h) (fun x h => by simp at h; rw [h]; omega) (by simp) pk (fun j => by
    rw [hpk]
    show (if _ then _ else _) ≤ 64
    split
    · exact pickN_le _ _
    · omega)
  have e3 : readL (halfOf (puts (first1 300 s) (rowsOf 1 0 s).length (mixL pk (recRows 1 1 [r]))) 0 (300 / 2)) = ⟨1, s, [r].take q, fin⟩ := by
    rw [List.nil_append] at e
    rw [← e]
    show _ = readL (halfOf (puts (first1 300 s) (0 + ((rowsOf 1 0 s).length + 0)) (mixL pk (recRows 1 (1 + 0) [r]))) 0 (300 / 2))
    rw [Nat.zero_add, Nat.add_zero]
  have e4 : readL (halfOf (puts (first1 300 s) (rowsOf 1 0 s).length (mixL pk (recRows 1 1 [r]))) (300 / 2) (300 / 2)) = ⟨0, [], [], 0⟩ := by
    rw [puts_other (by rw [first1_length, mixL_length]; omega) (by rw [mixL_length]; omega), first1_other (by omega)]
    exact readL_zeros _
  refine ⟨q, fin, hq, ?_, fun h => hall (fun j => ?_)⟩
  · rw [hm, openT_is e3 e4, if_pos (by simp)]
  · rw [hpk]
    show (if _ then _ else _) = 64
    split
    · rename_i hj
      exact h j hj
    · rfl
end Cam
