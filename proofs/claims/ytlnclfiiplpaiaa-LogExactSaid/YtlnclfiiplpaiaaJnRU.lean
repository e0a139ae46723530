import Derived.Test.YtlnclfiiplpaiaaJnL2z
/- What is read of a half whose last records were torn. No walk. -/
namespace Cam
open Go Go.RowKit Go.Proofs
def mixL (pk : Nat → Nat) : List (List UInt8) → List (List UInt8)
 | [] => []
 | b :: L => mixB (pk 0) zero64 b :: mixL (fun j => pk (j + 1)) L
theorem mixL_length : ∀ (L : List (List UInt8)) (pk : Nat → Nat), (mixL pk L).length = L.length
 | [], _ => rfl
 | b :: L, pk => by rw [mixL, List.length_cons, mixL_length L, List.length_cons]
theorem mixL_append : ∀ (A B : List (List UInt8)) (pk : Nat → Nat), mixL pk (A ++ B) = mixL pk A ++ mixL (fun j => pk (j + A.length)) B
 | [], B, pk => by simp [mixL]
 | b :: A, B, pk => by
  rw [List.cons_append, mixL, mixL, mixL_append A B, List.cons_append]
  congr 2
theorem mixL_get : ∀ (L : List (List UInt8)) (pk : Nat → Nat) (i : Nat), (mixL pk L)[i]? = L[i]?.map (mixB (pk i) zero64)
 | [], pk, i => by simp [mixL]
 | b :: L, pk, 0 => by simp [mixL]
 | b :: L, pk, i + 1 => by rw [mixL, List.getElem?_cons_succ, mixL_get L, List.getElem?_cons_succ]
theorem mix_end {b : List UInt8} (hb : b.length = 64) {p g : Nat} (hp : p ≤ 64) (h : (mixB p zero64 b)[63]? = some (markB g)) : p = 64 := by
 rcases Nat.lt_or_ge p 64 with h1 | h1
 ·
  exfalso
  unfold mixB at h
  rw [List.getElem?_append_right (by rw [List.length_take]; omega), List.getElem?_drop, List.length_take, Nat.min_eq_left (by omega)] at h
  rw [show p + (63 - p) = 63 by omega] at h
  have h2 : markB g = 0 := by
   have : zero64[63]? = some 0 := rfl
   rw [this] at h
   exact (Option.some.inj h).symm
  exact markB_ne g h2
 ·
  omega
theorem mix_whole {b : List UInt8} (hb : b.length = 64) : mixB 64 zero64 b = b := by
 unfold mixB
 rw [List.take_of_length_le (by omega), List.drop_of_length_le (by rw [zero64_length]; omega), List.append_nil]
theorem mixL_all {pk : Nat → Nat} {L : List (List UInt8)} (h64 : ∀ b ∈ L, b.length = 64) (h : ∀ i, i < L.length → pk i = 64) : mixL pk L = L := by
 apply List.ext_getElem?
 intro i
 rw [mixL_get]
 by_cases hi : i < L.length
 ·
  rw [List.getElem?_eq_getElem hi, h i hi]
  show some (mixB 64 zero64 L[i]) = _
  rw [mix_whole (h64 _ (List.getElem_mem hi))]
 ·
  rw [List.getElem?_eq_none (by omega)]
  rfl
theorem torn_row {g k : Nat} {r : List UInt8} (hg : g ≤ 1099511627776) (hr : r.length ≤ 65536) {pk : Nat → Nat} (hp : ∀ j, pk j ≤ 64) (T : List (List UInt8)) (h : stands (mixL pk (rowsOf g k r) ++ T)) : ∀ i, i < (rowsOf g k r).length → pk i = 64 := by
 obtain ⟨x, q, hx, hx64⟩ := rowsOf_ne g k r
 have h64 : ∀ b ∈ rowsOf g k r, b.length = 64 := rowsOf_64
 have hrow : ∀ i, i < (rowsOf g k r).length → ∃ b, (rowsOf g k r)[i]? = some b ∧ b.length = 64 ∧ (mixL pk (rowsOf g k r) ++ T)[i]? = some (mixB (pk i) zero64 b) := fun i hi => by
  refine ⟨(rowsOf g k r)[i], List.getElem?_eq_getElem hi, h64 _ (List.getElem_mem hi), ?_⟩
  rw [List.getElem?_append_left (by rw [mixL_length]; exact hi), mixL_get, List.getElem?_eq_getElem hi]
  rfl
 have hl0 : 0 < (rowsOf g k r).length := by rw [hx]; simp
 obtain ⟨b0, hb0, hb64, hm0⟩ := hrow 0 hl0
 have hhd : (mixL pk (rowsOf g k r) ++ T).headD [] = mixB (pk 0) zero64 b0 := by
  cases hq : mixL pk (rowsOf g k r) ++ T with
  | nil => rw [hq] at hm0; cases hm0
  | cons y ys => rw [hq] at hm0; simpa using hm0
 obtain ⟨_, _, _, h4, h5, _⟩ := h
 have hpos := rowN_pos (mixL pk (rowsOf g k r) ++ T)
 have hin : ∀ i, i < rowN (mixL pk (rowsOf g k r) ++ T) → ∀ y, (mixL pk (rowsOf g k r) ++ T)[i]? = some y → isMk (hGen ((mixL pk (rowsOf g k r) ++ T).headD [])) y := fun i hi y hy => h5 y (by
  obtain ⟨hlt, rfl⟩ := List.getElem?_eq_some_iff.1 hy
  exact List.mem_take_iff_getElem.2 ⟨i, by omega, rfl⟩)
 have hp0 : pk 0 = 64 := mix_end hb64 (hp 0) (hin 0 (by omega) _ hm0).2
 rw [hp0, mix_whole hb64] at hhd
 have hxb : b0 = x := by rw [hx] at hb0; simpa using hb0.symm
 have hN : rowN (mixL pk (rowsOf g k r) ++ T) = (rowsOf g k r).length := by
  obtain ⟨_, h7, _⟩ := row_head (g := g) (k := k) (p := r) [] hg hr
  rw [List.append_nil, hx] at h7
  unfold rowN
  rw [hhd, hxb, rowsOf_length]
  rw [show hSize x = r.length from h7, Nat.add_comm]
 intro i hi
 obtain ⟨b, _, hb, hm⟩ := hrow i hi
 exact mix_end hb (hp i) (hin i (by omega) _ hm).2
theorem recsF_mixed {g : Nat} (hg : g ≤ 1099511627776) (z : Nat) : ∀ (rs : List (List UInt8)) (k : Nat) (A : List (List UInt8)) (pk : Nat → Nat) (f : Nat), (∀ j, pk j ≤ 64) → rs.length < f → k + rs.length ≤ 2147483648 → (∀ r ∈ rs, r.length ≤ 65536) →
  ∃ q, q ≤ rs.length ∧ (recsF (A ++ (mixL pk (recRows g k rs) ++ List.replicate z zero64)) g f k A.length).1 = rs.take q ∧ ((∀ j, pk j = 64) → q = rs.length)
 | [], k, A, pk, f, hp, hf, _, _ => by
  obtain ⟨f', rfl⟩ : ∃ f', f = f' + 1 := ⟨f - 1, by simp at hf; omega⟩
  refine ⟨0, Nat.zero_le _, ?_, fun _ => rfl⟩
  rw [recsF, recRows, mixL, List.nil_append, List.drop_append_of_le_length (Nat.le_refl _), List.drop_of_length_le (Nat.le_refl _), List.nil_append, if_neg (fun h => not_stands_zeros _ h.1)]
  rfl
 | r :: rs, k, A, pk, f, hp, hf, hk, hr => by
  obtain ⟨f', rfl⟩ : ∃ f', f = f' + 1 := ⟨f - 1, by simp at hf; omega⟩
  simp only [List.length_cons] at hf hk
  have hd : (A ++ (mixL pk (recRows g k (r :: rs)) ++ List.replicate z zero64)).drop A.length = mixL pk (rowsOf g k r) ++ (mixL (fun j => pk (j + (rowsOf g k r).length)) (recRows g (k + 1) rs) ++ List.replicate z zero64) := by
   rw [List.drop_append_of_le_length (Nat.le_refl _), List.drop_of_length_le (Nat.le_refl _), List.nil_append, recRows, mixL_append, List.append_assoc]
  by_cases hst : stands (mixL pk (rowsOf g k r) ++ (mixL (fun j => pk (j + (rowsOf g k r).length)) (recRows g (k + 1) rs) ++ List.replicate z zero64))
  ·
   have hw := mixL_all rowsOf_64 (torn_row hg (hr r (by simp)) hp _ hst)
   rw [hw] at hd
   obtain ⟨h1, h2, h3, h4, h5⟩ := row_stands (g := g) (k := k) (p := r) (mixL (fun j => pk (j + (rowsOf g k r).length)) (recRows g (k + 1) rs) ++ List.replicate z zero64) hg (by omega) (hr r (by simp))
   obtain ⟨q, hq, e, hall⟩ := recsF_mixed hg z rs (k + 1) (A ++ rowsOf g k r) (fun j => pk (j + (rowsOf g k r).length)) f' (fun j => hp _) (by omega) (by omega) (fun x hx => hr x (by simp [hx]))
   refine ⟨q + 1, by simp; exact hq, ?_, fun ha => by rw [hall (fun j => ha _)]; simp⟩
   rw [recsF_more (by rw [hd]; exact ⟨h1, h3, h4⟩), hd, h2, h5, List.take_succ_cons]
   rw [List.length_append] at e
   have e2 : A ++ (mixL pk (recRows g k (r :: rs)) ++ List.replicate z zero64) = A ++ rowsOf g k r ++ (mixL (fun j => pk (j + (rowsOf g k r).length)) (recRows g (k + 1) rs) ++ List.replicate z zero64) := by
    rw [recRows, mixL_append, hw]
    simp only [List.append_assoc]
   rw [e2]
   show r :: (recsF _ g f' (k + 1) (A.length + (rowsOf g k r).length)).1 = _
   rw [e]
  ·
   refine ⟨0, Nat.zero_le _, ?_, fun ha => ?_⟩
   ·
    rw [recsF_stop (by rw [hd]; exact fun h => hst h.1)]
    rfl
   ·
    exfalso
    apply hst
    rw [mixL_all rowsOf_64 (fun i _ => ha i)]
    exact (row_stands (g := g) (k := k) (p := r) _ hg (by omega) (hr r (by simp))).1
end Cam
namespace Cam
open Go Go.RowKit Go.Proofs
end Cam
namespace Cam
open Go Go.RowKit Go.Proofs
theorem recsF_past {g : Nat} (hg : g ≤ 1099511627776) : ∀ (rs : List (List UInt8)) (k : Nat) (A T : List (List UInt8)) (f : Nat), rs.length < f → k + rs.length ≤ 2147483648 → (∀ r ∈ rs, r.length ≤ 65536) →
  (recsF (A ++ (recRows g k rs ++ T)) g f k A.length).1 = rs ++ (recsF (A ++ (recRows g k rs ++ T)) g (f - rs.length) (k + rs.length) (A.length + (recRows g k rs).length)).1
 | [], k, A, T, f, _, _, _ => by simp [recRows]
 | r :: rs, k, A, T, f, hf, hk, hr => by
  obtain ⟨f', rfl⟩ : ∃ f', f = f' + 1 := ⟨f - 1, by simp at hf; omega⟩
  simp only [List.length_cons] at hf hk
  have hd : (A ++ (recRows g k (r :: rs) ++ T)).drop A.length = rowsOf g k r ++ (recRows g (k + 1) rs ++ T) := by
   rw [List.drop_append_of_le_length (Nat.le_refl _), List.drop_of_length_le (Nat.le_refl _), List.nil_append, recRows, List.append_assoc]
  obtain ⟨h1, h2, h3, h4, h5⟩ := row_stands (g := g) (k := k) (p := r) (recRows g (k + 1) rs ++ T) hg (by omega) (hr r (by simp))
  have ih := recsF_past hg rs (k + 1) (A ++ rowsOf g k r) T f' (by omega) (by omega) (fun x hx => hr x (by simp [hx]))
  have e2 : A ++ (recRows g k (r :: rs) ++ T) = A ++ rowsOf g k r ++ (recRows g (k + 1) rs ++ T) := by
   rw [recRows]
   simp only [List.append_assoc]
  rw [recsF_more (by rw [hd]; exact ⟨h1, h3, h4⟩), hd, h2, h5, e2]
  rw [List.length_append] at ih
  show r :: (recsF _ g f' (k + 1) (A.length + (rowsOf g k r).length)).1 = _
  rw [ih, List.cons_append, recRows, List.length_append, List.length_cons]
  rw [show f' + 1 - (rs.length + 1) = f' - rs.length by omega, show k + (rs.length + 1) = k + 1 + rs.length by omega, ← Nat.add_assoc]
theorem torn_read {g : Nat} (hg1 : 1 ≤ g) (hg : g ≤ 1099511627776) (s : List UInt8) (hs : s.length ≤ 65536) (rs qs : List (List UInt8)) (hr : ∀ r ∈ rs, r.length ≤ 65536) (hq : ∀ r ∈ qs, r.length ≤ 65536) (hn : rs.length + qs.length < 2147483647) (pk : Nat → Nat) (hp : ∀ j, pk j ≤ 64) (z : Nat) :
  ∃ q fin, q ≤ qs.length ∧ readL (rowsOf g 0 s ++ (recRows g 1 rs ++ (mixL pk (recRows g (1 + rs.length) qs) ++ List.replicate z zero64))) = ⟨g, s, rs ++ qs.take q, fin⟩ ∧ ((∀ j, pk j = 64) → q = qs.length) := by
 obtain ⟨T, hT⟩ : ∃ T, T = mixL pk (recRows g (1 + rs.length) qs) ++ List.replicate z zero64 := ⟨_, rfl⟩
 obtain ⟨h1, h2, h3, h4, h5⟩ := row_stands (g := g) (k := 0) (p := s) (recRows g 1 rs ++ T) hg (by omega) hs
 have hl := recRows_len g 1 rs
 have hlq := recRows_len g (1 + rs.length) qs
 have h1' : 1 ≤ (rowsOf g 0 s).length := by rw [rowsOf_length]; unfold needN; omega
 have hlen : rs.length + qs.length < (rowsOf g 0 s ++ (recRows g 1 rs ++ T)).length := by
  rw [List.length_append, List.length_append, hT, List.length_append, mixL_length]
  omega
 have hp1 := recsF_past hg rs 1 (rowsOf g 0 s) T (rowsOf g 0 s ++ (recRows g 1 rs ++ T)).length (by omega) (by omega) hr
 obtain ⟨q, hq1, e, hall⟩ := recsF_mixed hg z qs (1 + rs.length) (rowsOf g 0 s ++ recRows g 1 rs) pk ((rowsOf g 0 s ++ (recRows g 1 rs ++ T)).length - rs.length) hp (by omega) (by omega) hq
 rw [← hT, List.append_assoc, show (rowsOf g 0 s ++ recRows g 1 rs).length = (rowsOf g 0 s).length + (recRows g 1 rs).length from List.length_append] at e
 rw [e] at hp1
 refine ⟨q, (recsF (rowsOf g 0 s ++ (recRows g 1 rs ++ T)) g (rowsOf g 0 s ++ (recRows g 1 rs ++ T)).length 1 (rowsOf g 0 s).length).2, hq1, ?_, hall⟩
 rw [← hT]
 unfold readL
 rw [if_pos ⟨h1, by rw [h3]; exact hg1, h4⟩, h3, h2, h5, hp1]
end Cam
namespace Cam
open Go Go.RowKit Go.Proofs
theorem half_puts {N : List (List UInt8)} {fr m : Nat} {A B C : List (List UInt8)} (h2 : halfOf N fr m = A ++ (B ++ List.replicate (m - (A.length + B.length)) zero64)) (hN : fr + m ≤ N.length) (hfit : A.length + B.length + C.length ≤ m) :
  halfOf (puts N (fr + (A.length + B.length)) C) fr m = A ++ (B ++ (C ++ List.replicate (m - (A.length + B.length + C.length)) zero64)) := by
 have hg : ∀ i : Nat, (halfOf N fr m)[i]? = (A ++ (B ++ List.replicate (m - (A.length + B.length)) zero64))[i]? := fun i => by rw [h2]
 apply List.ext_getElem?
 intro i
 rw [halfOf_get, puts_get _ _ _ _ (by omega)]
 have hi := hg i
 rw [halfOf_get] at hi
 simp only [List.getElem?_append, List.getElem?_replicate] at hi ⊢
 by_cases h3 : i < m
 ·
  rw [if_pos h3] at hi ⊢
  by_cases h4 : fr + (A.length + B.length) ≤ fr + i ∧ fr + i < fr + (A.length + B.length) + C.length
  ·
   rw [if_pos h4, if_neg (by omega), if_neg (by omega), if_pos (by omega)]
   congr 1
   omega
  ·
   rw [if_neg h4, hi]
   by_cases h5 : i < A.length
   ·
    rw [if_pos h5, if_pos h5]
   ·
    rw [if_neg h5, if_neg h5]
    by_cases h6 : i - A.length < B.length
    ·
     rw [if_pos h6, if_pos h6]
    ·
     rw [if_neg h6, if_neg h6, if_pos (by omega), if_neg (by omega), if_pos (by omega)]
 ·
  rw [if_neg h3] at hi ⊢
  rw [if_neg (by omega), if_neg (by omega), if_neg (by omega), if_neg (by omega)]
theorem Holds.torn {N : List (List UInt8)} {fr m g : Nat} {s : List UInt8} {rs qs : List (List UInt8)} (h : Holds N fr m g s rs) (hN : fr + m ≤ N.length) (hfit : (rowsOf g 0 s).length + (recRows g 1 rs).length + (recRows g (1 + rs.length) qs).length ≤ m)
  (hg1 : 1 ≤ g) (hg : g ≤ 1099511627776) (hs : s.length ≤ 65536) (hr : ∀ r ∈ rs, r.length ≤ 65536) (hq : ∀ r ∈ qs, r.length ≤ 65536) (hn : rs.length + qs.length < 2147483647) (pk : Nat → Nat) (hp : ∀ j, pk j ≤ 64) :
  ∃ q fin, q ≤ qs.length ∧ readL (halfOf (puts N (fr + ((rowsOf g 0 s).length + (recRows g 1 rs).length)) (mixL pk (recRows g (1 + rs.length) qs))) fr m) = ⟨g, s, rs ++ qs.take q, fin⟩ ∧ ((∀ j, pk j = 64) → q = qs.length) := by
 rw [half_puts h.2 hN (by rw [mixL_length]; exact hfit)]
 exact torn_read hg1 hg s hs rs qs hr hq hn pk hp _
end Cam
