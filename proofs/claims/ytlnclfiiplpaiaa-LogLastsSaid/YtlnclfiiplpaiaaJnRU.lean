import Derived.Test.YtlnclfiiplpaiaaJnL2
/- What is read of a half whose last records were torn. No walk. -/
namespace Cam
open Go Go.RowKit Go.Proofs

/-- blocks as a crash leaves them over zeros -/
def mixL (pk : Nat → Nat) : List (List UInt8) → List (List UInt8)
  | [] => []
  | b :: L => mixB (pk 0) zero64 b :: mixL (fun j => pk (j + 1)) L
theorem mixL_length : ∀ (L : List (List UInt8)) (pk : Nat → Nat), (mixL pk L).length = L.length
  | [], _ => rfl
  | b :: L, pk => by rw [mixL, List.length_cons, mixL_length L, List.length_cons]
theorem mixL_append : ∀ (A B : List (List UInt8)) (pk : Nat → Nat), mixL pk (A ++ B) = mixL pk A ++ mixL (fun j => pk (j + A.length)) B
  | [], B, pk => by simp [mixL]
  | b :: A, B, pk => by
    rw [List.cons_append, mixL, mixL, mixL_append A B, List.cons_append]
    congr 2
theorem mixL_get : ∀ (L : List (List UInt8)) (pk : Nat → Nat) (i : Nat), (mixL pk L)[i]? = L[i]?.map (mixB (pk i) zero64)
  | [], pk, i => by simp [mixL]
  | b :: L, pk, 0 => by simp [mixL]
  | b :: L, pk, i + 1 => by rw [mixL, List.getElem?_cons_succ, mixL_get L, List.getElem?_cons_succ]
/-- a block that is not whole ends in a zero -/
theorem mix_end {b : List UInt8} (hb : b.length = 64) {p g : Nat} (hp : p ≤ 64) (h : (mixB p zero64 b)[63]? = some (markB g)) : p = 64 := by
  rcases Nat.lt_or_ge p 64 with h1 | h1
  · exfalso
    unfold mixB at h
    rw [List.getElem?_append_right (by rw [List.length_take]; omega), List.getElem?_drop, List.length_take, Nat.min_eq_left (by omega)] at h
    rw [show p + (63 - p) = 63 by omega] at h
    have h2 : markB g = 0 := by
      have : zero64[63]? = some 0 := rfl
      rw [this] at h
      exact (Option.some.inj h).symm
    exact markB_ne g h2
  · omega
theorem mix_whole {b : List UInt8} (hb : b.length = 64) : mixB 64 zero64 b = b := by
  unfold mixB
  rw [List.take_of_length_le (by omega), List.drop_of_length_le (by rw [zero64_length]; omega), List.append_nil]
theorem mix_len {b : List UInt8} (hb : b.length = 64) {p : Nat} (hp : p ≤ 64) : (mixB p zero64 b).length = 64 := mixB_length zero64_length hb hp
/-- marks at the ends: whole -/
theorem mixL_all {pk : Nat → Nat} {L : List (List UInt8)} (h64 : ∀ b ∈ L, b.length = 64) (h : ∀ i, i < L.length → pk i = 64) : mixL pk L = L := by
  apply List.ext_getElem?
  intro i
  rw [mixL_get]
  by_cases hi : i < L.length
  · rw [List.getElem?_eq_getElem hi, h i hi]
    show some (mixB 64 zero64 L[i]) = _
    rw [mix_whole (h64 _ (List.getElem_mem hi))]
  · rw [List.getElem?_eq_none (by omega)]
    rfl
/-- a row behind a crash stands only where it is whole -/
theorem torn_row {g k : Nat} {r : List UInt8} (hg : g ≤ 1099511627776) (hr : r.length ≤ 65536) {pk : Nat → Nat} (hp : ∀ j, pk j ≤ 64) (T : List (List UInt8)) (h : stands (mixL pk (rowsOf g k r) ++ T)) : ∀ i, i < (rowsOf g k r).length → pk i = 64 := by
  obtain ⟨x, q, hx, hx64⟩ := rowsOf_ne g k r
  have h64 : ∀ b ∈ rowsOf g k r, b.length = 64 := rowsOf_64
  have hrow : ∀ i, i < (rowsOf g k r).length → ∃ b, (rowsOf g k r)[i]? = some b ∧ b.length = 64 ∧ (mixL pk (rowsOf g k r) ++ T)[i]? = some (mixB (pk i) zero64 b) := fun i hi => by
    refine ⟨(rowsOf g k r)[i], List.getElem?_eq_getElem hi, h64 _ (List.getElem_mem hi), ?_⟩
    rw [List.getElem?_append_left (by rw [mixL_length]; exact hi), mixL_get, List.getElem?_eq_getElem hi]
    rfl
  have hl0 : 0 < (rowsOf g k r).length := by rw [hx]; simp
  obtain ⟨b0, hb0, hb64, hm0⟩ := hrow 0 hl0
  have hhd : (mixL pk (rowsOf g k r) ++ T).headD [] = mixB (pk 0) zero64 b0 := by
    cases hq : mixL pk (rowsOf g k r) ++ T with
    | nil => rw [hq] at hm0; cases hm0
    | cons y ys => rw [hq] at hm0; simpa using hm0
  obtain ⟨_, _, _, h4, h5, _⟩ := h
  have hpos := rowN_pos (mixL pk (rowsOf g k r) ++ T)
  have hin : ∀ i, i < rowN (mixL pk (rowsOf g k r) ++ T) → ∀ y, (mixL pk (rowsOf g k r) ++ T)[i]? = some y → isMk (hGen ((mixL pk (rowsOf g k r) ++ T).headD [])) y := fun i hi y hy => h5 y (by
    obtain ⟨hlt, rfl⟩ := List.getElem?_eq_some_iff.1 hy
    exact List.mem_take_iff_getElem.2 ⟨i, by omega, rfl⟩)
  have hp0 : pk 0 = 64 := mix_end hb64 (hp 0) (hin 0 (by omega) _ hm0).2
  rw [hp0, mix_whole hb64] at hhd
  have hxb : b0 = x := by rw [hx] at hb0; simpa using hb0.symm
  have hN : rowN (mixL pk (rowsOf g k r) ++ T) = (rowsOf g k r).length := by
    obtain ⟨_, h7, _⟩ := row_head (g := g) (k := k) (p := r) [] hg hr
    rw [List.append_nil, hx] at h7
    unfold rowN
    rw [hhd, hxb, rowsOf_length]
    rw [show hSize x = r.length from h7, Nat.add_comm]
  intro i hi
  obtain ⟨b, _, hb, hm⟩ := hrow i hi
  exact mix_end hb (hp i) (hin i (by omega) _ hm).2
/-- what is read of records behind a crash: a beginning of them -/
theorem recsF_mixed {g : Nat} (hg : g ≤ 1099511627776) (z : Nat) : ∀ (rs : List (List UInt8)) (k : Nat) (A : List (List UInt8)) (pk : Nat → Nat) (f : Nat), (∀ j, pk j ≤ 64) → rs.length < f → k + rs.length ≤ 2147483648 → (∀ r ∈ rs, r.length ≤ 65536) →
    ∃ q, q ≤ rs.length ∧ (recsF (A ++ (mixL pk (recRows g k rs) ++ List.replicate z zero64)) g f k A.length).1 = rs.take q ∧ ((∀ j, pk j = 64) → q = rs.length)
  | [], k, A, pk, f, hp, hf, _, _ => by
    obtain ⟨f', rfl⟩ : ∃ f', f = f' + 1 := ⟨f - 1, by simp at hf; omega⟩
    refine ⟨0, Nat.zero_le _, ?_, fun _ => rfl⟩
    rw [recsF, recRows, mixL, List.nil_append, List.drop_append_of_le_length (Nat.le_refl _), List.drop_of_length_le (Nat.le_refl _), List.nil_append, if_neg (fun h => not_stands_zeros _ h.1)]
    rfl
  | r :: rs, k, A, pk, f, hp, hf, hk, hr => by
    obtain ⟨f', rfl⟩ : ∃ f', f = f' + 1 := ⟨f - 1, by simp at hf; omega⟩
    simp only [List.length_cons] at hf hk
    have hd : (A ++ (mixL pk (recRows g k (r :: rs)) ++ List.replicate z zero64)).drop A.length = mixL pk (rowsOf g k r) ++ (mixL (fun j => pk (j + (rowsOf g k r).length)) (recRows g (k + 1) rs) ++ List.replicate z zero64) := by
      rw [List.drop_append_of_le_length (Nat.le_refl _), List.drop_of_length_le (Nat.le_refl _), List.nil_append, recRows, mixL_append, List.append_assoc]
    by_cases hst : stands (mixL pk (rowsOf g k r) ++ (mixL (fun j => pk (j + (rowsOf g k r).length)) (recRows g (k + 1) rs) ++ List.replicate z zero64))
    · have hw := mixL_all rowsOf_64 (torn_row hg (hr r (by simp)) hp _ hst)
      rw [hw] at hd
      obtain ⟨h1, h2, h3, h4, h5⟩ := row_stands (g := g) (k := k) (p := r) (mixL (fun j => pk (j + (rowsOf g k r).length)) (recRows g (k + 1) rs) ++ List.replicate z zero64) hg (by omega) (hr r (by simp))
      obtain ⟨q, hq, e, hall⟩ := recsF_mixed hg z rs (k + 1) (A ++ rowsOf g k r) (fun j => pk (j + (rowsOf g k r).length)) f' (fun j => hp _) (by omega) (by omega) (fun x hx => hr x (by simp [hx]))
      refine ⟨q + 1, by simp; exact hq, ?_, fun ha => by rw [hall (fun j => ha _)]; simp⟩
      rw [recsF_more (by rw [hd]; exact ⟨h1, h3, h4⟩), hd, h2, h5, List.take_succ_cons]
      rw [List.length_append] at e
      have e2 : A ++ (mixL pk (recRows g k (r :: rs)) ++ List.replicate z zero64) = A ++ rowsOf g k r ++ (mixL (fun j => pk (j + (rowsOf g k r).length)) (recRows g (k + 1) rs) ++ List.replicate z zero64) := by
        rw [recRows, mixL_append, hw]
        simp only [List.append_assoc]
      rw [e2]
      show r :: (recsF _ g f' (k + 1) (A.length + (rowsOf g k r).length)).1 = _
      rw [e]
    · refine ⟨0, Nat.zero_le _, ?_, fun ha => ?_⟩
      · rw [recsF_stop (by rw [hd]; exact fun h => hst h.1)]
        rfl
      · exfalso
        apply hst
        rw [mixL_all rowsOf_64 (fun i _ => ha i)]
        exact (row_stands (g := g) (k := k) (p := r) _ hg (by omega) (hr r (by simp))).1
end Cam
namespace Cam
open Go Go.RowKit Go.Proofs

theorem idxs_get : ∀ (L : List (List UInt8)) (k j : Nat), (idxs k L)[j]? = L[j]?.map (fun b => (k + j, b))
  | [], k, j => by simp [idxs]
  | b :: L, k, 0 => by simp [idxs]
  | b :: L, k, j + 1 => by
    rw [idxs, List.getElem?_cons_succ, idxs_get L, List.getElem?_cons_succ, show k + 1 + j = k + (j + 1) by omega]
theorem puts_snoc : ∀ (A : List (List UInt8)) (N : List (List UInt8)) (k : Nat) (b : List UInt8), puts N k (A ++ [b]) = (puts N k A).set (k + A.length) b
  | [], N, k, b => by simp [puts]
  | a :: A, N, k, b => by
    rw [List.cons_append, puts, puts_snoc A, puts, List.length_cons, show k + 1 + A.length = k + (A.length + 1) by omega]
theorem crashTo_idxs {at_ : Nat} {L S : List (List UInt8)} (hz : ∀ i, i < L.length → S[at_ + i]? = some zero64) (h : at_ + L.length ≤ S.length) (picks : List Int) :
    ∀ j, j ≤ L.length → crashTo (idxs at_ L) picks S j = puts S at_ (mixL (pickN picks) (L.take j))
  | 0, _ => by simp [crashTo, mixL, puts]
  | j + 1, hj => by
    have ih := crashTo_idxs hz h picks j (by omega)
    have hl : (mixL (pickN picks) (L.take j)).length = j := by rw [mixL_length, List.length_take]; omega
    have e : L.take (j + 1) = L.take j ++ [L[j]] := by rw [List.take_add_one, List.getElem?_eq_getElem (by omega)]; rfl
    have e2 : (puts S at_ (mixL (pickN picks) (L.take j))).getD (at_ + j) [] = zero64 := by
      rw [List.getD_eq_getElem?_getD, puts_get _ _ _ _ (by rw [hl]; omega), if_neg (by rw [hl]; omega), hz j (by omega)]
      rfl
    have e3 : (idxs at_ L)[j]? = some (at_ + j, L[j]) := by rw [idxs_get, List.getElem?_eq_getElem (by omega)]; rfl
    rw [crashTo, e3, ih]
    show (puts S at_ _).set (at_ + j) (mixB (pickN picks j) ((puts S at_ _).getD (at_ + j) []) L[j]) = _
    rw [e2, e, mixL_append, mixL, mixL, puts_snoc, hl]
    simp only [List.length_take, Nat.min_eq_left (show j ≤ L.length by omega), Nat.zero_add]
/-- a disk behind the crash of a run of writes over zeros, and its start -/
theorem crash_run {D : DK} (h : OnD D) (ho : D.op = []) {at_ : Nat} {L : List (List UInt8)} (hz : ∀ i, i < L.length → D.now[at_ + i]? = some zero64) (hl : at_ + L.length ≤ D.now.length) (picks : List Int) :
    dStart (dCrash (dPuts D at_ L) picks) = { syn := puts D.now at_ (mixL (pickN picks) L), now := puts D.now at_ (mixL (pickN picks) L), op := [], off := false, arm := 0, torn := false } := by
  have hs : D.syn = D.now := by rw [h.full, ho]; rfl
  have e : dCrash (dPuts D at_ L) picks = { syn := puts D.now at_ (mixL (pickN picks) L), now := puts D.now at_ (mixL (pickN picks) L), op := [], off := true, arm := 0, torn := false } := by
    have e1 : (dPuts D at_ L).op = idxs at_ L := by unfold dPuts; rw [ho]; rfl
    have e2 : (dPuts D at_ L).syn = D.now := hs
    unfold dCrash
    rw [e1, e2, idxs_length, crashTo_idxs hz hl picks L.length (Nat.le_refl _), List.take_length]
  rw [e]
  unfold dStart
  rw [if_neg (by simp)]
end Cam
namespace Cam
open Go Go.RowKit Go.Proofs

theorem recsF_past {g : Nat} (hg : g ≤ 1099511627776) : ∀ (rs : List (List UInt8)) (k : Nat) (A T : List (List UInt8)) (f : Nat), rs.length < f → k + rs.length ≤ 2147483648 → (∀ r ∈ rs, r.length ≤ 65536) →
    (recsF (A ++ (recRows g k rs ++ T)) g f k A.length).1 = rs ++ (recsF (A ++ (recRows g k rs ++ T)) g (f - rs.length) (k + rs.length) (A.length + (recRows g k rs).length)).1
  | [], k, A, T, f, _, _, _ => by simp [recRows]
  | r :: rs, k, A, T, f, hf, hk, hr => by
    obtain ⟨f', rfl⟩ : ∃ f', f = f' + 1 := ⟨f - 1, by simp at hf; omega⟩
    simp only [List.length_cons] at hf hk
    have hd : (A ++ (recRows g k (r :: rs) ++ T)).drop A.length = rowsOf g k r ++ (recRows g (k + 1) rs ++ T) := by
      rw [List.drop_append_of_le_length (Nat.le_refl _), List.drop_of_length_le (Nat.le_refl _), List.nil_append, recRows, List.append_assoc]
    obtain ⟨h1, h2, h3, h4, h5⟩ := row_stands (g := g) (k := k) (p := r) (recRows g (k + 1) rs ++ T) hg (by omega) (hr r (by simp))
    have ih := recsF_past hg rs (k + 1) (A ++ rowsOf g k r) T f' (by omega) (by omega) (fun x hx => hr x (by simp [hx]))
    have e2 : A ++ (recRows g k (r :: rs) ++ T) = A ++ rowsOf g k r ++ (recRows g (k + 1) rs ++ T) := by
      rw [recRows]
      simp only [List.append_assoc]
    rw [recsF_more (by rw [hd]; exact ⟨h1, h3, h4⟩), hd, h2, h5, e2]
    rw [List.length_append] at ih
    show r :: (recsF _ g f' (k + 1) (A.length + (rowsOf g k r).length)).1 = _
    rw [ih, List.cons_append, recRows, List.length_append, List.length_cons]
    rw [show f' + 1 - (rs.length + 1) = f' - rs.length by omega, show k + (rs.length + 1) = k + 1 + rs.length by omega, ← Nat.add_assoc]
/-- a half whose last records were torn -/
theorem torn_read {g : Nat} (hg1 : 1 ≤ g) (hg : g ≤ 1099511627776) (s : List UInt8) (hs : s.length ≤ 65536) (rs qs : List (List UInt8)) (hr : ∀ r ∈ rs, r.length ≤ 65536) (hq : ∀ r ∈ qs, r.length ≤ 65536) (hn : rs.length + qs.length < 2147483647) (pk : Nat → Nat) (hp : ∀ j, pk j ≤ 64) (z : Nat) :
    ∃ q fin, q ≤ qs.length ∧ readL (rowsOf g 0 s ++ (recRows g 1 rs ++ (mixL pk (recRows g (1 + rs.length) qs) ++ List.replicate z zero64))) = ⟨g, s, rs ++ qs.take q, fin⟩ ∧ ((∀ j, pk j = 64) → q = qs.length) := by
  obtain ⟨T, hT⟩ : ∃ T, T = mixL pk (recRows g (1 + rs.length) qs) ++ List.replicate z zero64 := ⟨_, rfl⟩
  obtain ⟨h1, h2, h3, h4, h5⟩ := row_stands (g := g) (k := 0) (p := s) (recRows g 1 rs ++ T) hg (by omega) hs
  have hl := recRows_len g 1 rs
  have hlq := recRows_len g (1 + rs.length) qs
  have h1' : 1 ≤ (rowsOf g 0 s).length := by rw [rowsOf_length]; unfold needN; omega
  have hlen : rs.length + qs.length < (rowsOf g 0 s ++ (recRows g 1 rs ++ T)).length := by
    rw [List.length_append, List.length_append, hT, List.length_append, mixL_length]
    omega
  have hp1 := recsF_past hg rs 1 (rowsOf g 0 s) T (rowsOf g 0 s ++ (recRows g 1 rs ++ T)).length (by omega) (by omega) hr
  obtain ⟨q, hq1, e, hall⟩ := recsF_mixed hg z qs (1 + rs.length) (rowsOf g 0 s ++ recRows g 1 rs) pk ((rowsOf g 0 s ++ (recRows g 1 rs ++ T)).length - rs.length) hp (by omega) (by omega) hq
  rw [← hT, List.append_assoc, show (rowsOf g 0 s ++ recRows g 1 rs).length = (rowsOf g 0 s).length + (recRows g 1 rs).length from List.length_append] at e
  rw [e] at hp1
  refine ⟨q, (recsF (rowsOf g 0 s ++ (recRows g 1 rs ++ T)) g (rowsOf g 0 s ++ (recRows g 1 rs ++ T)).length 1 (rowsOf g 0 s).length).2, hq1, ?_, hall⟩
  rw [← hT]
  unfold readL
  rw [if_pos ⟨h1, by rw [h3]; exact hg1, h4⟩, h3, h2, h5, hp1]
end Cam
namespace Cam
open Go Go.RowKit Go.Proofs

theorem half_puts {N : List (List UInt8)} {fr m : Nat} {A B C : List (List UInt8)} (h2 : halfOf N fr m = A ++ (B ++ List.replicate (m - (A.length + B.length)) zero64)) (hN : fr + m ≤ N.length) (hfit : A.length + B.length + C.length ≤ m) :
    halfOf (puts N (fr + (A.length + B.length)) C) fr m = A ++ (B ++ (C ++ List.replicate (m - (A.length + B.length + C.length)) zero64)) := by
  have hg : ∀ i : Nat, (halfOf N fr m)[i]? = (A ++ (B ++ List.replicate (m - (A.length + B.length)) zero64))[i]? := fun i => by rw [h2]
  apply List.ext_getElem?
  intro i
  rw [halfOf_get, puts_get _ _ _ _ (by omega)]
  have hi := hg i
  rw [halfOf_get] at hi
  simp only [List.getElem?_append, List.getElem?_replicate] at hi ⊢
  by_cases h3 : i < m
  · rw [if_pos h3] at hi ⊢
    by_cases h4 : fr + (A.length + B.length) ≤ fr + i ∧ fr + i < fr + (A.length + B.length) + C.length
    · rw [if_pos h4, if_neg (by omega), if_neg (by omega), if_pos (by omega)]
      congr 1
      omega
    · rw [if_neg h4, hi]
      by_cases h5 : i < A.length
      · rw [if_pos h5, if_pos h5]
      · rw [if_neg h5, if_neg h5]
        by_cases h6 : i - A.length < B.length
        · rw [if_pos h6, if_pos h6]
        · rw [if_neg h6, if_neg h6, if_pos (by omega), if_neg (by omega), if_pos (by omega)]
  · rw [if_neg h3] at hi ⊢
    rw [if_neg (by omega), if_neg (by omega), if_neg (by omega), if_neg (by omega)]
/-- behind a half's records there are zeros -/
theorem Holds.zeros {N : List (List UInt8)} {fr m g : Nat} {s : List UInt8} {rs : List (List UInt8)} (h : Holds N fr m g s rs) (i : Nat) (hi : (rowsOf g 0 s).length + (recRows g 1 rs).length + i < m) : N[fr + ((rowsOf g 0 s).length + (recRows g 1 rs).length) + i]? = some zero64 := by
  have e : (halfOf N fr m)[(rowsOf g 0 s).length + (recRows g 1 rs).length + i]? = some zero64 := by
    rw [h.2]
    simp only [List.getElem?_append, List.getElem?_replicate]
    rw [if_neg (by omega), if_neg (by omega), if_pos (by omega)]
  rw [halfOf_get, if_pos hi] at e
  rw [← e]
  congr 1
  omega
/-- a half whose last records were torn, on a disk -/
theorem Holds.torn {N : List (List UInt8)} {fr m g : Nat} {s : List UInt8} {rs qs : List (List UInt8)} (h : Holds N fr m g s rs) (hN : fr + m ≤ N.length) (hfit : (rowsOf g 0 s).length + (recRows g 1 rs).length + (recRows g (1 + rs.length) qs).length ≤ m)
    (hg1 : 1 ≤ g) (hg : g ≤ 1099511627776) (hs : s.length ≤ 65536) (hr : ∀ r ∈ rs, r.length ≤ 65536) (hq : ∀ r ∈ qs, r.length ≤ 65536) (hn : rs.length + qs.length < 2147483647) (pk : Nat → Nat) (hp : ∀ j, pk j ≤ 64) :
    ∃ q fin, q ≤ qs.length ∧ readL (halfOf (puts N (fr + ((rowsOf g 0 s).length + (recRows g 1 rs).length)) (mixL pk (recRows g (1 + rs.length) qs))) fr m) = ⟨g, s, rs ++ qs.take q, fin⟩ ∧ ((∀ j, pk j = 64) → q = qs.length) := by
  rw [half_puts h.2 hN (by rw [mixL_length]; exact hfit)]
  exact torn_read hg1 hg s hs rs qs hr hq hn pk hp _
theorem mixL_congr {L : List (List UInt8)} {pk pk' : Nat → Nat} (h : ∀ i, i < L.length → pk i = pk' i) : mixL pk L = mixL pk' L := by
  apply List.ext_getElem?
  intro i
  rw [mixL_get, mixL_get]
  by_cases hi : i < L.length
  · rw [h i hi]
  · rw [List.getElem?_eq_none (by omega)]
    rfl
/-- LogMade's disk behind its crash -/
theorem made_open {s r : List UInt8} (hs : s.length ≤ 300) (hr : r.length ≤ 2000) (picks : List Int) :
    ∃ q fin, q ≤ 1 ∧ openT 300 (puts (first1 300 s) (rowsOf 1 0 s).length (mixL (pickN picks) (recRows 1 1 [r]))) = ⟨0, ⟨1, s, [r].take q, fin⟩, false⟩ ∧ ((∀ j, j < (rowsOf 1 1 r).length → pickN picks j = 64) → q = 1) := by
  have e0 : (rowsOf 1 0 s).length ≤ 6 := by rw [rowsOf_length]; unfold needN; omega
  have e1 : (recRows 1 1 [r]).length = (rowsOf 1 1 r).length := by rw [recRows, recRows, List.append_nil]
  have e2 : (rowsOf 1 1 r).length ≤ 33 := by rw [rowsOf_length]; unfold needN; omega
  have h1 := first1_holds (n := 300) (s := s) (by omega)
  obtain ⟨pk, hpk⟩ : ∃ pk : Nat → Nat, pk = fun j => if j < (rowsOf 1 1 r).length then pickN picks j else 64 := ⟨_, rfl⟩
  have hm : mixL (pickN picks) (recRows 1 1 [r]) = mixL pk (recRows 1 1 [r]) := mixL_congr (fun i hi => by rw [hpk]; show _ = if _ then _ else _; rw [if_pos (by omega)])
  obtain ⟨q, fin, hq, e, hall⟩ := h1.torn (qs := [r]) (by rw [first1_length]; omega) (by show (rowsOf 1 0 s).length + 0 + (recRows 1 1 [r]).length ≤ 300 / 2; omega) (by decide) (by decide) (by omega) (fun _ h => by simp at h) (fun x h => by simp at h; rw [h]; omega) (by simp) pk (fun j => by
    rw [hpk]
    show (if _ then _ else _) ≤ 64
    split
    · exact pickN_le _ _
    · omega)
  have e3 : readL (halfOf (puts (first1 300 s) (rowsOf 1 0 s).length (mixL pk (recRows 1 1 [r]))) 0 (300 / 2)) = ⟨1, s, [r].take q, fin⟩ := by
    rw [List.nil_append] at e
    rw [← e]
    show _ = readL (halfOf (puts (first1 300 s) (0 + ((rowsOf 1 0 s).length + 0)) (mixL pk (recRows 1 (1 + 0) [r]))) 0 (300 / 2))
    rw [Nat.zero_add, Nat.add_zero]
  have e4 : readL (halfOf (puts (first1 300 s) (rowsOf 1 0 s).length (mixL pk (recRows 1 1 [r]))) (300 / 2) (300 / 2)) = ⟨0, [], [], 0⟩ := by
    rw [puts_other (by rw [first1_length, mixL_length]; omega) (by rw [mixL_length]; omega), first1_other (by omega)]
    exact readL_zeros _
  refine ⟨q, fin, hq, ?_, fun h => hall (fun j => ?_)⟩
  · rw [hm, openT_is e3 e4, if_pos (by simp)]
  · rw [hpk]
    show (if _ then _ else _) = 64
    split
    · rename_i hj
      exact h j hj
    · rfl
end Cam
