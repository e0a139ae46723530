import Derived.Test.YtlnclfiiplpaiaaJnL2
/- A crash with open writes over synced zeros: each row is there whole, or does not stand. No walk. -/
namespace Cam
open Go Go.RowKit Go.Proofs

/-- blocks as a crash leaves them over zeros -/
def mixL (pk : Nat → Nat) : List (List UInt8) → List (List UInt8)
  | [] => []
  | b :: L => mixB (pk 0) zero64 b :: mixL (fun j => pk (j + 1)) L
theorem mixL_length : ∀ (L : List (List UInt8)) (pk : Nat → Nat), (mixL pk L).length = L.length
  | [], _ => rfl
  | b :: L, pk => by rw [mixL, List.length_cons, mixL_length L, List.length_cons]
theorem mixL_append : ∀ (A B : List (List UInt8)) (pk : Nat → Nat), mixL pk (A ++ B) = mixL pk A ++ mixL (fun j => pk (j + A.length)) B
  | [], B, pk => by simp [mixL]
  | b :: A, B, pk => by
    rw [List.cons_append, mixL, mixL, mixL_append A B, List.cons_append]
    congr 2
theorem mixL_get : ∀ (L : List (List UInt8)) (pk : Nat → Nat) (i : Nat), (mixL pk L)[i]? = L[i]?.map (mixB (pk i) zero64)
  | [], pk, i => by simp [mixL]
  | b :: L, pk, 0 => by simp [mixL]
  | b :: L, pk, i + 1 => by rw [mixL, List.getElem?_cons_succ, mixL_get L, List.getElem?_cons_succ]
/-- a block that is not whole ends in a zero -/
theorem mix_end {b : List UInt8} (hb : b.length = 64) {p g : Nat} (hp : p ≤ 64) (h : (mixB p zero64 b)[63]? = some (markB g)) : p = 64 := by
  rcases Nat.lt_or_ge p 64 with h1 | h1
  · exfalso
    unfold mixB at h
    rw [List.getElem?_append_right (by rw [List.length_take]; omega), List.getElem?_drop, List.length_take, Nat.min_eq_left (by omega)] at h
    rw [show p + (63 - p) = 63 by omega] at h
    have h2 : markB g = 0 := by
      have : zero64[63]? = some 0 := rfl
      rw [this] at h
      exact (Option.some.inj h).symm
    exact markB_ne g h2
  · omega
theorem mix_whole {b : List UInt8} (hb : b.length = 64) : mixB 64 zero64 b = b := by
  unfold mixB
  rw [List.take_of_length_le (by omega), List.drop_of_length_le (by rw [zero64_length]; omega), List.append_nil]
theorem mix_len {b : List UInt8} (hb : b.length = 64) {p : Nat} (hp : p ≤ 64) : (mixB p zero64 b).length = 64 := mixB_length zero64_length hb hp
/-- marks at the ends: whole -/
theorem mixL_all {pk : Nat → Nat} {L : List (List UInt8)} (h64 : ∀ b ∈ L, b.length = 64) (h : ∀ i, i < L.length → pk i = 64) : mixL pk L = L := by
  apply List.ext_getElem?
  intro i
  rw [mixL_get]
  by_cases hi : i < L.length
  · rw [List.getElem?_eq_getElem hi, h i hi]
    show some (mixB 64 zero64 L[i]) = _
    rw [mix_whole (h64 _ (List.getElem_mem hi))]
  · rw [List.getElem?_eq_none (by omega)]
    rfl
/-- a row behind a crash stands only where it is whole -/
theorem torn_row {g k : Nat} {r : List UInt8} (hg : g ≤ 1099511627776) (hr : r.length ≤ 65536) {pk : Nat → Nat} (hp : ∀ j, pk j ≤ 64) (T : List (List UInt8)) (h : stands (mixL pk (rowsOf g k r) ++ T)) : ∀ i, i < (rowsOf g k r).length → pk i = 64 := by
  obtain ⟨x, q, hx, hx64⟩ := rowsOf_ne g k r
  have h64 : ∀ b ∈ rowsOf g k r, b.length = 64 := rowsOf_64
  have hrow : ∀ i, i < (rowsOf g k r).length → ∃ b, (rowsOf g k r)[i]? = some b ∧ b.length = 64 ∧ (mixL pk (rowsOf g k r) ++ T)[i]? = some (mixB (pk i) zero64 b) := fun i hi => by
    refine ⟨(rowsOf g k r)[i], List.getElem?_eq_getElem hi, h64 _ (List.getElem_mem hi), ?_⟩
    rw [List.getElem?_append_left (by rw [mixL_length]; exact hi), mixL_get, List.getElem?_eq_getElem hi]
    rfl
  have hl0 : 0 < (rowsOf g k r).length := by rw [hx]; simp
  obtain ⟨b0, hb0, hb64, hm0⟩ := hrow 0 hl0
  have hhd : (mixL pk (rowsOf g k r) ++ T).headD [] = mixB (pk 0) zero64 b0 := by
    cases hq : mixL pk (rowsOf g k r) ++ T with
    | nil => rw [hq] at hm0; cases hm0
    | cons y ys => rw [hq] at hm0; simpa using hm0
  obtain ⟨_, _, _, h4, h5, _⟩ := h
  have hpos := rowN_pos (mixL pk (rowsOf g k r) ++ T)
  have hin : ∀ i, i < rowN (mixL pk (rowsOf g k r) ++ T) → ∀ y, (mixL pk (rowsOf g k r) ++ T)[i]? = some y → isMk (hGen ((mixL pk (rowsOf g k r) ++ T).headD [])) y := fun i hi y hy => h5 y (by
    obtain ⟨hlt, rfl⟩ := List.getElem?_eq_some_iff.1 hy
    exact List.mem_take_iff_getElem.2 ⟨i, by omega, rfl⟩)
  have hp0 : pk 0 = 64 := mix_end hb64 (hp 0) (hin 0 (by omega) _ hm0).2
  rw [hp0, mix_whole hb64] at hhd
  have hxb : b0 = x := by rw [hx] at hb0; simpa using hb0.symm
  have hN : rowN (mixL pk (rowsOf g k r) ++ T) = (rowsOf g k r).length := by
    obtain ⟨_, h7, _⟩ := row_head (g := g) (k := k) (p := r) [] hg hr
    rw [List.append_nil, hx] at h7
    unfold rowN
    rw [hhd, hxb, rowsOf_length]
    rw [show hSize x = r.length from h7, Nat.add_comm]
  intro i hi
  obtain ⟨b, _, hb, hm⟩ := hrow i hi
  exact mix_end hb (hp i) (hin i (by omega) _ hm).2
/-- what is read of records behind a crash: a beginning of them -/
theorem recsF_mixed {g : Nat} (hg : g ≤ 1099511627776) (z : Nat) : ∀ (rs : List (List UInt8)) (k : Nat) (A : List (List UInt8)) (pk : Nat → Nat) (f : Nat), (∀ j, pk j ≤ 64) → rs.length < f → k + rs.length ≤ 2147483648 → (∀ r ∈ rs, r.length ≤ 65536) →
    ∃ q, q ≤ rs.length ∧ (recsF (A ++ (mixL pk (recRows g k rs) ++ List.replicate z zero64)) g f k A.length).1 = rs.take q ∧ ((∀ j, pk j = 64) → q = rs.length)
  | [], k, A, pk, f, hp, hf, _, _ => by
    obtain ⟨f', rfl⟩ : ∃ f', f = f' + 1 := ⟨f - 1, by simp at hf; omega⟩
    refine ⟨0, Nat.zero_le _, ?_, fun _ => rfl⟩
    rw [recsF, recRows, mixL, List.nil_append, List.drop_append_of_le_length (Nat.le_refl _), List.drop_of_length_le (Nat.le_refl _), List.nil_append, if_neg (fun h => not_stands_zeros _ h.1)]
    rfl
  | r :: rs, k, A, pk, f, hp, hf, hk, hr => by
    obtain ⟨f', rfl⟩ : ∃ f', f = f' + 1 := ⟨f - 1, by simp at hf; omega⟩
    simp only [List.length_cons] at hf hk
    have hd : (A ++ (mixL pk (recRows g k (r :: rs)) ++ List.replicate z zero64)).drop A.length = mixL pk (rowsOf g k r) ++ (mixL (fun j => pk (j + (rowsOf g k r).length)) (recRows g (k + 1) rs) ++ List.replicate z zero64) := by
      rw [List.drop_append_of_le_length (Nat.le_refl _), List.drop_of_length_le (Nat.le_refl _), List.nil_append, recRows, mixL_append, List.append_assoc]
    by_cases hst : stands (mixL pk (rowsOf g k r) ++ (mixL (fun j => pk (j + (rowsOf g k r).length)) (recRows g (k + 1) rs) ++ List.replicate z zero64))
    · have hw := mixL_all rowsOf_64 (torn_row hg (hr r (by simp)) hp _ hst)
      rw [hw] at hd
      obtain ⟨h1, h2, h3, h4, h5⟩ := row_stands (g := g) (k := k) (p := r) (mixL (fun j => pk (j + (rowsOf g k r).length)) (recRows g (k + 1) rs) ++ List.replicate z zero64) hg (by omega) (hr r (by simp))
      obtain ⟨q, hq, e, hall⟩ := recsF_mixed hg z rs (k + 1) (A ++ rowsOf g k r) (fun j => pk (j + (rowsOf g k r).length)) f' (fun j => hp _) (by omega) (by omega) (fun x hx => hr x (by simp [hx]))
      refine ⟨q + 1, by simp; exact hq, ?_, fun ha => by rw [hall (fun j => ha _)]; simp⟩
      rw [recsF_more (by rw [hd]; exact ⟨h1, h3, h4⟩), hd, h2, h5, List.take_succ_cons]
      rw [List.length_append] at e
      have e2 : A ++ (mixL pk (recRows g k (r :: rs)) ++ List.replicate z zero64) = A ++ rowsOf g k r ++ (mixL (fun j => pk (j + (rowsOf g k r).length)) (recRows g (k + 1) rs) ++ List.replicate z zero64) := by
        rw [recRows, mixL_append, hw]
        simp only [List.append_assoc]
      rw [e2]
      show r :: (recsF _ g f' (k + 1) (A.length + (rowsOf g k r).length)).1 = _
      rw [e]
    · refine ⟨0, Nat.zero_le _, ?_, fun ha => ?_⟩
      · rw [recsF_stop (by rw [hd]; exact fun h => hst h.1)]
        rfl
      · exfalso
        apply hst
        rw [mixL_all rowsOf_64 (fun i _ => ha i)]
        exact (row_stands (g := g) (k := k) (p := r) _ hg (by omega) (hr r (by simp))).1
end Cam
