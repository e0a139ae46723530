import Derived.Test.YtlnclfiiplpaiaaJnS
/- What is read of a half whose last records were torn. No walk. -/
namespace Cam
open Go Go.RowKit Go.Proofs

theorem recsF_past {g : Nat} (hg : g ≤ 1099511627776) : ∀ (rs : List (List UInt8)) (k : Nat) (A T : List (List UInt8)) (f : Nat), rs.length < f → k + rs.length ≤ 2147483648 → (∀ r ∈ rs, r.length ≤ 65536) →
    (recsF (A ++ (recRows g k rs ++ T)) g f k A.length).1 = rs ++ (recsF (A ++ (recRows g k rs ++ T)) g (f - rs.length) (k + rs.length) (A.length + (recRows g k rs).length)).1
  | [], k, A, T, f, _, _, _ => by simp [recRows]
  | r :: rs, k, A, T, f, hf, hk, hr => by
    obtain ⟨f', rfl⟩ : ∃ f', f = f' + 1 := ⟨f - 1, by simp at hf; omega⟩
    simp only [List.length_cons] at hf hk
    have hd : (A ++ (recRows g k (r :: rs) ++ T)).drop A.length = rowsOf g k r ++ (recRows g (k + 1) rs ++ T) := by
      rw [List.drop_append_of_le_length (Nat.le_refl _), List.drop_of_length_le (Nat.le_refl _), List.nil_append, recRows, List.append_assoc]
    obtain ⟨h1, h2, h3, h4, h5⟩ := row_stands (g := g) (k := k) (p := r) (recRows g (k + 1) rs ++ T) hg (by omega) (hr r (by simp))
    have ih := recsF_past hg rs (k + 1) (A ++ rowsOf g k r) T f' (by omega) (by omega) (fun x hx => hr x (by simp [hx]))
    have e2 : A ++ (recRows g k (r :: rs) ++ T) = A ++ rowsOf g k r ++ (recRows g (k + 1) rs ++ T) := by
      rw [recRows]
      simp only [List.append_assoc]
    rw [recsF_more (by rw [hd]; exact ⟨h1, h3, h4⟩), hd, h2, h5, e2]
    rw [List.length_append] at ih
    show r :: (recsF _ g f' (k + 1) (A.length + (rowsOf g k r).length)).1 = _
    rw [ih, List.cons_append, recRows, List.length_append, List.length_cons]
    rw [show f' + 1 - (rs.length + 1) = f' - rs.length by omega, show k + (rs.length + 1) = k + 1 + rs.length by omega, ← Nat.add_assoc]
/-- a half whose last records were torn -/
theorem torn_read {g : Nat} (hg1 : 1 ≤ g) (hg : g ≤ 1099511627776) (s : List UInt8) (hs : s.length ≤ 65536) (rs qs : List (List UInt8)) (hr : ∀ r ∈ rs, r.length ≤ 65536) (hq : ∀ r ∈ qs, r.length ≤ 65536) (hn : rs.length + qs.length < 2147483647) (pk : Nat → Nat) (hp : ∀ j, pk j ≤ 64) (z : Nat) :
    ∃ q fin, q ≤ qs.length ∧ readL (rowsOf g 0 s ++ (recRows g 1 rs ++ (mixL pk (recRows g (1 + rs.length) qs) ++ List.replicate z zero64))) = ⟨g, s, rs ++ qs.take q, fin⟩ ∧ ((∀ j, pk j = 64) → q = qs.length) := by
  obtain ⟨T, hT⟩ : ∃ T, T = mixL pk (recRows g (1 + rs.length) qs) ++ List.replicate z zero64 := ⟨_, rfl⟩
  obtain ⟨h1, h2, h3, h4, h5⟩ := row_stands (g := g) (k := 0) (p := s) (recRows g 1 rs ++ T) hg (by omega) hs
  have hl := recRows_len g 1 rs
  have hlq := recRows_len g (1 + rs.length) qs
  have h1' : 1 ≤ (rowsOf g 0 s).length := by rw [rowsOf_length]; unfold needN; omega
  have hlen : rs.length + qs.length < (rowsOf g 0 s ++ (recRows g 1 rs ++ T)).length := by
    rw [List.length_append, List.length_append, hT, List.length_append, mixL_length]
    omega
  have hp1 := recsF_past hg rs 1 (rowsOf g 0 s) T (rowsOf g 0 s ++ (recRows g 1 rs ++ T)).length (by omega) (by omega) hr
  obtain ⟨q, hq1, e, hall⟩ := recsF_mixed hg z qs (1 + rs.length) (rowsOf g 0 s ++ recRows g 1 rs) pk ((rowsOf g 0 s ++ (recRows g 1 rs ++ T)).length - rs.length) hp (by omega) (by omega) hq
  rw [← hT, List.append_assoc, show (rowsOf g 0 s ++ recRows g 1 rs).length = (rowsOf g 0 s).length + (recRows g 1 rs).length from List.length_append] at e
  rw [e] at hp1
  refine ⟨q, (recsF (rowsOf g 0 s ++ (recRows g 1 rs ++ T)) g (rowsOf g 0 s ++ (recRows g 1 rs ++ T)).length 1 (rowsOf g 0 s).length).2, hq1, ?_, hall⟩
  rw [← hT]
  unfold readL
  rw [if_pos ⟨h1, by rw [h3]; exact hg1, h4⟩, h3, h2, h5, hp1]
end Cam
