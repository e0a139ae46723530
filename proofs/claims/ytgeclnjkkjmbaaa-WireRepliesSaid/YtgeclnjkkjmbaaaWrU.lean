import Derived.Test.YtgeclnjkkjmbaaaWrS
import Derived.Test.YtgeclnjkkjmbaaaWrS
/- reading: the plain laws. -/
namespace Cam
open Go Go.RowKit

theorem pow_step {k : Nat} (h : k < 9) : 128 ^ (9 - k) = 128 * 128 ^ (8 - k) := by
  rw [show 9 - k = (8 - k) + 1 by omega, Nat.pow_succ, Nat.mul_comm]

theorem vdec_enc (k z acc : Nat) (rest : List UInt8) (hk : k ≤ 9) (hz : z < 2 * 128 ^ (9 - k)) (h0 : k = 0 ∨ z ≠ 0) : vdec k (128 ^ k) acc (venc z ++ rest) = some (acc + z * 128 ^ k, k + (venc z).length) := by
  induction z using Nat.strongRecOn generalizing k acc with
  | ind z ih =>
    by_cases hl : z < 128
    · rw [venc_low z hl, List.singleton_append, vdec]
      have e : (UInt8.ofNat z).toNat = z := low_byte z hl
      rw [e, if_neg ?_, if_pos hl, if_neg (by omega)]
      · rfl
      · rintro ⟨rfl, h1⟩
        simp at hz
        omega
    · rw [venc_high z (by omega), List.cons_append, vdec]
      have e : (UInt8.ofNat (z % 128 + 128)).toNat = z % 128 + 128 := by
        rw [UInt8.toNat_ofNat']
        omega
      have hk9 : k < 9 := by
        by_cases h : k = 9
        · subst h
          simp at hz
          omega
        · omega
      rw [e, if_neg (by omega), if_neg (by omega), if_neg (by omega), ← Nat.pow_succ, ih (z / 128) (by omega) (k + 1) _ (by omega) ?_ (by omega)]
      · congr 2
        · rw [show z % 128 + 128 - 128 = z % 128 by omega, Nat.add_assoc, Nat.pow_succ, Nat.mul_comm (128 ^ k) 128, ← Nat.mul_assoc, ← Nat.add_mul]
          congr 2
          omega
        · simp only [List.length_cons]
          omega
      · rw [pow_step hk9] at hz
        rw [show 9 - (k + 1) = 8 - k by omega]
        generalize 128 ^ (8 - k) = y at *
        omega

theorem vdec_some (l : List UInt8) : ∀ (k acc r n : Nat), k ≤ 9 → vdec k (128 ^ k) acc l = some (r, n) → ∃ z rest, l = venc z ++ rest ∧ r = acc + z * 128 ^ k ∧ n = k + (venc z).length ∧ z < 2 * 128 ^ (9 - k) ∧ (k = 0 ∨ z ≠ 0) := by
  induction l with
  | nil =>
    intro k acc r n hk h
    rw [vdec] at h
    cases h
  | cons c l ih =>
    intro k acc r n hk h
    rw [vdec] at h
    have hcu := c.toNat_lt
    by_cases h1 : k = 9 ∧ 1 < c.toNat
    · rw [if_pos h1] at h
      cases h
    · rw [if_neg h1] at h
      by_cases h2 : c.toNat < 128
      · rw [if_pos h2] at h
        by_cases h3 : c.toNat = 0 ∧ 0 < k
        · rw [if_pos h3] at h
          cases h
        · rw [if_neg h3] at h
          cases h
          have hv : venc c.toNat = [c] := by rw [venc_low _ h2, UInt8.ofNat_toNat]
          refine ⟨c.toNat, l, ?_, rfl, ?_, ?_, by omega⟩
          · rw [hv]
            rfl
          · rw [hv]
            rfl
          · by_cases h9 : k = 9
            · subst h9
              simp
              omega
            · rw [pow_step (by omega)]
              have : 0 < 128 ^ (8 - k) := Nat.pow_pos (by omega)
              generalize 128 ^ (8 - k) = y at *
              omega
      · rw [if_neg h2] at h
        by_cases h9 : k = 9
        · rw [if_pos h9] at h
          cases h
        · rw [if_neg h9, ← Nat.pow_succ] at h
          obtain ⟨z, rest, e1, e2, e3, e4, e5⟩ := ih (k + 1) _ r n (by omega) h
          have hz : z ≠ 0 := by omega
          have hd : (c.toNat - 128 + 128 * z) / 128 = z := by omega
          have hm : (c.toNat - 128 + 128 * z) % 128 + 128 = c.toNat := by omega
          refine ⟨c.toNat - 128 + 128 * z, rest, ?_, ?_, ?_, ?_, .inr (by omega)⟩
          · rw [venc_high _ (by omega), hd, hm, UInt8.ofNat_toNat, e1]
            rfl
          · rw [e2, Nat.pow_succ, Nat.add_assoc, Nat.mul_comm (128 ^ k) 128, ← Nat.mul_assoc, ← Nat.add_mul, Nat.mul_comm z 128]
          · rw [venc_high _ (by omega), hd, e3, List.length_cons]
            omega
          · rw [pow_step (by omega)]
            rw [show 9 - (k + 1) = 8 - k by omega] at e4
            generalize 128 ^ (8 - k) = y at *
            omega

theorem vdec_pre (p : List UInt8) : ∀ (q : List UInt8) (k m acc z : Nat), q ≠ [] → p ++ q = venc z → vdec k m acc p = none := by
  induction p with
  | nil =>
    intro q k m acc z _ _
    rw [vdec]
  | cons c p ih =>
    intro q k m acc z hq h
    by_cases hl : z < 128
    · rw [venc_low z hl] at h
      simp at h
      exact absurd h.2.2 hq
    · rw [venc_high z (by omega), List.cons_append] at h
      have hc := (List.cons.inj h).1
      have hr := (List.cons.inj h).2
      have e : c.toNat = z % 128 + 128 := by
        rw [hc, UInt8.toNat_ofNat']
        omega
      rw [vdec, e]
      by_cases h9 : k = 9
      · rw [if_pos ⟨h9, by omega⟩]
      · rw [if_neg (by omega), if_neg (by omega), if_neg h9]
        exact ih q _ _ _ _ hq hr

theorem zag_range (z : Nat) (h : z < 18446744073709551616) : -9223372036854775808 ≤ zag z ∧ zag z ≤ 9223372036854775807 := by
  unfold zag
  split <;> omega

theorem rI_enc (n : Int) (rest : List UInt8) (h : -9223372036854775808 ≤ n ∧ n ≤ 9223372036854775807) : rI (encI n ++ rest, 0) = (n, (rest, 0)) := by
  have hz := zig_lt n h
  have := vdec_enc 0 (zig n) 0 rest (by omega) (by simp; omega) (.inl rfl)
  unfold rI encI
  rw [if_neg (by simp)]
  simp only
  rw [show (1 : Nat) = 128 ^ 0 from rfl, this]
  simp [zag_zig]
theorem rI_err (s : RS) (h : s.2 ≠ 0) : rI s = (0, s) := by
  unfold rI
  rw [if_pos h]
theorem rI_ok {s : RS} (h : (rI s).2.2 = 0) : s.2 = 0 ∧ s.1 = encI (rI s).1 ++ (rI s).2.1 := by
  obtain ⟨l, e⟩ := s
  by_cases he : e = 0
  · subst he
    refine ⟨rfl, ?_⟩
    unfold rI at h ⊢
    rw [if_neg (by simp)] at h ⊢
    simp only at h ⊢
    cases hv : vdec 0 1 0 l with
    | none => rw [hv] at h; simp at h
    | some r =>
      obtain ⟨z, n⟩ := r
      obtain ⟨z', rest, e1, e2, e3, e4, _⟩ := vdec_some l 0 0 z n (by omega) hv
      simp only
      have : z = z' := by simpa using e2
      subst this
      unfold encI
      rw [zig_zag, e3, Nat.zero_add]
      conv => lhs; rw [e1]
      rw [e1, List.drop_left]
  · rw [rI_err _ he] at h
    exact absurd h he
theorem rI_range (s : RS) : -9223372036854775808 ≤ (rI s).1 ∧ (rI s).1 ≤ 9223372036854775807 := by
  unfold rI
  split
  · simp
  · split
    · next z k hv =>
      obtain ⟨z', rest, e1, e2, e3, e4, _⟩ := vdec_some _ 0 0 z k (by omega) hv
      have : z = z' := by simpa using e2
      subst this
      exact zag_range z (by simpa using e4)
    · simp
theorem rI_pre {p q : List UInt8} {n : Int} (h : p ++ q = encI n) (hq : q ≠ []) : rI (p, 0) = (0, (p, 4)) := by
  unfold rI
  rw [if_neg (by simp)]
  simp only
  rw [vdec_pre p q 0 1 0 (zig n) hq h]

theorem rM_err (s : RS) (h : s.2 ≠ 0) : rM s = (false, s) := by
  unfold rM
  rw [if_pos h]
theorem rM_mark (b : Bool) (rest : List UInt8) : rM (markB b ++ rest, 0) = (b, (rest, 0)) := by cases b <;> rfl
theorem rM_ok {s : RS} (h : (rM s).2.2 = 0) : s.2 = 0 ∧ s.1 = markB (rM s).1 ++ (rM s).2.1 := by
  obtain ⟨l, e⟩ := s
  by_cases he : e = 0
  · subst he
    refine ⟨rfl, ?_⟩
    cases l with
    | nil => simp [rM] at h
    | cons c l =>
      by_cases hc : 1 < c.toNat
      · simp [rM, hc] at h
      · have e1 : rM (c :: l, 0) = (decide (c.toNat = 1), (l, 0)) := by simp [rM, hc]
        rw [e1]
        by_cases h1 : c.toNat = 1
        · have : c = 1 := UInt8.toNat_inj.1 h1
          subst this
          rfl
        · have : c = 0 := UInt8.toNat_inj.1 (by simp; omega)
          subst this
          rfl
  · rw [rM_err _ he] at h
    exact absurd h he
theorem rM_nil : rM ([], 0) = (false, ([], 4)) := rfl
theorem rM_len (s : RS) : (rM s).2.1.length ≤ s.1.length := by
  obtain ⟨l, e⟩ := s
  unfold rM
  split
  · exact Nat.le_refl _
  · cases l with
    | nil => simp
    | cons c l =>
      simp only
      split <;> simp

theorem rD_ok (s : RS) : rD s = 0 ↔ s.2 = 0 ∧ s.1 = [] := by
  unfold rD
  split
  · next h =>
    split
    · next h2 => exact ⟨fun _ => ⟨h, List.eq_nil_of_length_eq_zero h2⟩, fun _ => rfl⟩
    · next h2 => exact ⟨fun h => by omega, fun h => absurd (by rw [h.2]; rfl) h2⟩
  · next h => exact ⟨fun h2 => absurd h2 h, fun h2 => absurd h2.1 h⟩
theorem rD_long (s : RS) : rD s = 5 ↔ s.2 = 5 := by
  unfold rD
  split
  · next h =>
    split
    · constructor <;> intro h <;> omega
    · constructor <;> intro h <;> omega
  · exact Iff.rfl

end Cam
