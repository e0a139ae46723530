import Derived.Test.YtilbijekmmkiaaaRlX
import Derived.Test.YtilbijekmmkiaaaRlU
import Derived.Test.YtilbijekmmkiaaaRlH
/- Rolls that are right, and what acts make of them: plain laws. -/
namespace Cam
open Go
section
variable {α : Type} {right : α → Bool} {no : α → Int} {L : List α} {x : α}
theorem ChkP.of (ha : ∀ y ∈ L, right y = true) (hs : Srt no L) : ChkP right no L := fun k h => ⟨ha _ (List.getElem_mem h), fun h0 => by
 unfold Srt at hs
 rw [List.pairwise_iff_getElem] at hs
 exact hs (k - 1) k (by omega) h (by omega)⟩
theorem ChkP.put (h : ChkP right no L) (hx : right x = true) : ChkP right no (putL no x L) := by
 rw [putL_insL]
 refine ChkP.of (fun y hy => ?_) (insL_srt h.srt)
 rcases insL_mem hy with rfl | hy
 ·
  exact hx
 ·
  exact h.all y hy
theorem insL_len : ∀ {L : List α}, L.length ≤ (insL no x L).length
 | [] => by simp
 | y :: L => by
  have ih := insL_len (L := L)
  unfold insL
  by_cases h1 : no y < no x
  ·
   rw [if_pos h1]; simp; exact ih
  ·
   rw [if_neg h1]
   by_cases h2 : no y = no x
   ·
    rw [if_pos h2]; simp
   ·
    rw [if_neg h2]; simp
theorem putL_len : L.length ≤ (putL no x L).length := by
 rw [putL_insL]
 exact insL_len
theorem chk_ge (h : ChkP right no L) (hN : ∀ y, right y = true → 1 ≤ no y) : ∀ (k : Nat) (hk : k < L.length), (k : Int) + 1 ≤ no L[k]
 | 0, hk => by have := hN _ (h 0 hk).1; omega
 | k + 1, hk => by
  have h1 := chk_ge h hN k (by omega)
  have h2 := (h (k + 1) hk).2 (by omega)
  have h3 : no (L[k + 1 - 1]'(by omega)) = no (L[k]'(by omega)) := rfl
  omega
theorem chk_len {N : Nat} (h : ChkP right no L) (hN : ∀ y, right y = true → 1 ≤ no y ∧ no y ≤ N) : L.length ≤ N := by
 rcases Nat.lt_or_ge N L.length with h1 | h1
 ·
  have h2 := chk_ge h (fun y hy => (hN y hy).1) N h1
  have h3 := (hN _ (h N h1).1).2
  omega
 ·
  exact h1
end
theorem chkR_true {R : RollT} : chkR R = true ↔ ChkP rightM MbT.no R.M ∧ ChkP rightI InT.no R.I ∧ ChkP rightA AsT.no R.A := by
 unfold chkR
 rw [Bool.and_eq_true, Bool.and_eq_true, chkB_true, chkB_true, chkB_true]
 exact and_assoc
theorem chkR_nil : chkR RollT.nil = true := chkR_true.2 ⟨fun k h => absurd h (by simp [RollT.nil]), fun k h => absurd h (by simp [RollT.nil]), fun k h => absurd h (by simp [RollT.nil])⟩
theorem limM {m : MbT} (h : rightM m = true) : 1 ≤ MbT.no m ∧ MbT.no m ≤ (16 : Nat) := by
 unfold rightM wB at h
 simp at h
 omega
theorem limI {i : InT} (h : rightI i = true) : 1 ≤ InT.no i ∧ InT.no i ≤ (8 : Nat) := by
 unfold rightI wB at h
 simp at h
 omega
theorem limA {a : AsT} (h : rightA a = true) : 1 ≤ AsT.no a ∧ AsT.no a ≤ (6 : Nat) := by
 unfold rightA wB at h
 simp at h
 omega
theorem chkR_few {R : RollT} (h : chkR R = true) : few R := by
 obtain ⟨h1, h2, h3⟩ := chkR_true.1 h
 have a := chk_len h1 (fun y hy => limM hy)
 have b := chk_len h2 (fun y hy => limI hy)
 have c := chk_len h3 (fun y hy => limA hy)
 unfold few
 omega
structure Step (R R2 : RollT) : Prop where
 ok : chkR R2 = true
 m : R.M.length ≤ R2.M.length
 i : R.I.length ≤ R2.I.length
 a : R.A.length ≤ R2.A.length
def Ans (R : RollT) (X : Int × RollT) : Prop := (X.1 = 0 ∧ Step R X.2) ∨ (X.1 ≠ 0 ∧ X.2 = .nil)
theorem admitR_ans {R : RollT} (h : chkR R = true) (who need : Int) : Ans R (admitR R who need) := by
 obtain ⟨h1, h2, h3⟩ := chkR_true.1 h
 unfold admitR
 rw [if_neg (by simp [h])]
 by_cases c1 : rightM ⟨who, 1, need⟩ = false
 ·
  rw [if_pos c1]; exact .inr ⟨by decide, rfl⟩
 ·
  rw [if_neg c1]
  by_cases c2 : hasB MbT.no who R.M = true
  ·
   rw [if_pos c2]; exact .inr ⟨by decide, rfl⟩
  ·
   rw [if_neg c2]
   exact .inl ⟨rfl, chkR_true.2 ⟨h1.put (by simpa using c1), h2, h3⟩, putL_len, Nat.le_refl _, Nat.le_refl _⟩
end Cam
