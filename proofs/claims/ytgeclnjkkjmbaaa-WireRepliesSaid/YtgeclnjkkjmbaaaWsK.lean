import Derived.Test.YtgeclnjkkjmbaaaWsJ
/- wire's reading and the page's end alike. No program in sight. -/
namespace Cam
open Go Go.RowKit Go.Proofs

theorem rI_stick {s : RS} (h : s.2 ≠ 0) : (rI s).2.2 ≠ 0 := by rw [rI_err s h]; exact h
theorem rIs_stick (k : Nat) {s : RS} (h : s.2 ≠ 0) : (rIs k s).2.2 ≠ 0 := by
  induction k with
  | zero => exact h
  | succ k ih => exact rI_stick ih
/-- a reader that goes on to fail -/
def Sticks {α : Type} (rd : RS → α × RS) : Prop := ∀ s : RS, s.2 ≠ 0 → (rd s).2.2 ≠ 0
theorem sticks_DT : Sticks rdDT := fun _ h => rIs_stick 3 h
theorem sticks_FT : Sticks rdFT := fun _ h => rIs_stick 8 h
theorem rRs_stick {α : Type} {rd : RS → α × RS} (hs : Sticks rd) {j : Nat} {s : RS} (h : (rRs rd j s).2.2 ≠ 0) : ∀ m, (rRs rd (j + m) s).2.2 ≠ 0
  | 0 => h
  | m + 1 => hs _ (rRs_stick hs h m)
theorem rI_zero {s : RS} (h : (rI s).2.2 ≠ 0) : (rI s).1 = 0 := by
  unfold rI at *
  split
  · rfl
  · next h0 =>
    rw [if_neg h0] at h
    cases hv : vdec 0 1 0 s.1 with
    | none => rfl
    | some z => rw [hv] at h; exact absurd rfl h
/-- wire's reader (wb: a list was too long) and the page's: both go on alike, or both fail -/
def Inv (wb : Bool) (s p : RS) : Prop := (wb = false ∧ s.2 = 0 ∧ p = s) ∨ ((wb = true ∨ s.2 ≠ 0) ∧ p.2 ≠ 0)
theorem Inv.start (l : List UInt8) : Inv false (l, 0) (l, 0) := .inl ⟨rfl, rfl, rfl⟩
theorem Inv.of_eq {s p : RS} (h : p = s) : Inv false s p := by
  subst h
  by_cases h0 : p.2 = 0
  · exact .inl ⟨rfl, h0, rfl⟩
  · exact .inr ⟨.inr h0, h0⟩
theorem Inv.ints {wb : Bool} {s p : RS} (k : Nat) (h : Inv wb s p) : Inv wb (rIs k s).2 (rIs k p).2 := by
  rcases h with ⟨rfl, h2, rfl⟩ | ⟨h1, h2⟩
  · exact Inv.of_eq rfl
  · refine .inr ⟨h1.imp id (fun h => rIs_stick k h), rIs_stick k h2⟩
/-- what holds at a good end held ahead of it -/
def Good (wb : Bool) (s : RS) : Prop := wb = false ∧ s.2 = 0
theorem Inv.good {wb : Bool} {s p : RS} (h : Inv wb s p) (hg : Good wb s) : p = s := by
  rcases h with ⟨_, _, h⟩ | ⟨h, _⟩
  · exact h
  · rcases h with h | h
    · rw [hg.1] at h; cases h
    · exact absurd hg.2 h
theorem Good.ints {wb : Bool} {s : RS} (k : Nat) (h : Good wb (rIs k s).2) : Good wb s := ⟨h.1, Decidable.byContradiction fun hn => rIs_stick k hn h.2⟩
theorem elL_stick {α : Type} {rd : RS → α × RS} (wb : Bool) {s : RS} (h : s.2 ≠ 0) : (elL rd wb s).2.2 ≠ 0 := by
  unfold elL
  rw [rI_err s h]
  split
  · exact h
  · exact h
theorem Good.list {α : Type} {rd : RS → α × RS} {wb : Bool} {s : RS} (h : Good (elW wb (rI s).1) (elL rd wb s).2) : Good wb s := by
  refine ⟨?_, Decidable.byContradiction fun hn => elL_stick wb hn h.2⟩
  have := h.1
  unfold elW at this
  cases wb
  · rfl
  · simp at this
theorem Inv.list {α : Type} {rd : RS → α × RS} (hs : Sticks rd) {wb : Bool} {s p p' : RS} {L : List α} (h : Inv wb s p) (hq : QL rd p L p') :
    Inv (elW wb (rI s).1) (elL rd wb s).2 p' ∧ (Good (elW wb (rI s).1) (elL rd wb s).2 → L = (elL rd wb s).1) := by
  obtain ⟨j, hj, rfl, rfl, hor⟩ := hq
  rcases h with ⟨rfl, h2, rfl⟩ | ⟨h1, h2⟩
  · by_cases h0 : (rI p).2.2 = 0
    · by_cases hb : (rI p).1 < 0 ∨ 1024 < (rI p).1
      · have hm : mny p = (0, ((rI p).2.1, 4)) := by unfold mny; rw [if_pos h0, if_pos hb]
        have hE : elW false (rI p).1 = true := by unfold elW; simp; exact hb
        rw [hm] at hj ⊢
        obtain rfl : j = 0 := by simpa using hj
        refine ⟨.inr ⟨.inl hE, by simp [rRs]⟩, fun hg => ?_⟩
        rw [hE] at hg
        exact absurd hg.1 (by decide)
      · have hm : mny p = rI p := by unfold mny; rw [if_pos h0, if_neg hb]
        have hE : elW false (rI p).1 = false := by unfold elW; simp; omega
        have hL : elL rd false p = rRs rd (rI p).1.toNat (rI p).2 := by unfold elL; rw [hE]; simp
        rw [hm] at hj hor ⊢
        rw [hL, hE]
        by_cases he : j = (rI p).1.toNat
        · rw [he]
          exact ⟨Inv.of_eq rfl, fun _ => rfl⟩
        · have h3 := hor.resolve_left he
          obtain ⟨m, hm2⟩ : ∃ m, (rI p).1.toNat = j + m := ⟨(rI p).1.toNat - j, by omega⟩
          rw [hm2]
          have h4 := rRs_stick hs h3 m
          exact ⟨.inr ⟨.inr h4, h3⟩, fun hg => absurd hg.2 h4⟩
    · have hz := rI_zero h0
      have hm : mny p = (0, (rI p).2) := by unfold mny; rw [if_neg h0]
      have hE : elW false (rI p).1 = false := by unfold elW; rw [hz]; simp
      have hL : elL rd false p = ([], (rI p).2) := by unfold elL; rw [hE, hz]; simp [rRs]
      rw [hm] at hj ⊢
      obtain rfl : j = 0 := by simpa using hj
      rw [hL, hE]
      exact ⟨Inv.of_eq rfl, fun _ => rfl⟩
  · have hm : mny p = (0, p) := by unfold mny; rw [rI_err p h2, if_neg h2]
    rw [hm] at hj ⊢
    obtain rfl : j = 0 := by simpa using hj
    have hbad : elW wb (rI s).1 = true ∨ (elL rd wb s).2.2 ≠ 0 := by
      rcases h1 with h1 | h1
      · exact .inl (by unfold elW; rw [h1]; simp)
      · exact .inr (elL_stick wb h1)
    refine ⟨.inr ⟨hbad, h2⟩, fun hg => ?_⟩
    rcases hbad with h | h
    · rw [hg.1] at h; cases h
    · exact absurd hg.2 h
theorem rIs_good {wb : Bool} {s p : RS} (h : Inv wb s p) (hg : Good wb s) (k : Nat) : rIs k p = rIs k s := by rw [h.good hg]
theorem dE_zero {wb : Bool} {s : RS} : dE wb s = 0 ↔ wb = false ∧ rD s = 0 := by
  unfold dE
  cases wb <;> by_cases h : rD s = 0 <;> simp [h]
theorem rD_zero {s : RS} (h : rD s = 0) : s.2 = 0 := by
  unfold rD at h
  split at h
  · next h0 => exact h0
  · exact h
theorem Inv.done {wb : Bool} {s p : RS} (h : Inv wb s p) : (dE wb s = 0 ↔ rD p = 0) ∧ (dE wb s = 0 → Good wb s) := by
  refine ⟨?_, fun hd => ⟨(dE_zero.1 hd).1, rD_zero (dE_zero.1 hd).2⟩⟩
  rcases h with ⟨rfl, h2, rfl⟩ | ⟨h1, h2⟩
  · rw [dE_zero]
    exact ⟨fun h => h.2, fun h => ⟨rfl, h⟩⟩
  · constructor
    · intro hd
      have h3 := dE_zero.1 hd
      rcases h1 with h1 | h1
      · rw [h3.1] at h1; cases h1
      · exact absurd (rD_zero h3.2) h1
    · intro hd
      exact absurd (rD_zero hd) h2
/-- a reply, read both ways -/
theorem Inv.rep {wb : Bool} {s p p' : RS} {x : RepT} (h : Inv wb s p) (hq : QRep p x p') : Inv (rpW wb s) (rpF wb s).2 p' ∧ (Good (rpW wb s) (rpF wb s).2 → x = rpT wb s) := by
  obtain ⟨D, s1, F, h1, h2, rfl⟩ := hq
  have i1 := Inv.list sticks_DT (h.ints 3) h1
  have i2 := Inv.list sticks_FT i1.1 h2
  refine ⟨i2.1, fun hg => ?_⟩
  have g1 : Good (rpV wb s) (rpD wb s).2 := Good.list (rd := rdFT) hg
  have g0 : Good wb (rIs 3 s).2 := Good.list (rd := rdDT) g1
  have e0 := rIs_good h (Good.ints 3 g0) 3
  unfold rpT
  rw [e0, i1.2 g1, i2.2 hg]
  rfl
theorem Good.rep {wb : Bool} {s : RS} (h : Good (rpW wb s) (rpF wb s).2) : Good wb s := Good.ints 3 (Good.list (rd := rdDT) (Good.list (rd := rdFT) h))
end Cam
