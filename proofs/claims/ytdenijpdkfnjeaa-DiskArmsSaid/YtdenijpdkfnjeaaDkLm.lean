import Derived.Test.YtdenijpdkfnjeaaDkLr
/- cambistlaw06: DiskArms. -/
namespace Cam
open Go Go.RowKit Go.Proofs

def dWrite (D : DK) (k : Nat) (b : List UInt8) : Int × DK := if D.off = true then (7, D) else (if (dLast (dPut D k b)).1 = true then 7 else 0, (dLast (dPut D k b)).2)
set_option maxHeartbeats 1600000 in
theorem Write_any (w : World) (g gs gn : Nat) (vo : Value) (n : Nat) (D : DK) (h : DM w g gs gn vo n D) (k : Nat) (b : List UInt8) (hk : k < n) (hb : b.length = 64) (hf : D.op.length < 1000000) :
    Calls Try.prog 10 #[.pointer (some ⟨g, 0, none⟩), .int .i64 (k : Int), .agg (bvs b).toArray] w fun e w' => e = .returned (.int .i64 (dWrite D k b).1) ∧ DPost w g gs gn vo n (dWrite D k b).2 w' := by
  by_cases hoff : D.off = true
  · have e : dWrite D k b = (7, D) := by unfold dWrite; rw [if_pos hoff]
    rw [e]
    have hA := h.alloc (.cells (bvs b).toArray 29)
    have hri := right_any _ g gs gn vo n D hA (k : Int)
    rw [show dRight n D (k : Int) = 7 by unfold dRight; rw [if_pos hoff]] at hri
    have HA := Lib.hid hA
    clear hA h hoff e hb hf
    go_enter Try.func10, Try.ntmps10
    go_wp2_with fail
    refine hri.mono ?_
    rintro e w1 ⟨rfl, rfl⟩
    go_wp2_with fail
    go_ret
    exact ⟨rfl, vo, HA.out, (Kept.refl _ w).alloc _, fun j hj => .inl hj⟩
  · have e : dWrite D k b = (if (dLast (dPut D k b)).1 = true then 7 else 0, (dLast (dPut D k b)).2) := by unfold dWrite; rw [if_neg hoff]
    rw [e]
    exact Write_ok w g gs gn vo n D h k b (by simpa using hoff) hk hb hf

/-- what a write or a sync answers at step i -/
def wantA (n : Int) (i : Nat) : Int := if 0 < n ∧ n - 1 ≤ (i : Int) then 7 else 0
/-- the disk behind i steps -/
def ArmI (n : Int) (i : Nat) (D : DK) : Prop :=
  ((n ≤ 0 ∧ D.off = false ∧ D.arm = 0) ∨ (0 < n ∧ (i : Int) < n ∧ D.off = false ∧ D.arm = n - i) ∨ (0 < n ∧ n ≤ (i : Int) ∧ D.off = true ∧ D.torn = true)) ∧
  D.syn[3]? = some (fill64 9) ∧ D.now[3]? = some (fill64 9) ∧ (∀ x ∈ D.op, x.1 ≠ 3) ∧ D.op.length ≤ i
theorem sets_get (s : List (List UInt8)) (l : List (Nat × List UInt8)) {j : Nat} (h : ∀ x ∈ l, x.1 ≠ j) : (sets s l)[j]? = s[j]? := by
  induction l generalizing s with
  | nil => rfl
  | cons x l ih =>
    show (sets (s.set x.1 x.2) l)[j]? = _
    rw [ih _ (fun y hy => h y (by simp [hy])), List.getElem?_set_ne (h x (by simp))]
theorem dLast_zero {D : DK} (h : D.arm = 0) : dLast D = (false, D) := by unfold dLast; rw [if_pos h]
theorem dLast_more {D : DK} (h : 1 < D.arm) : dLast D = (false, { D with arm := D.arm - 1 }) := by unfold dLast; rw [if_neg (by omega), if_pos h]
theorem dLast_one {D : DK} (h : D.arm = 1) : dLast D = (true, { D with arm := D.arm - 1, off := true, torn := true }) := by unfold dLast; rw [if_neg (by omega), if_neg (by omega)]

theorem ArmI.sync {n : Int} {i : Nat} {D : DK} (h : ArmI n i D) : (dSync D).1 = wantA n i ∧ ArmI n (i + 1) (dSync D).2 := by
  obtain ⟨h1, hs, hn, ho, hl⟩ := h
  rcases h1 with ⟨a, b, c⟩ | ⟨a, a2, b, c⟩ | ⟨a, a2, b, c⟩
  · have e : dSync D = (0, { D with syn := sets D.syn D.op, op := [] }) := by unfold dSync; rw [if_neg (by simp [b]), dLast_zero c]; rfl
    rw [e]
    refine ⟨by unfold wantA; rw [if_neg (by omega)], .inl ⟨a, b, c⟩, ?_, hn, (fun x hx => by cases hx), by simp⟩
    show (sets D.syn D.op)[3]? = _
    rw [sets_get _ _ ho, hs]
  · by_cases h1 : D.arm = 1
    · have e : dSync D = (7, { D with arm := D.arm - 1, off := true, torn := true }) := by unfold dSync; rw [if_neg (by simp [b]), dLast_one h1]; rfl
      rw [e]
      exact ⟨by unfold wantA; rw [if_pos (by omega)], .inr (.inr ⟨a, by push_cast; omega, rfl, rfl⟩), hs, hn, ho, Nat.le_succ_of_le hl⟩
    · have e : dSync D = (0, { D with arm := D.arm - 1, syn := sets D.syn D.op, op := [] }) := by unfold dSync; rw [if_neg (by simp [b]), dLast_more (by omega)]; rfl
      rw [e]
      refine ⟨by unfold wantA; rw [if_neg (by omega)], .inr (.inl ⟨a, by push_cast; omega, b, by show D.arm - 1 = _; push_cast; omega⟩), ?_, hn, (fun x hx => by cases hx), by simp⟩
      show (sets D.syn D.op)[3]? = _
      rw [sets_get _ _ ho, hs]
  · have e : dSync D = (7, D) := by unfold dSync; rw [if_pos b]
    rw [e]
    exact ⟨by unfold wantA; rw [if_pos (by omega)], .inr (.inr ⟨a, by push_cast; omega, b, c⟩), hs, hn, ho, Nat.le_succ_of_le hl⟩
theorem ArmI.write {n : Int} {i : Nat} {D : DK} (h : ArmI n i D) {k : Nat} (hk : k ≠ 3) (b : List UInt8) : (dWrite D k b).1 = wantA n i ∧ ArmI n (i + 1) (dWrite D k b).2 := by
  obtain ⟨h1, hs, hn, ho, hl⟩ := h
  have hn' : (dPut D k b).now[3]? = some (fill64 9) := by show (D.now.set k b)[3]? = _; rw [List.getElem?_set_ne hk, hn]
  have ho' : ∀ x ∈ (dPut D k b).op, x.1 ≠ 3 := by
    intro x hx
    rcases List.mem_append.1 (show x ∈ D.op ++ [(k, b)] from hx) with h | h
    · exact ho x h
    · simp at h
      subst h
      exact hk
  have hl' : (dPut D k b).op.length ≤ i + 1 := by show (D.op ++ [_]).length ≤ _; rw [List.length_append]; simp; omega
  rcases h1 with ⟨a, b1, c⟩ | ⟨a, a2, b1, c⟩ | ⟨a, a2, b1, c⟩
  · have e : dWrite D k b = (0, dPut D k b) := by unfold dWrite; rw [if_neg (by simp [b1]), dLast_zero (show (dPut D k b).arm = 0 from c)]; rfl
    rw [e]
    exact ⟨by unfold wantA; rw [if_neg (by omega)], .inl ⟨a, b1, c⟩, hs, hn', ho', hl'⟩
  · by_cases h1 : D.arm = 1
    · have e : dWrite D k b = (7, { dPut D k b with arm := D.arm - 1, off := true, torn := true }) := by unfold dWrite; rw [if_neg (by simp [b1]), dLast_one (show (dPut D k b).arm = 1 from h1)]; rfl
      rw [e]
      exact ⟨by unfold wantA; rw [if_pos (by omega)], .inr (.inr ⟨a, by push_cast; omega, rfl, rfl⟩), hs, hn', ho', hl'⟩
    · have e : dWrite D k b = (0, { dPut D k b with arm := D.arm - 1 }) := by unfold dWrite; rw [if_neg (by simp [b1]), dLast_more (show 1 < (dPut D k b).arm by show 1 < D.arm; omega)]; rfl
      rw [e]
      exact ⟨by unfold wantA; rw [if_neg (by omega)], .inr (.inl ⟨a, by push_cast; omega, b1, by show D.arm - 1 = _; push_cast; omega⟩), hs, hn', ho', hl'⟩
  · have e : dWrite D k b = (7, D) := by unfold dWrite; rw [if_pos b1]
    rw [e]
    exact ⟨by unfold wantA; rw [if_pos (by omega)], .inr (.inr ⟨a, by push_cast; omega, b1, c⟩), hs, hn, ho, Nat.le_succ_of_le hl⟩
theorem ArmI.fin {n : Int} {i : Nat} {D : DK} (h : ArmI n i D) : D.off = decide (0 < n ∧ n ≤ (i : Int)) ∧ (dStart D).off = false ∧ (dStart D).now[3]? = some (fill64 9) := by
  obtain ⟨h1, hs, hn, ho, hl⟩ := h
  rcases h1 with ⟨a, b, c⟩ | ⟨a, a2, b, c⟩ | ⟨a, a2, b, c⟩
  · rw [dStart_on b]
    exact ⟨by rw [b]; exact (decide_eq_false (by omega)).symm, b, hn⟩
  · rw [dStart_on b]
    exact ⟨by rw [b]; exact (decide_eq_false (by omega)).symm, b, hn⟩
  · refine ⟨by rw [b]; exact (decide_eq_true (by omega)).symm, by simp [dStart, b, c], ?_⟩
    simp only [dStart, b, c, and_self, if_true]
    show (crashTo D.op [] D.syn D.op.length)[3]? = _
    rw [crashTo_get [] D.syn ho, hs]

end Cam
