import Derived.Test.YtilbijekmmkiaaaRlA
/- A roll rebuilt number by number: the plain law. No program in sight. -/
namespace Cam
open Go
section
variable {α : Type}
def insL (no : α → Int) (x : α) : List α → List α
 | [] => [x]
 | y :: L => if no y < no x then y :: insL no x L else if no y = no x then x :: L else x :: y :: L
theorem putL_insL (no : α → Int) (x : α) : ∀ L : List α, putL no x L = insL no x L
 | [] => by simp [putL, atL, insL]
 | y :: L => by
  have ih := putL_insL no x L
  by_cases h : no y < no x
  ·
   have ha : atL no (no x) (y :: L) = atL no (no x) L + 1 := by
    show (if no y < no x then atL no (no x) L + 1 else 0) = _
    rw [if_pos h]
   unfold insL
   rw [if_pos h, ← ih]
   unfold putL
   rw [ha]
   by_cases c : ∃ h : atL no (no x) L < L.length, no L[atL no (no x) L] = no x
   ·
    rw [if_pos c, if_pos (by obtain ⟨h1, h2⟩ := c; exact ⟨by simpa using h1, by simpa using h2⟩)]
    rfl
   ·
    rw [if_neg c, if_neg (by rintro ⟨h1, h2⟩; exact c ⟨by simpa using h1, by simpa using h2⟩)]
    rfl
  ·
   have ha : atL no (no x) (y :: L) = 0 := by
    show (if no y < no x then atL no (no x) L + 1 else 0) = _
    rw [if_neg h]
   unfold insL
   rw [if_neg h]
   unfold putL
   rw [ha]
   by_cases c : no y = no x
   ·
    rw [if_pos c, if_pos ⟨by simp, by simpa using c⟩]
    rfl
   ·
    rw [if_neg c, if_neg (by rintro ⟨_, h2⟩; exact c (by simpa using h2))]
    rfl
def Srt (no : α → Int) (L : List α) : Prop := L.Pairwise (fun a b => no a < no b)
theorem ChkP.srt {right : α → Bool} {no : α → Int} {L : List α} (h : ChkP right no L) : Srt no L := by
 unfold Srt
 rw [List.pairwise_iff_getElem]
 intro i j hi hj hij
 exact h.mono hij hj
theorem ChkP.all {right : α → Bool} {no : α → Int} {L : List α} (h : ChkP right no L) : ∀ y ∈ L, right y = true := by
 intro y hy
 obtain ⟨k, hk, rfl⟩ := List.getElem_of_mem hy
 exact (h k hk).1
theorem insL_mem {no : α → Int} {x y : α} : ∀ {L : List α}, y ∈ insL no x L → y = x ∨ y ∈ L
 | [], h => by simp [insL] at h; exact .inl h
 | z :: L, h => by
  unfold insL at h
  split at h
  ·
   rcases List.mem_cons.1 h with rfl | h
   ·
    exact .inr (by simp)
   ·
    rcases insL_mem h with h | h
    ·
     exact .inl h
    ·
     exact .inr (by simp [h])
  ·
   split at h
   ·
    rcases List.mem_cons.1 h with rfl | h
    ·
     exact .inl rfl
    ·
     exact .inr (by simp [h])
   ·
    rcases List.mem_cons.1 h with rfl | h
    ·
     exact .inl rfl
    ·
     exact .inr h
theorem insL_srt {no : α → Int} {x : α} : ∀ {L : List α}, Srt no L → Srt no (insL no x L)
 | [], _ => by simp [insL, Srt]
 | z :: L, h => by
  obtain ⟨h1, h2⟩ := List.pairwise_cons.1 h
  unfold insL
  split
  ·
   next hz =>
   refine List.pairwise_cons.2 ⟨fun b hb => ?_, insL_srt h2⟩
   rcases insL_mem hb with rfl | hb
   ·
    exact hz
   ·
    exact h1 b hb
  ·
   next hz =>
   split
   ·
    next he => exact List.pairwise_cons.2 ⟨fun b hb => by have := h1 b hb; omega, h2⟩
   ·
    next he => exact List.pairwise_cons.2 ⟨fun b hb => by
     rcases List.mem_cons.1 hb with rfl | hb
     ·
      omega
     ·
      have := h1 b hb; omega, h⟩
def upTo (no : α → Int) (k : Int) (L : List α) : List α := L.filter (fun y => decide (no y ≤ k))
def eqTo (no : α → Int) (k : Int) (L : List α) : List α := L.filter (fun y => decide (no y = k))
theorem upTo_next {no : α → Int} {k : Int} : ∀ {L : List α}, Srt no L → upTo no (k + 1) L = upTo no k L ++ eqTo no (k + 1) L
 | [], _ => rfl
 | y :: L, h => by
  obtain ⟨h1, h2⟩ := List.pairwise_cons.1 h
  have ih := upTo_next (k := k) h2
  unfold upTo eqTo at *
  by_cases c1 : no y ≤ k
  ·
   simp only [List.filter_cons, show no y ≤ k + 1 by omega, c1, show ¬ no y = k + 1 by omega, decide_true, decide_false, if_true, Bool.false_eq_true, if_false, List.cons_append]
   rw [ih]
  ·
   have e1 : L.filter (fun y => decide (no y ≤ k)) = [] := List.filter_eq_nil_iff.2 (fun b hb => by have := h1 b hb; simp; omega)
   by_cases c2 : no y = k + 1
   ·
    have e2 : L.filter (fun y => decide (no y = k + 1)) = [] := List.filter_eq_nil_iff.2 (fun b hb => by have := h1 b hb; simp; omega)
    simp only [List.filter_cons, c2, decide_true, if_true]
    rw [ih, e1, e2]
    simp <;> omega
   ·
    have e2 : L.filter (fun y => decide (no y = k + 1)) = [] := List.filter_eq_nil_iff.2 (fun b hb => by have := h1 b hb; simp; omega)
    simp only [List.filter_cons, show ¬ no y ≤ k + 1 by omega, c1, c2, decide_false, Bool.false_eq_true, if_false]
    rw [ih, e1, e2]
theorem eqTo_fd {no : α → Int} (z : α) {n : Int} : ∀ {L : List α}, Srt no L → eqTo no n L = if hasB no n L = true then [fdX no z n L] else [] := by
 intro L h
 rcases has_cases no z n L with ⟨k, hk, he, hN, _, hx, hb⟩ | ⟨hN, _, _, hb⟩
 ·
  rw [if_pos hb, hx]
  unfold Srt at h
  rw [List.pairwise_iff_getElem] at h
  obtain ⟨c, hc⟩ : ∃ c, c = L[k] := ⟨_, rfl⟩
  have hs : L = L.take k ++ c :: L.drop (k + 1) := by rw [hc, ← List.drop_eq_getElem_cons hk, List.take_append_drop]
  have hf : L.filter (fun y => decide (no y = n)) = (L.take k).filter (fun y => decide (no y = n)) ++ (c :: L.drop (k + 1)).filter (fun y => decide (no y = n)) := by rw [← List.filter_append, ← hs]
  unfold eqTo
  rw [hf, List.filter_cons]
  have e1 : (L.take k).filter (fun y => decide (no y = n)) = [] := List.filter_eq_nil_iff.2 (fun b hb => by
   obtain ⟨i, hi, rfl⟩ := List.getElem_of_mem hb
   rw [List.length_take] at hi
   rw [List.getElem_take]
   have := hN i (by omega) (by omega)
   simpa using this)
  have e2 : (L.drop (k + 1)).filter (fun y => decide (no y = n)) = [] := List.filter_eq_nil_iff.2 (fun b hb => by
   obtain ⟨i, hi, rfl⟩ := List.getElem_of_mem hb
   rw [List.length_drop] at hi
   rw [List.getElem_drop]
   have := h k (k + 1 + i) hk (by omega) (by omega)
   simp
   omega)
  rw [e1, e2]
  have e3 : decide (no c = n) = true := by rw [hc]; simpa using he
  rw [e3, if_pos rfl, hc]
  rfl
 ·
  rw [hb, if_neg (by decide)]
  exact List.filter_eq_nil_iff.2 (fun b hb => by
   obtain ⟨i, hi, rfl⟩ := List.getElem_of_mem hb
   simpa using hN i hi hi)
theorem eqTo_ins {no : α → Int} {x : α} {n : Int} : ∀ {L : List α}, Srt no L → eqTo no n (insL no x L) = if n = no x then [x] else eqTo no n L
 | [], _ => by
  unfold insL eqTo
  by_cases h : n = no x
  ·
   simp [h]
  ·
   simp [h, show ¬ no x = n from fun e => h e.symm]
 | z :: L, h => by
  obtain ⟨h1, h2⟩ := List.pairwise_cons.1 h
  have ih := eqTo_ins (x := x) (n := n) h2
  have key : ∀ (b : α) (M : List α), (∀ y ∈ M, no b < no y) → n = no b → eqTo no n (b :: M) = [b] := fun b M hM hb => by
   unfold eqTo
   rw [List.filter_cons, if_pos (by simpa using hb.symm), List.filter_eq_nil_iff.2 (fun y hy => by have := hM y hy; simp; omega)]
  have skip : ∀ (b : α) (M : List α), ¬ no b = n → eqTo no n (b :: M) = eqTo no n M := fun b M hb => by
   unfold eqTo
   rw [List.filter_cons, if_neg (by simpa using hb)]
  unfold insL
  split
  ·
   next hz =>
   by_cases c : n = no x
   ·
    rw [skip _ _ (by omega), ih, if_pos c, if_pos c]
   ·
    rw [if_neg c]
    by_cases c2 : no z = n
    ·
     have e : ∀ M : List α, eqTo no n (z :: M) = z :: eqTo no n M := fun M => by unfold eqTo; rw [List.filter_cons, if_pos (by simpa using c2)]
     rw [e, e, ih, if_neg c]
    ·
     rw [skip _ _ c2, skip _ _ c2, ih, if_neg c]
  ·
   next hz =>
   split
   ·
    next he =>
    by_cases c : n = no x
    ·
     rw [if_pos c]
     exact key x L (fun y hy => by have := h1 y hy; omega) c
    ·
     rw [if_neg c, skip _ _ (by omega), skip _ _ (by omega)]
   ·
    next he =>
    by_cases c : n = no x
    ·
     rw [if_pos c]
     exact key x (z :: L) (fun y hy => by
      rcases List.mem_cons.1 hy with rfl | hy
      ·
       omega
      ·
       have := h1 y hy; omega) c
    ·
     rw [if_neg c, skip _ _ (by omega)]
def reb (no : α → Int) (x : α) (L : List α) (k : Nat) : List α := upTo no k (putL no x L)
theorem reb_zero {no : α → Int} {x : α} {L : List α} (hx : 1 ≤ no x) (hL : ∀ y ∈ L, 1 ≤ no y) : reb no x L 0 = [] := by
 unfold reb upTo
 rw [putL_insL]
 exact List.filter_eq_nil_iff.2 (fun y hy => by
  rcases insL_mem hy with rfl | hy
  ·
   simp; omega
  ·
   have := hL y hy; simp; omega)
theorem reb_all {no : α → Int} {x : α} {L : List α} {N : Nat} (hx : no x ≤ N) (hL : ∀ y ∈ L, no y ≤ N) : reb no x L N = putL no x L := by
 unfold reb upTo
 rw [putL_insL]
 exact List.filter_eq_self.2 (fun y hy => by
  rcases insL_mem hy with rfl | hy
  ·
   simpa using hx
  ·
   simpa using hL y hy)
theorem reb_next {no : α → Int} {x : α} {L : List α} {k : Nat} (z : α) (h : Srt no L) : reb no x L (k + 1) = reb no x L k ++ (if ((k : Int) + 1) = no x then [x] else if hasB no ((k : Int) + 1) L = true then [fdX no z ((k : Int) + 1) L] else []) := by
 unfold reb
 rw [putL_insL]
 have h1 := upTo_next (k := (k : Int)) (insL_srt (x := x) h)
 rw [show ((k + 1 : Nat) : Int) = (k : Int) + 1 by omega, h1, eqTo_ins h, eqTo_fd z h]
theorem reb_len {no : α → Int} {x : α} {L : List α} {k : Nat} : (reb no x L k).length ≤ L.length + 1 := by
 unfold reb upTo
 rw [putL_insL]
 refine Nat.le_trans (List.length_filter_le _ _) ?_
 induction L with
 | nil => simp [insL]
 | cons y L ih =>
  unfold insL
  split
  ·
   simpa using ih
  ·
   split <;> simp
end
end Cam
