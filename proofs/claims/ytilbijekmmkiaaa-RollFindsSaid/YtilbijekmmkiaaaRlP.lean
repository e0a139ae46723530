import Derived.Test.YtilbijekmmkiaaaRlX
import Derived.Test.YtilbijekmmkiaaaRlU
import Derived.Test.YtilbijekmmkiaaaRlH
/- Rolls that are right, and what acts make of them: plain laws. -/
namespace Cam
open Go

section
variable {α : Type} {right : α → Bool} {no : α → Int} {L : List α} {x : α}
theorem ChkP.of (ha : ∀ y ∈ L, right y = true) (hs : Srt no L) : ChkP right no L := fun k h => ⟨ha _ (List.getElem_mem h), fun h0 => by
  unfold Srt at hs
  rw [List.pairwise_iff_getElem] at hs
  exact hs (k - 1) k (by omega) h (by omega)⟩
theorem ChkP.put (h : ChkP right no L) (hx : right x = true) : ChkP right no (putL no x L) := by
  rw [putL_insL]
  refine ChkP.of (fun y hy => ?_) (insL_srt h.srt)
  rcases insL_mem hy with rfl | hy
  · exact hx
  · exact h.all y hy
theorem insL_len : ∀ {L : List α}, L.length ≤ (insL no x L).length
  | [] => by simp
  | y :: L => by
    have ih := insL_len (L := L)
    unfold insL
    by_cases h1 : no y < no x
    · rw [if_pos h1]; simp; exact ih
    · rw [if_neg h1]
      by_cases h2 : no y = no x
      · rw [if_pos h2]; simp
      · rw [if_neg h2]; simp
theorem putL_len : L.length ≤ (putL no x L).length := by
  rw [putL_insL]
  exact insL_len
theorem insL_self : ∀ {L : List α}, x ∈ insL no x L
  | [] => by simp [insL]
  | y :: L => by
    have ih := insL_self (L := L)
    unfold insL
    by_cases h1 : no y < no x
    · rw [if_pos h1]; exact List.mem_cons_of_mem _ ih
    · rw [if_neg h1]
      by_cases h2 : no y = no x
      · rw [if_pos h2]; exact List.mem_cons_self ..
      · rw [if_neg h2]; exact List.mem_cons_self ..
theorem putL_self : x ∈ putL no x L := by
  rw [putL_insL]
  exact insL_self
theorem chk_ge (h : ChkP right no L) (hN : ∀ y, right y = true → 1 ≤ no y) : ∀ (k : Nat) (hk : k < L.length), (k : Int) + 1 ≤ no L[k]
  | 0, hk => by have := hN _ (h 0 hk).1; omega
  | k + 1, hk => by
    have h1 := chk_ge h hN k (by omega)
    have h2 := (h (k + 1) hk).2 (by omega)
    have h3 : no (L[k + 1 - 1]'(by omega)) = no (L[k]'(by omega)) := rfl
    omega
theorem chk_len {N : Nat} (h : ChkP right no L) (hN : ∀ y, right y = true → 1 ≤ no y ∧ no y ≤ N) : L.length ≤ N := by
  rcases Nat.lt_or_ge N L.length with h1 | h1
  · have h2 := chk_ge h (fun y hy => (hN y hy).1) N h1
    have h3 := (hN _ (h N h1).1).2
    omega
  · exact h1
theorem fd_mem {z : α} {n : Int} (h : hasB no n L = true) : fdX no z n L ∈ L ∧ no (fdX no z n L) = n := by
  rcases has_cases no z n L with ⟨k, hk, h1, _, _, h2, _⟩ | ⟨_, _, _, h4⟩
  · rw [h2]; exact ⟨List.getElem_mem hk, h1⟩
  · rw [h] at h4; cases h4
theorem fd_of_mem {z : α} {n : Int} (hs : Srt no L) (hx : x ∈ L) (hn : no x = n) : fdX no z n L = x ∧ hasB no n L = true := by
  obtain ⟨i, hi, rfl⟩ := List.getElem_of_mem hx
  rcases has_cases no z n L with ⟨k, hk, h1, _, _, h2, h3⟩ | ⟨h1, _⟩
  · refine ⟨?_, h3⟩
    rw [h2]
    unfold Srt at hs
    rw [List.pairwise_iff_getElem] at hs
    rcases Nat.lt_trichotomy i k with h | h | h
    · have := hs i k hi hk h; omega
    · subst h; rfl
    · have := hs k i hk hi h; omega
  · exact absurd hn (h1 i hi hi)
theorem putL_at {n : Int} {z : α} (hs : Srt no L) (h : hasB no n L = true) (hx : no x = n) : ∃ k, ∃ _ : k < L.length, no L[k] = n ∧ L[k] = fdX no z n L ∧ putL no x L = L.set k x := by
  rcases has_cases no z n L with ⟨k, hk, h1, _, _, h2, _⟩ | ⟨_, _, _, h4⟩
  · refine ⟨k, hk, h1, h2.symm, putL_set hk (fun q hq hqk => ?_) (by omega)⟩
    unfold Srt at hs
    rw [List.pairwise_iff_getElem] at hs
    have := hs q k hq hk hqk
    omega
  · rw [h] at h4; cases h4
end
theorem chkR_true {R : RollT} : chkR R = true ↔ ChkP rightM MbT.no R.M ∧ ChkP rightI InT.no R.I ∧ ChkP rightA AsT.no R.A := by
  unfold chkR
  rw [Bool.and_eq_true, Bool.and_eq_true, chkB_true, chkB_true, chkB_true]
  exact and_assoc
theorem chkR_nil : chkR RollT.nil = true := chkR_true.2 ⟨fun k h => absurd h (by simp [RollT.nil]), fun k h => absurd h (by simp [RollT.nil]), fun k h => absurd h (by simp [RollT.nil])⟩
theorem limM {m : MbT} (h : rightM m = true) : 1 ≤ MbT.no m ∧ MbT.no m ≤ (16 : Nat) := by
  unfold rightM wB at h
  simp at h
  omega
theorem limI {i : InT} (h : rightI i = true) : 1 ≤ InT.no i ∧ InT.no i ≤ (8 : Nat) := by
  unfold rightI wB at h
  simp at h
  omega
theorem limA {a : AsT} (h : rightA a = true) : 1 ≤ AsT.no a ∧ AsT.no a ≤ (6 : Nat) := by
  unfold rightA wB at h
  simp at h
  omega
theorem chkR_few {R : RollT} (h : chkR R = true) : few R := by
  obtain ⟨h1, h2, h3⟩ := chkR_true.1 h
  have a := chk_len h1 (fun y hy => limM hy)
  have b := chk_len h2 (fun y hy => limI hy)
  have c := chk_len h3 (fun y hy => limA hy)
  unfold few
  omega
theorem rightI_set {i : InT} {p : Int} (h : rightI i = true) (hp : wB p 1 1073741824 = true) : rightI { i with set := p } = true := by
  unfold rightI at h ⊢
  simp only [Bool.and_eq_true] at h ⊢
  obtain ⟨⟨⟨⟨⟨⟨⟨⟨⟨⟨⟨a, b⟩, c⟩, d⟩, e⟩, f⟩, g1⟩, g2⟩, g3⟩, g4⟩, g5⟩, g6⟩ := h
  refine ⟨⟨⟨⟨⟨⟨⟨⟨⟨⟨⟨a, b⟩, c⟩, d⟩, e⟩, f⟩, g1⟩, g2⟩, g3⟩, g4⟩, ?_⟩, g6⟩
  unfold wB at hp ⊢
  simp at hp ⊢
  omega
theorem rightI_turn {i : InT} (h : rightI i = true) : rightI (turn1 i) = true := by
  unfold turn1
  by_cases h0 : i.set = 0
  · rw [if_pos h0]; exact h
  · rw [if_neg h0]
    unfold rightI at h ⊢
    simp only [Bool.and_eq_true] at h ⊢
    obtain ⟨⟨⟨⟨⟨⟨⟨⟨⟨⟨⟨a, b⟩, c⟩, d⟩, e⟩, f⟩, g1⟩, g2⟩, g3⟩, g4⟩, g5⟩, g6⟩ := h
    exact ⟨⟨⟨⟨⟨⟨⟨⟨⟨⟨⟨a, b⟩, c⟩, d⟩, e⟩, f⟩, g1⟩, g2⟩, g3⟩, g4⟩, by decide⟩, g5⟩
theorem rightM_state {m : MbT} {s : Int} (h : rightM m = true) (hp : wB s 1 3 = true) : rightM { m with state := s } = true := by
  unfold rightM wB at *
  simp at *
  omega
theorem turn1_no (i : InT) : (turn1 i).no = i.no := by
  unfold turn1
  by_cases h0 : i.set = 0
  · rw [if_pos h0]
  · rw [if_neg h0]
theorem turn1_turn1 (i : InT) : turn1 (turn1 i) = turn1 i := by
  unfold turn1
  by_cases h0 : i.set = 0
  · rw [if_pos h0, if_pos h0]
  · rw [if_neg h0, if_pos rfl]
theorem turnR_turnR (R : RollT) : turnR (turnR R) = turnR R := by
  unfold turnR
  simp [turn1_turn1]
theorem srt_map {L : List InT} (h : Srt InT.no L) : Srt InT.no (L.map turn1) := by
  unfold Srt at *
  rw [List.pairwise_map]
  exact h.imp (fun h => by rw [turn1_no, turn1_no]; exact h)
theorem turnR_ok {R : RollT} (h : chkR R = true) : chkR (turnR R) = true := by
  obtain ⟨h1, h2, h3⟩ := chkR_true.1 h
  refine chkR_true.2 ⟨h1, ChkP.of (fun y hy => ?_) (srt_map h2.srt), h3⟩
  obtain ⟨x, hx, rfl⟩ := List.mem_map.1 hy
  exact rightI_turn (h2.all x hx)
/-- a right roll that has no fewer of anything -/
structure Step (R R2 : RollT) : Prop where
  ok : chkR R2 = true
  m : R.M.length ≤ R2.M.length
  i : R.I.length ≤ R2.I.length
  a : R.A.length ≤ R2.A.length
/-- an answer: an error and nothing, or a right roll -/
def Ans (R : RollT) (X : Int × RollT) : Prop := (X.1 = 0 ∧ Step R X.2) ∨ (X.1 ≠ 0 ∧ X.2 = .nil)
theorem admitR_ans {R : RollT} (h : chkR R = true) (who need : Int) : Ans R (admitR R who need) := by
  obtain ⟨h1, h2, h3⟩ := chkR_true.1 h
  unfold admitR
  rw [if_neg (by simp [h])]
  by_cases c1 : rightM ⟨who, 1, need⟩ = false
  · rw [if_pos c1]; exact .inr ⟨by decide, rfl⟩
  · rw [if_neg c1]
    by_cases c2 : hasB MbT.no who R.M = true
    · rw [if_pos c2]; exact .inr ⟨by decide, rfl⟩
    · rw [if_neg c2]
      exact .inl ⟨rfl, chkR_true.2 ⟨h1.put (by simpa using c1), h2, h3⟩, putL_len, Nat.le_refl _, Nat.le_refl _⟩
theorem listR_ans {R : RollT} (h : chkR R = true) (i : InT) : Ans R (listR R i) := by
  obtain ⟨h1, h2, h3⟩ := chkR_true.1 h
  unfold listR
  rw [if_neg (by simp [h])]
  by_cases c1 : rightI { i with set := 0, price := 0 } = false
  · rw [if_pos c1]; exact .inr ⟨by decide, rfl⟩
  · rw [if_neg c1]
    by_cases c2 : hasB InT.no i.no R.I = true
    · rw [if_pos c2]; exact .inr ⟨by decide, rfl⟩
    · rw [if_neg c2]
      exact .inl ⟨rfl, chkR_true.2 ⟨h1, h2.put (by simpa using c1), h3⟩, Nat.le_refl _, putL_len, Nat.le_refl _⟩
theorem holdR_ans {R : RollT} (h : chkR R = true) (a : AsT) : Ans R (holdR R a) := by
  obtain ⟨h1, h2, h3⟩ := chkR_true.1 h
  unfold holdR
  rw [if_neg (by simp [h])]
  by_cases c1 : rightA a = false ∨ (hasB AsT.no a.no R.A = true ∧ (fdX AsT.no aZ a.no R.A).cur ≠ a.cur)
  · rw [if_pos c1]; exact .inr ⟨by decide, rfl⟩
  · rw [if_neg c1]
    have hr : rightA a = true := by
      cases hq : rightA a with
      | true => rfl
      | false => exact absurd (.inl hq) c1
    exact .inl ⟨rfl, chkR_true.2 ⟨h1, h2, h3.put hr⟩, Nat.le_refl _, Nat.le_refl _, putL_len⟩
theorem tellR_ans {R : RollT} (h : chkR R = true) (no price : Int) : Ans R (tellR R no price) := by
  obtain ⟨h1, h2, h3⟩ := chkR_true.1 h
  unfold tellR
  rw [if_neg (by simp [h])]
  by_cases c1 : hasB InT.no no R.I = false
  · rw [if_pos c1]; exact .inr ⟨by decide, rfl⟩
  · rw [if_neg c1]
    by_cases c2 : wB price 1 1073741824 = false
    · rw [if_pos c2]; exact .inr ⟨by decide, rfl⟩
    · rw [if_neg c2]
      have hb : hasB InT.no no R.I = true := by simpa using c1
      exact .inl ⟨rfl, chkR_true.2 ⟨h1, h2.put (rightI_set (h2.all _ (fd_mem hb).1) (by simpa using c2)), h3⟩, Nat.le_refl _, putL_len, Nat.le_refl _⟩
theorem stateR_ans {R : RollT} (h : chkR R = true) (who st : Int) : Ans R (stateR R who st) := by
  obtain ⟨h1, h2, h3⟩ := chkR_true.1 h
  unfold stateR
  rw [if_neg (by simp [h])]
  by_cases c1 : hasB MbT.no who R.M = false
  · rw [if_pos c1]; exact .inr ⟨by decide, rfl⟩
  · rw [if_neg c1]
    by_cases c2 : wB st 1 3 = false
    · rw [if_pos c2]; exact .inr ⟨by decide, rfl⟩
    · rw [if_neg c2]
      have hb : hasB MbT.no who R.M = true := by simpa using c1
      exact .inl ⟨rfl, chkR_true.2 ⟨h1.put (rightM_state (h1.all _ (fd_mem hb).1) (by simpa using c2)), h2, h3⟩, putL_len, Nat.le_refl _, Nat.le_refl _⟩
/-- a price that was told is the price behind a turn -/
theorem tell_turn {R : RollT} {no price : Int} (h : chkR R = true) (hb : hasB InT.no no R.I = true) (hp : wB price 1 1073741824 = true) :
    hasB InT.no no (turnR { R with I := putL InT.no { fdX InT.no iZ no R.I with set := price } R.I }).I = true ∧
    fdX InT.no iZ no (turnR { R with I := putL InT.no { fdX InT.no iZ no R.I with set := price } R.I }).I = { fdX InT.no iZ no R.I with set := 0, price := price } := by
  obtain ⟨h1, h2, h3⟩ := chkR_true.1 h
  have hm := fd_mem (z := iZ) hb
  have hs := (h2.put (rightI_set (h2.all _ hm.1) hp)).srt
  have h0 : price ≠ 0 := by unfold wB at hp; simp at hp; omega
  have e : turn1 { fdX InT.no iZ no R.I with set := price } = { fdX InT.no iZ no R.I with set := 0, price := price } := by
    unfold turn1
    rw [if_neg h0]
  have hx : { fdX InT.no iZ no R.I with set := 0, price := price } ∈ (putL InT.no { fdX InT.no iZ no R.I with set := price } R.I).map turn1 := by
    rw [← e]
    exact List.mem_map_of_mem putL_self
  have := fd_of_mem (z := iZ) (n := no) (srt_map hs) hx hm.2
  exact ⟨this.2, this.1⟩
theorem thoseR_one {R : RollT} (h : chkR R = true) : (thoseR R [1]).length + (thoseR R [2]).length + (thoseR R [3]).length = R.M.length := by
  obtain ⟨h1, _, _⟩ := chkR_true.1 h
  have ha := h1.all
  unfold thoseR
  simp only [List.length_map]
  generalize R.M = L at *
  clear h1 h
  induction L with
  | nil => rfl
  | cons m L ih =>
    have ih := ih (fun y hy => ha y (List.mem_cons_of_mem _ hy))
    have hm := ha m (List.mem_cons_self ..)
    have hs : m.state = 1 ∨ m.state = 2 ∨ m.state = 3 := by
      unfold rightM wB at hm
      simp at hm
      omega
    have f : ∀ s, (List.filter (fun m : MbT => inB [s] m.state) (m :: L)).length = (if m.state = s then 1 else 0) + (List.filter (fun m : MbT => inB [s] m.state) L).length := by
      intro s
      rw [List.filter_cons]
      by_cases e : m.state = s
      · have : inB [s] m.state = true := by unfold inB; simp [e]
        rw [if_pos this, if_pos e, List.length_cons]
        omega
      · have : ¬ inB [s] m.state = true := by unfold inB; simp [e]
        rw [if_neg this, if_neg e]
        omega
    rw [f, f, f, List.length_cons]
    rcases hs with e | e | e <;> simp [e] <;> omega
theorem those_at {R : RollT} {sts : List Int} {i : Nat} (hi : i < R.M.length) (h : inB sts R.M[i].state = true) :
    (thoseR R sts)[(thoseTo R sts i).length]? = some R.M[i].no := by
  have e : thoseR R sts = thoseTo R sts i ++ (((R.M.drop i).filter (fun m => inB sts m.state)).map MbT.no) := by
    unfold thoseR thoseTo
    rw [← List.map_append, ← List.filter_append, List.take_append_drop]
  rw [e, List.getElem?_append_right (Nat.le_refl _), Nat.sub_self, List.drop_eq_getElem_cons hi, List.filter_cons, if_pos h]
  rfl
/-- who is put into a state -/
theorem state_put {R : RollT} {who st : Int} (h : chkR R = true) (hb : hasB MbT.no who R.M = true) (hp : wB st 1 3 = true) :
    ∃ k, ∃ _ : k < R.M.length, R.M[k].no = who ∧ putL MbT.no { fdX MbT.no mZ who R.M with state := st } R.M = R.M.set k { fdX MbT.no mZ who R.M with state := st } ∧
    fdX MbT.no mZ who (putL MbT.no { fdX MbT.no mZ who R.M with state := st } R.M) = { fdX MbT.no mZ who R.M with state := st } := by
  obtain ⟨h1, h2, h3⟩ := chkR_true.1 h
  have hm := fd_mem (z := mZ) hb
  obtain ⟨k, hk, e1, _, e3⟩ := putL_at (z := mZ) (x := { fdX MbT.no mZ who R.M with state := st }) h1.srt hb hm.2
  have hs := (h1.put (rightM_state (h1.all _ hm.1) hp)).srt
  exact ⟨k, hk, e1, e3, (fd_of_mem (z := mZ) (n := who) hs putL_self hm.2).1⟩

end Cam
