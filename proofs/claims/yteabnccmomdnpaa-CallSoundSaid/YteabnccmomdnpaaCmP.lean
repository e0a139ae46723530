import Derived.Test.YteabnccmomdnpaaCmS
import Derived.Test.YteabnccmomdnpaaCmB
import Derived.Test.YteabnccmomdnpaaClN
import Derived.Test.YteabnccmomdnpaaClE
/- What the page sets is what the code puts: plain laws. -/
namespace Cam
open Go Go.RowKit Go.Proofs

theorem fm_congr {α β : Type} {f g : α → List β} : ∀ {l : List α}, (∀ a ∈ l, f a = g a) → l.flatMap f = l.flatMap g
  | [], _ => rfl
  | a :: l, h => by
    rw [List.flatMap_cons, List.flatMap_cons, h a (by simp), fm_congr (fun b hb => h b (by simp [hb]))]
theorem fm_nil {α β : Type} {f : α → List β} : ∀ {l : List α}, (∀ a ∈ l, f a = []) → l.flatMap f = []
  | [], _ => rfl
  | a :: l, h => by
    rw [List.flatMap_cons, h a (by simp), fm_nil (fun b hb => h b (by simp [hb]))]
    rfl
theorem canon : ∀ (G : List Int) (_ : G.Pairwise (· < ·)) (m : List CT) (_ : m.Pairwise (fun a b => kOf a < kOf b)) (_ : ∀ c ∈ m, kOf c ∈ G), m = G.flatMap (fun g => (look g m).toList)
  | [], _, m, _, hk => by
    cases m with
    | nil => rfl
    | cons c m => exact absurd (hk c (by simp)) (by simp)
  | g :: G, hG, m, hp, hk => by
    rw [List.pairwise_cons] at hG
    cases m with
    | nil => exact (fm_nil (fun a _ => rfl)).symm
    | cons c m =>
      rw [List.flatMap_cons]
      have hp2 := List.pairwise_cons.1 hp
      by_cases e : kOf c = g
      · have h1 : look g (c :: m) = some c := by unfold look; rw [List.find?_cons]; simp [e]
        have h2 : G.flatMap (fun g' => (look g' (c :: m)).toList) = G.flatMap (fun g' => (look g' m).toList) := fm_congr (fun g' hg' => by
          have := hG.1 g' hg'
          unfold look
          rw [List.find?_cons, show decide (kOf c = g') = false from decide_eq_false (by omega)])
        have h3 := canon G hG.2 m hp2.2 (fun d hd => by
          rcases List.mem_cons.1 (hk d (by simp [hd])) with h | h
          · have := hp2.1 d hd
            omega
          · exact h)
        rw [h1, h2, ← h3]
        rfl
      · have hcG : kOf c ∈ G := (List.mem_cons.1 (hk c (by simp))).resolve_left e
        have hgt := hG.1 _ hcG
        have hall : ∀ d ∈ c :: m, g < kOf d := fun d hd => by
          rcases List.mem_cons.1 hd with rfl | hd
          · exact hgt
          · have := hp2.1 d hd
            omega
        have h1 : look g (c :: m) = none := look_none.2 (fun d hd => by have := hall d hd; omega)
        have h3 := canon G hG.2 (c :: m) hp (fun d hd => (List.mem_cons.1 (hk d hd)).resolve_left (by have := hall d hd; omega))
        rw [h1]
        simpa using h3
def gridK : List Int := (List.range 16).flatMap fun (a : Nat) => (List.range 3).map fun (b : Nat) => 3 * ((a : Int) + 1) + (b : Int)
theorem grid_rise : gridK.Pairwise (· < ·) := by decide +kernel
theorem grid_mem {c : CT} (h : InC c) : kOf c ∈ gridK := by
  unfold InC at h
  unfold gridK kOf
  rw [List.mem_flatMap]
  refine ⟨(c.who - 1).toNat, by rw [List.mem_range]; omega, ?_⟩
  rw [List.mem_map]
  exact ⟨c.cur.toNat, by rw [List.mem_range]; omega, by omega⟩
theorem goods_canon {m : List CT} (h : Goods m) : m = (List.range 16).flatMap fun (a : Nat) => (List.range 3).flatMap fun (b : Nat) => (look (3 * ((a : Int) + 1) + (b : Int)) m).toList := by
  have := canon gridK grid_rise m h.2 (fun c hc => grid_mem (okB_in (h.1 c hc)))
  conv => lhs; rw [this]
  unfold gridK
  rw [List.flatMap_assoc]
  exact fm_congr (fun a _ => by rw [List.flatMap_map])
theorem findP_look : ∀ {l : List CT} (_ : ∀ c ∈ l, InC c) {w k : Int} (_ : 0 ≤ k ∧ k < 3), findP w k l = look (3 * w + k) l
  | [], _, _, _, _ => rfl
  | c :: l, h, w, k, hk => by
    have hc := h c (by simp)
    unfold InC at hc
    have ih := findP_look (l := l) (fun d hd => h d (by simp [hd])) (w := w) hk
    unfold findP look at *
    rw [List.find?_cons, List.find?_cons]
    by_cases e : c.who = w ∧ c.cur = k
    · rw [decide_eq_true e, decide_eq_true (by unfold kOf; omega)]
    · rw [decide_eq_false e, decide_eq_false (by unfold kOf; omega)]
      exact ih
theorem all_put {l : List CT} (hg : Goods l) {who cur amt at0 t : Int} (ha : argB who cur amt at0 = true) (ht : ∀ c, look (3 * who + cur) l = some c → t = c.tick) (hn : look (3 * who + cur) l = none → 0 < amt → t = at0) :
    allL l ⟨who, cur, amt, t⟩ 16 = putL l who cur amt at0 := by
  have hp := argB_parts ha
  conv => rhs; rw [goods_canon (put_goods hg ha)]
  unfold allL rowL
  refine fm_congr (fun a _ => fm_congr (fun b hb => ?_))
  rw [List.mem_range] at hb
  have hin := fun c hc => okB_in (hg.1 c hc)
  unfold setK
  simp only
  by_cases e : (a : Int) + 1 = who ∧ (b : Int) = cur
  · obtain ⟨rfl, rfl⟩ := e
    rw [if_pos ⟨rfl, rfl⟩, look_put_same]
    unfold midL
    cases hl : look (3 * ((a : Int) + 1) + (b : Int)) l with
    | some c =>
      have := ht c hl
      obtain ⟨hm, hk⟩ := look_mem hl
      have hc := hin c hm
      unfold InC at hc
      unfold kOf at hk
      have e1 : c.who = (a : Int) + 1 := by omega
      have e2 : c.cur = (b : Int) := by omega
      by_cases h0 : amt = 0
      · simp [h0]
      · rw [if_pos (by omega), if_neg h0]
        simp [this, e1, e2]
    | none =>
      by_cases h0 : amt = 0
      · simp [h0]
      · rw [if_pos (by omega), if_neg h0, if_pos (by omega), hn hl (by omega)]
        rfl
  · rw [if_neg e, findP_look hin ⟨by omega, by omega⟩, look_put_other _ _ _ _ _ _ (by omega)]
theorem callB_arg {who cur amt at0 : Int} : (callB who cur amt && decide ((0 : Int) ≤ at0 ∧ at0 ≤ 1099511627776)) = argB who cur amt at0 := by
  unfold callB argB rightC rightB
  rw [Bool.eq_iff_iff]
  simp only [Bool.and_eq_true, decide_eq_true_eq]
  omega
theorem ofL_find {who cur : Int} : ∀ {l : List CT}, ofL who cur l = match findP who cur l with | some c => c.amt | none => 0
  | [] => rfl
  | c :: l => by
    have ih := ofL_find (who := who) (cur := cur) (l := l)
    unfold ofL findP
    rw [List.find?_cons]
    by_cases e : c.who = who ∧ c.cur = cur
    · rw [if_pos e, decide_eq_true e]
    · rw [if_neg e, decide_eq_false e]
      exact ih
/-- the page's Ask puts -/
theorem ask_ref {l : List CT} (hg : Goods l) {who cur amt at0 r : Int} (ha : argB who cur amt at0 = true) (hr : IsIx who cur l r) :
    (r = -1 ∧ allL l ⟨who, cur, amt, at0⟩ 16 = putL l who cur amt at0) ∨ (∃ p, ∃ hp : p < l.length, r = (p : Int) ∧ allL l ⟨who, cur, amt, l[p].tick⟩ 16 = putL l who cur amt at0) := by
  have hp := argB_parts ha
  have hf := findP_look (fun c hc => okB_in (hg.1 c hc)) (w := who) hp.1.1.2
  rcases ix_find hr with ⟨h1, h2⟩ | ⟨p, hp, h1, h2⟩
  · rw [hf] at h2
    exact Or.inl ⟨h1, all_put hg ha (fun c hc => by rw [h2] at hc; cases hc) (fun _ _ => rfl)⟩
  · rw [hf] at h2
    exact Or.inr ⟨p, hp, h1, all_put hg ha (fun c hc => by rw [h2] at hc; cases hc; rfl) (fun hn => by rw [h2] at hn; cases hn)⟩
/-- the page's Meet puts -/
theorem meet_ref {l : List CT} (hg : Goods l) {who cur amt r : Int} (ha : argB who cur amt 0 = true) (hr : IsIx who cur l r) :
    (r = -1 ∧ allL l ⟨who, cur, 0, 0⟩ 16 = putL l who cur (max (ofL who cur l - amt) 0) 0) ∨
    (∃ p, ∃ hp : p < l.length, r = (p : Int) ∧ l[p].who = who ∧ l[p].cur = cur ∧ ofL who cur l = l[p].amt ∧ allL l ⟨who, cur, max (l[p].amt - amt) 0, l[p].tick⟩ 16 = putL l who cur (max (ofL who cur l - amt) 0) 0) := by
  have hp := argB_parts ha
  have hf := findP_look (fun c hc => okB_in (hg.1 c hc)) (w := who) hp.1.1.2
  have hm := argB_max ha (ofL_bd hg who cur).2
  rcases ix_find hr with ⟨h1, h2⟩ | ⟨p, hpl, h1, h2⟩
  · have e : ofL who cur l = 0 := by rw [ofL_find, h2]
    rw [hf] at h2
    rw [e] at hm ⊢
    rw [show max ((0 : Int) - amt) 0 = 0 by omega] at hm ⊢
    exact Or.inl ⟨h1, all_put hg hm (fun c hc => by rw [h2] at hc; cases hc) (fun _ _ => rfl)⟩
  · have e : ofL who cur l = l[p].amt := by rw [ofL_find, h2]
    have hw : l[p].who = who ∧ l[p].cur = cur := by
      have := List.find?_some h2
      simpa using this
    rw [hf] at h2
    rw [e] at hm ⊢
    exact Or.inr ⟨p, hpl, h1, hw.1, hw.2, rfl, all_put hg hm (fun c hc => by rw [h2] at hc; cases hc; rfl) (fun hn => by rw [h2] at hn; cases hn)⟩
end Cam
