import Derived.Test.YteabnccmomdnpaaClW
/- Calls that rise: what is put into them, looked up; plain laws. -/
namespace Cam
open Go Go.RowKit Go.Proofs

def kOf (c : CT) : Int := 3 * c.who + c.cur
def InC (c : CT) : Prop := (1 ≤ c.who ∧ c.who ≤ 16) ∧ 0 ≤ c.cur ∧ c.cur < 3
/-- right calls -/
def Goods (l : List CT) : Prop := (∀ c ∈ l, okB c = true) ∧ l.Pairwise (fun a b => kOf a < kOf b)
theorem okB_in {c : CT} (h : okB c = true) : InC c := by
  unfold okB rightC at h
  simp only [Bool.and_eq_true, decide_eq_true_eq] at h
  exact h.1.1.1
theorem okB_amt {c : CT} (h : okB c = true) : 1 ≤ c.amt ∧ c.amt ≤ 4611686018427387904 ∧ 0 ≤ c.tick ∧ c.tick ≤ 1099511627776 := by
  unfold okB rightB at h
  simp only [Bool.and_eq_true, decide_eq_true_eq] at h
  obtain ⟨⟨⟨_, h1⟩, h2⟩, h3⟩ := h
  exact ⟨h2, h1.2, h3.1, h3.2⟩
theorem cmpK_lt {c : CT} {who cur : Int} (h : InC c) (h0 : 0 ≤ cur ∧ cur < 3) : cmpK c who cur < 0 ↔ kOf c < 3 * who + cur := by
  obtain ⟨_, h2, h3⟩ := h
  unfold cmpK kOf sgn
  simp only [orL]
  grind
theorem cmpK_eq {c : CT} {who cur : Int} (h : InC c) (h0 : 0 ≤ cur ∧ cur < 3) : cmpK c who cur = 0 ↔ kOf c = 3 * who + cur := by
  obtain ⟨_, h2, h3⟩ := h
  unfold cmpK kOf sgn
  simp only [orL]
  grind
theorem cmpK_same {c : CT} {who cur : Int} : cmpK c who cur = 0 ↔ c.who = who ∧ c.cur = cur := by
  unfold cmpK sgn
  simp only [orL]
  grind
theorem pairs_iff (l : List CT) : l.Pairwise (fun a b => kOf a < kOf b) ↔ ∀ k (h : k + 1 < l.length), kOf l[k] < kOf l[k + 1] := by
  constructor
  · intro h k hk
    exact List.pairwise_iff_getElem.1 h k (k + 1) (by omega) hk (by omega)
  · intro h
    rw [List.pairwise_iff_getElem]
    intro i j hi hj hij
    obtain ⟨d, rfl⟩ : ∃ d, j = i + 1 + d := ⟨j - (i + 1), by omega⟩
    clear hij
    induction d with
    | zero => exact h i (by omega)
    | succ d ih =>
      have h1 := ih (by omega)
      have h2 := h (i + 1 + d) (by omega)
      have e : i + 1 + (d + 1) = i + 1 + d + 1 := by omega
      simp only [e]
      omega
theorem chkE_goods (l : List CT) : chkE l = 0 ↔ Goods l := by
  rw [chkE_iff]
  unfold Goods
  rw [pairs_iff]
  constructor
  · intro h
    have h1 : ∀ k (hk : k < l.length), okB l[k] = true := fun k hk => by
      have := h k hk
      unfold okAt at this
      rw [getD_eq hk] at this
      simp only [Bool.and_eq_true] at this
      exact this.1
    refine ⟨fun c hc => ?_, fun k hk => ?_⟩
    · obtain ⟨k, hk, rfl⟩ := List.mem_iff_getElem.1 hc
      exact h1 k hk
    · have := h (k + 1) hk
      unfold okAt at this
      rw [getD_eq hk, show k + 1 - 1 = k by omega, getD_eq (by omega : k < l.length)] at this
      simp only [Bool.and_eq_true, Bool.or_eq_true, decide_eq_true_eq] at this
      have h2 := this.2.resolve_left (by omega)
      have hi := okB_in (h1 (k + 1) hk)
      rw [cmpK_lt (okB_in (h1 k (by omega))) ⟨hi.2.1, hi.2.2⟩] at h2
      exact h2
  · intro ⟨h1, h2⟩ k hk
    have hi := okB_in (h1 l[k] (List.getElem_mem _))
    unfold okAt
    rw [getD_eq hk, h1 l[k] (List.getElem_mem _)]
    by_cases h0 : k = 0
    · simp [h0]
    · obtain ⟨j, rfl⟩ : ∃ j, k = j + 1 := ⟨k - 1, by omega⟩
      have h3 := h2 j hk
      rw [show j + 1 - 1 = j by omega, getD_eq (by omega : j < l.length)]
      simp only [Bool.true_and, Bool.or_eq_true, decide_eq_true_eq]
      exact Or.inr ((cmpK_lt (okB_in (h1 l[j] (List.getElem_mem _))) ⟨hi.2.1, hi.2.2⟩).2 h3)
theorem chkE_cases (l : List CT) : chkE l = 0 ∨ chkE l = 14 := by
  unfold chkE
  split
  · exact Or.inl rfl
  · exact Or.inr rfl

/-- the call of a key -/
def look (k : Int) (l : List CT) : Option CT := l.find? (fun c => decide (kOf c = k))
theorem look_mem {k : Int} {l : List CT} {c : CT} (h : look k l = some c) : c ∈ l ∧ kOf c = k := by
  have h1 := List.mem_of_find?_eq_some h
  have h2 := List.find?_some h
  exact ⟨h1, by simpa using h2⟩
theorem look_none {k : Int} {l : List CT} : look k l = none ↔ ∀ c ∈ l, kOf c ≠ k := by
  unfold look
  rw [List.find?_eq_none]
  simp
theorem look_of {l : List CT} (hp : l.Pairwise (fun a b => kOf a < kOf b)) {c : CT} (hc : c ∈ l) : look (kOf c) l = some c := by
  induction l with
  | nil => cases hc
  | cons a l ih =>
    rw [List.pairwise_cons] at hp
    unfold look
    rw [List.find?_cons]
    rcases List.mem_cons.1 hc with rfl | h
    · simp
    · have := hp.1 c h
      rw [show decide (kOf a = kOf c) = false from decide_eq_false (by omega)]
      exact ih hp.2 h
/-- what stands where the call of a key stood -/
def midL (o : Option CT) (who cur amt at0 : Int) : List CT := if amt = 0 then [] else match o with
  | some c => [⟨c.who, c.cur, amt, c.tick⟩]
  | none => if 0 < amt then [⟨who, cur, amt, at0⟩] else []
/-- call.put -/
def putL (l : List CT) (who cur amt at0 : Int) : List CT :=
  l.filter (fun c => decide (kOf c < 3 * who + cur)) ++ (midL (look (3 * who + cur) l) who cur amt at0 ++ l.filter (fun c => decide (3 * who + cur < kOf c)))
theorem midL_key {o : Option CT} {who cur amt at0 : Int} (ho : ∀ c, o = some c → kOf c = 3 * who + cur) : ∀ c ∈ midL o who cur amt at0, kOf c = 3 * who + cur := by
  intro c hc
  unfold midL at hc
  split at hc
  · cases hc
  · cases o with
    | none =>
      simp only at hc
      split at hc
      · simp at hc; subst hc; rfl
      · cases hc
    | some d =>
      simp at hc
      subst hc
      exact ho d rfl
theorem find_filter (p q : CT → Bool) (l : List CT) : (l.filter p).find? q = l.find? (fun c => p c && q c) := by
  induction l with
  | nil => rfl
  | cons a l ih =>
    rw [List.filter_cons, List.find?_cons]
    cases hp : p a <;> cases hq : q a <;> simp [hq, ih]
theorem find_none {p : CT → Bool} {l : List CT} (h : ∀ c ∈ l, p c = false) : l.find? p = none := by
  rw [List.find?_eq_none]
  intro c hc
  rw [h c hc]
  simp
theorem look_put_same (l : List CT) (who cur amt at0 : Int) : look (3 * who + cur) (putL l who cur amt at0) = (midL (look (3 * who + cur) l) who cur amt at0).head? := by
  have hm := midL_key (o := look (3 * who + cur) l) (who := who) (cur := cur) (amt := amt) (at0 := at0) (fun c hc => (look_mem hc).2)
  have key : ∀ M : List CT, (∀ c ∈ M, kOf c = 3 * who + cur) → (l.filter (fun c => decide (kOf c < 3 * who + cur)) ++ (M ++ l.filter (fun c => decide (3 * who + cur < kOf c)))).find? (fun c => decide (kOf c = 3 * who + cur)) = M.head? := by
    intro M hM
    rw [List.find?_append, List.find?_append, find_filter, find_filter,
      find_none (p := fun c => decide (kOf c < 3 * who + cur) && decide (kOf c = 3 * who + cur)) (fun c _ => by simp only [Bool.and_eq_false_iff, decide_eq_false_iff_not]; omega),
      find_none (p := fun c => decide (3 * who + cur < kOf c) && decide (kOf c = 3 * who + cur)) (fun c _ => by simp only [Bool.and_eq_false_iff, decide_eq_false_iff_not]; omega)]
    cases M with
    | nil => rfl
    | cons a M => simp [hM a (by simp)]
  exact key _ hm
theorem look_put_other (l : List CT) (who cur amt at0 k : Int) (hk : k ≠ 3 * who + cur) : look k (putL l who cur amt at0) = look k l := by
  have hm := midL_key (o := look (3 * who + cur) l) (who := who) (cur := cur) (amt := amt) (at0 := at0) (fun c hc => (look_mem hc).2)
  unfold putL look
  rw [List.find?_append, List.find?_append, find_filter, find_filter, find_none (l := midL _ _ _ _ _) (fun c hc => decide_eq_false (by rw [hm c hc]; omega))]
  by_cases h : k < 3 * who + cur
  · rw [find_none (p := fun c => decide (3 * who + cur < kOf c) && decide (kOf c = k)) (fun c _ => by simp only [Bool.and_eq_false_iff, decide_eq_false_iff_not]; omega)]
    simp only [Option.or_none]
    congr 1
    funext c
    by_cases hc : kOf c = k
    · simp [hc, h]
    · simp [hc]
  · rw [find_none (p := fun c => decide (kOf c < 3 * who + cur) && decide (kOf c = k)) (fun c _ => by simp only [Bool.and_eq_false_iff, decide_eq_false_iff_not]; omega)]
    simp only [Option.none_or]
    congr 1
    funext c
    by_cases hc : kOf c = k
    · have : 3 * who + cur < k := by omega
      simp [hc, this]
    · simp [hc]

theorem mid_ok {o : Option CT} {who cur amt at0 : Int} (ho : ∀ c, o = some c → okB c = true) (h : argB who cur amt at0 = true) (hm : amt ≤ 4611686018427387904) : ∀ c ∈ midL o who cur amt at0, okB c = true := by
  unfold argB rightB rightC at h
  simp only [Bool.and_eq_true, decide_eq_true_eq] at h
  obtain ⟨⟨⟨⟨hr, hb⟩, h0⟩, h1⟩, h2⟩ := h
  intro c hc
  unfold midL at hc
  split at hc
  · cases hc
  · next hne =>
    cases o with
    | none =>
      simp only at hc
      split at hc
      · simp at hc
        subst hc
        unfold okB rightC rightB
        simp only [Bool.and_eq_true, decide_eq_true_eq]
        omega
      · cases hc
    | some d =>
      simp at hc
      subst hc
      have h3 := okB_in (ho d rfl)
      have h4 := okB_amt (ho d rfl)
      unfold InC at h3
      unfold okB rightC rightB
      simp only [Bool.and_eq_true, decide_eq_true_eq]
      omega
theorem put_goods {l : List CT} {who cur amt at0 : Int} (h : Goods l) (ha : argB who cur amt at0 = true) : Goods (putL l who cur amt at0) := by
  have hm := midL_key (o := look (3 * who + cur) l) (who := who) (cur := cur) (amt := amt) (at0 := at0) (fun c hc => (look_mem hc).2)
  have hb : amt ≤ 4611686018427387904 := by
    unfold argB rightB at ha
    simp only [Bool.and_eq_true, decide_eq_true_eq] at ha
    exact ha.1.1.1.2.2
  have hk := mid_ok (o := look (3 * who + cur) l) (who := who) (cur := cur) (amt := amt) (at0 := at0) (fun c hc => h.1 c (look_mem hc).1) ha hb
  have hp1 : (midL (look (3 * who + cur) l) who cur amt at0).Pairwise (fun a b => kOf a < kOf b) := by
    unfold midL
    split
    · exact List.Pairwise.nil
    · split
      · exact List.pairwise_singleton _ _
      · split
        · exact List.pairwise_singleton _ _
        · exact List.Pairwise.nil
  unfold putL
  generalize midL (look (3 * who + cur) l) who cur amt at0 = M at hm hk hp1
  refine ⟨fun c hc => ?_, ?_⟩
  · simp only [List.mem_append, List.mem_filter] at hc
    rcases hc with hc | hc | hc
    · exact h.1 c hc.1
    · exact hk c hc
    · exact h.1 c hc.1
  · rw [List.pairwise_append, List.pairwise_append]
    refine ⟨h.2.filter _, ⟨hp1, h.2.filter _, ?_⟩, ?_⟩
    · intro a hA b hB
      have := (List.mem_filter.1 hB).2
      simp only [decide_eq_true_eq] at this
      rw [hm a hA]
      exact this
    · intro a hA b hB
      have h1 := (List.mem_filter.1 hA).2
      simp only [decide_eq_true_eq] at h1
      rcases List.mem_append.1 hB with hB | hB
      · rw [hm b hB]; exact h1
      · have := (List.mem_filter.1 hB).2
        simp only [decide_eq_true_eq] at this
        omega
/-- where calls rise, a list is cut at a key -/
theorem rise_cut {l : List CT} {k : Int} {i : Nat} (h1 : ∀ q (hq : q < l.length), q < i → kOf l[q] < k) (h2 : ∀ q (hq : q < l.length), i ≤ q → k ≤ kOf l[q]) :
    l.filter (fun c => decide (kOf c < k)) = l.take i ∧ l.filter (fun c => decide (k ≤ kOf c)) = l.drop i := by
  have hA : ∀ c ∈ l.take i, kOf c < k := fun c hc => by
    obtain ⟨q, hq, rfl⟩ := List.mem_iff_getElem.1 hc
    rw [List.length_take] at hq
    rw [List.getElem_take]
    exact h1 q (by omega) (by omega)
  have hB : ∀ c ∈ l.drop i, k ≤ kOf c := fun c hc => by
    obtain ⟨q, hq, rfl⟩ := List.mem_iff_getElem.1 hc
    rw [List.length_drop] at hq
    rw [List.getElem_drop]
    exact h2 _ (by omega) (by omega)
  have e := List.take_append_drop i l
  constructor
  · conv => lhs; rw [← e]
    rw [List.filter_append, List.filter_eq_self.2 (fun c hc => by simpa using hA c hc), List.filter_eq_nil_iff.2 (fun c hc => by simpa using hB c hc), List.append_nil]
  · conv => lhs; rw [← e]
    rw [List.filter_append, List.filter_eq_nil_iff.2 (fun c hc => by simpa using hA c hc), List.filter_eq_self.2 (fun c hc => by simpa using hB c hc), List.nil_append]
/-- nothing of the key: put is an insertion -/
theorem put_new {l : List CT} (h : Goods l) {who cur : Int} {i : Nat} (hr : rightC who cur = true) (hf : Found l who cur i) (hno : ¬ ∃ hi : i < l.length, cmpK l[i] who cur = 0) :
    look (3 * who + cur) l = none ∧ l.filter (fun c => decide (kOf c < 3 * who + cur)) = l.take i ∧ l.filter (fun c => decide (3 * who + cur < kOf c)) = l.drop i := by
  obtain ⟨hi, f1, f2⟩ := hf
  unfold rightC at hr
  simp only [decide_eq_true_eq] at hr
  have hin : ∀ q (hq : q < l.length), InC l[q] := fun q hq => okB_in (h.1 _ (List.getElem_mem _))
  have g1 : ∀ q (hq : q < l.length), q < i → kOf l[q] < 3 * who + cur := fun q hq hqi => (cmpK_lt (hin q hq) hr.2).1 (f1 q hq hqi)
  have g2 : ∀ q (hq : q < l.length), i ≤ q → 3 * who + cur < kOf l[q] := fun q hq hqi => by
    have a1 : ¬ kOf l[q] < 3 * who + cur := fun e => by have := (cmpK_lt (hin q hq) hr.2).2 e; have := f2 q hq hqi; omega
    by_cases e : q = i
    · subst e
      have a2 : ¬ kOf l[q] = 3 * who + cur := fun e => hno ⟨hq, (cmpK_eq (hin q hq) hr.2).2 e⟩
      omega
    · have hil : i < l.length := by omega
      have a3 : ¬ kOf l[i] < 3 * who + cur := fun e => by have := (cmpK_lt (hin i hil) hr.2).2 e; have := f2 i hil (Nat.le_refl _); omega
      have a4 := List.pairwise_iff_getElem.1 h.2 i q hil hq (by omega)
      omega
  obtain ⟨e1, e2⟩ := rise_cut (l := l) g1 (fun q hq hqi => Int.le_of_lt (g2 q hq hqi))
  refine ⟨look_none.2 fun c hc => ?_, e1, ?_⟩
  · obtain ⟨q, hq, rfl⟩ := List.mem_iff_getElem.1 hc
    by_cases hqi : q < i
    · have := g1 q hq hqi; omega
    · have := g2 q hq (by omega); omega
  · have h5 := rise_cut (l := l) (k := 3 * who + cur + 1) (i := i) (fun q hq hqi => by have := g1 q hq hqi; omega) (fun q hq hqi => by have := g2 q hq hqi; omega)
    rw [← h5.2]
    rfl
/-- one of the key -/
theorem put_old {l : List CT} (h : Goods l) {who cur : Int} {i : Nat} (hr : rightC who cur = true) (hf : Found l who cur i) (hi : i < l.length) (hx : cmpK l[i] who cur = 0) :
    look (3 * who + cur) l = some l[i] ∧ l.filter (fun c => decide (kOf c < 3 * who + cur)) = l.take i ∧ l.filter (fun c => decide (3 * who + cur < kOf c)) = l.drop (i + 1) := by
  obtain ⟨_, f1, f2⟩ := hf
  unfold rightC at hr
  simp only [decide_eq_true_eq] at hr
  have hin : ∀ q (hq : q < l.length), InC l[q] := fun q hq => okB_in (h.1 _ (List.getElem_mem _))
  have hk := (cmpK_eq (hin i hi) hr.2).1 hx
  have g1 : ∀ q (hq : q < l.length), q < i → kOf l[q] < 3 * who + cur := fun q hq hqi => (cmpK_lt (hin q hq) hr.2).1 (f1 q hq hqi)
  have g2 : ∀ q (hq : q < l.length), i + 1 ≤ q → 3 * who + cur < kOf l[q] := fun q hq hqi => by
    have a4 := List.pairwise_iff_getElem.1 h.2 i q hi hq (by omega)
    omega
  have e1 := rise_cut (l := l) (k := 3 * who + cur) (i := i) g1 (fun q hq hqi => by
    by_cases e : q = i
    · subst e; omega
    · exact Int.le_of_lt (g2 q hq (by omega)))
  have e2 := rise_cut (l := l) (k := 3 * who + cur + 1) (i := i + 1) (fun q hq hqi => by
    by_cases e : q = i
    · subst e; omega
    · have := g1 q hq (by omega); omega) (fun q hq hqi => by have := g2 q hq hqi; omega)
  refine ⟨?_, e1.1, ?_⟩
  · rw [← hk]
    exact look_of h.2 (List.getElem_mem _)
  · rw [← e2.2]
    rfl
theorem put_is_ins {l : List CT} (h : Goods l) {who cur amt at0 : Int} {i : Nat} (hr : rightC who cur = true) (hf : Found l who cur i) (hno : ¬ ∃ hi : i < l.length, cmpK l[i] who cur = 0) (ha : 0 < amt) :
    putL l who cur amt at0 = l.take i ++ ⟨who, cur, amt, at0⟩ :: l.drop i := by
  obtain ⟨e1, e2, e3⟩ := put_new h hr hf hno
  unfold putL midL
  rw [e1, e2, e3, if_neg (by omega)]
  simp [ha]
theorem put_is_same {l : List CT} (h : Goods l) {who cur amt at0 : Int} {i : Nat} (hr : rightC who cur = true) (hf : Found l who cur i) (hno : ¬ ∃ hi : i < l.length, cmpK l[i] who cur = 0) (ha : ¬ 0 < amt) :
    putL l who cur amt at0 = l := by
  obtain ⟨e1, e2, e3⟩ := put_new h hr hf hno
  unfold putL midL
  rw [e1, e2, e3]
  simp [ha]
theorem put_is_set {l : List CT} (h : Goods l) {who cur amt at0 : Int} {i : Nat} (hr : rightC who cur = true) (hf : Found l who cur i) (hi : i < l.length) (hx : cmpK l[i] who cur = 0) (ha : ¬ amt = 0) :
    putL l who cur amt at0 = l.set i ⟨l[i].who, l[i].cur, amt, l[i].tick⟩ := by
  obtain ⟨e1, e2, e3⟩ := put_old h hr hf hi hx
  unfold putL midL
  rw [e1, e2, e3, if_neg ha, List.set_eq_take_append_cons_drop, if_pos hi]
  rfl
theorem put_is_del {l : List CT} (h : Goods l) {who cur at0 : Int} {i : Nat} (hr : rightC who cur = true) (hf : Found l who cur i) (hi : i < l.length) (hx : cmpK l[i] who cur = 0) :
    putL l who cur 0 at0 = l.eraseIdx i := by
  obtain ⟨e1, e2, e3⟩ := put_old h hr hf hi hx
  unfold putL midL
  rw [e1, e2, e3, if_pos rfl, List.eraseIdx_eq_take_drop_succ]
  rfl
theorem goods_rises {l : List CT} (h : Goods l) {who cur : Int} (hr : rightC who cur = true) : Rises l who cur := by
  unfold rightC at hr
  simp only [decide_eq_true_eq] at hr
  intro p q hq hpq hx
  have hin : ∀ q (hq : q < l.length), InC l[q] := fun q hq => okB_in (h.1 _ (List.getElem_mem _))
  rw [cmpK_lt (hin q hq) hr.2] at hx
  rw [cmpK_lt (hin p (by omega)) hr.2]
  by_cases e : p = q
  · subst e; exact hx
  · have := List.pairwise_iff_getElem.1 h.2 p q (by omega) hq (by omega)
    omega
theorem found_one {l : List CT} {who cur : Int} {i j : Nat} (hi : Found l who cur i) (hj : Found l who cur j) : i = j := by
  obtain ⟨a1, a2, a3⟩ := hi
  obtain ⟨b1, b2, b3⟩ := hj
  rcases Nat.lt_trichotomy i j with h | h | h
  · have := b2 i (by omega) h
    have := a3 i (by omega) (Nat.le_refl _)
    omega
  · exact h
  · have := a2 j (by omega) h
    have := b3 j (by omega) (Nat.le_refl _)
    omega
end Cam
