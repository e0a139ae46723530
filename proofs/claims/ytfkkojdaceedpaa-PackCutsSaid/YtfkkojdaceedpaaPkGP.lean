import Derived.Test.YtfkkojdaceedpaaPkG
/- cambistlaw04: what got reads (plain laws). -/
namespace Cam
open Go Go.RowKit Go.Proofs

theorem gotI_enc (l : List Int) (rest : List UInt8) (hr : ∀ n ∈ l, -9223372036854775808 ≤ n ∧ n ≤ 9223372036854775807) : gotI l (encIs l ++ rest, 0) = (true, (rest, 0)) := by
  induction l with
  | nil => simp [gotI, encIs]
  | cons n l ih =>
    have e : encIs (n :: l) ++ rest = encI n ++ (encIs l ++ rest) := by simp [encIs]
    rw [e]
    unfold gotI
    rw [rI_enc n _ (hr n (by simp))]
    show (if n = n then gotI l (encIs l ++ rest, 0) else _) = _
    rw [if_pos rfl]
    exact ih (fun m hm => hr m (by simp [hm]))
theorem gotI_err (l : List Int) (s : RS) (h : s.2 ≠ 0) : (gotI l s).2 = s := by
  induction l with
  | nil => rfl
  | cons n l ih =>
    unfold gotI
    rw [rI_err s h]
    split
    · exact ih
    · rfl
theorem gotI_len (l : List Int) : ∀ s : RS, (gotI l s).2.1.length ≤ s.1.length := by
  induction l with
  | nil => exact fun s => Nat.le_refl _
  | cons n l ih =>
    intro s
    have h1 := rI_len s
    have h2 := ih (rI s).2
    unfold gotI
    split
    · omega
    · exact h1

theorem gotE_it (x : Item) (rest : List UInt8) (hr : ∀ n ∈ x.l, -9223372036854775808 ≤ n ∧ n ≤ 9223372036854775807) (ht : x.t.length ≤ 65536) : gotE x (itB x ++ rest, 0) = (true, (rest, 0)) := by
  unfold gotE itB
  by_cases h0 : ck x.kind = 0
  · rw [if_pos h0, if_pos h0]
    exact gotI_enc x.l rest hr
  · rw [if_neg h0, if_neg h0]
    by_cases h1 : ck x.kind = 1
    · rw [if_pos h1, if_pos h1, rM_mark]
      simp
    · rw [if_neg h1, if_neg h1, if_neg (by omega), rT_text x.t rest ht]
      simp
theorem gotE_err (x : Item) (s : RS) (h : s.2 ≠ 0) : (gotE x s).2 = s := by
  unfold gotE
  by_cases h0 : ck x.kind = 0
  · rw [if_pos h0]
    exact gotI_err x.l s h
  · rw [if_neg h0]
    by_cases h1 : ck x.kind = 1
    · rw [if_pos h1, rM_err s h]
    · rw [if_neg h1, rT_err s h]
theorem gotE_len (x : Item) (s : RS) : (gotE x s).2.1.length ≤ s.1.length := by
  unfold gotE
  by_cases h0 : ck x.kind = 0
  · rw [if_pos h0]
    exact gotI_len x.l s
  · rw [if_neg h0]
    by_cases h1 : ck x.kind = 1
    · rw [if_pos h1]
      exact rM_len s
    · rw [if_neg h1]
      exact rT_len s

theorem gotE_pre (x : Item) (p q : List UInt8) (ht : x.t.length ≤ 65536) (hl : ck x.kind = 0 → x.l.length ≤ 1) (hq : q ≠ []) (h : p ++ q = itB x) : (gotE x (p, 0)).2.2 ≠ 0 := by
  unfold itB at h
  unfold gotE
  by_cases h0 : ck x.kind = 0
  · rw [if_pos h0] at h
    rw [if_pos h0]
    have h1 := hl h0
    match hx : x.l, h1 with
    | [], _ =>
      rw [hx] at h
      simp [encIs] at h
      exact absurd h.2 hq
    | [n], _ =>
      rw [hx] at h
      have e : p ++ q = encI n := by rw [h]; simp [encIs]
      unfold gotI
      rw [rI_pre e hq]
      split
      · exact (by decide : (4 : Int) ≠ 0)
      · exact (by decide : (4 : Int) ≠ 0)
  · rw [if_neg h0] at h
    rw [if_neg h0]
    by_cases h1 : ck x.kind = 1
    · rw [if_pos h1] at h
      rw [if_pos h1]
      have hp : p = [] := by
        have hL := congrArg List.length h
        have := List.length_pos_iff.2 hq
        rw [markB_length, List.length_append] at hL
        exact List.length_eq_zero_iff.1 (by omega)
      subst hp
      rw [rM_nil]
      exact (by decide : (4 : Int) ≠ 0)
    · rw [if_neg h1, if_neg (by omega)] at h
      rw [if_neg h1]
      exact rT_pre h hq ht

theorem itsB_cons (x : Item) (l : List Item) : itsB (x :: l) = itB x ++ itsB l := by simp [itsB]
theorem itsB_drop (l : List Item) (k : Nat) (h : k < l.length) : itsB (l.drop k) = itB l[k] ++ itsB (l.drop (k + 1)) := by rw [List.drop_eq_getElem_cons h, itsB_cons]

/-- what a reader of a strict beginning is like: behind an error, or still within -/
def Cut (l : List Item) (k : Nat) (s : RS) : Prop := s.2 ≠ 0 ∨ ∃ q, q ≠ [] ∧ s.2 = 0 ∧ s.1 ++ q = itsB (l.drop k)
theorem Cut.step {l : List Item} {k : Nat} {s : RS} (h : Cut l k s) (hk : k < l.length) (ht : l[k].t.length ≤ 65536) (hr : ∀ n ∈ l[k].l, -9223372036854775808 ≤ n ∧ n ≤ 9223372036854775807) (hl : ck l[k].kind = 0 → l[k].l.length ≤ 1) : Cut l (k + 1) (gotE l[k] s).2 := by
  rcases h with h | ⟨q, hq, h0, he⟩
  · rw [gotE_err _ _ h]
    exact .inl h
  · obtain ⟨p, e⟩ := s
    simp only at h0 he
    subst h0
    rw [itsB_drop l k hk] at he
    rcases List.append_eq_append_iff.1 he with ⟨a, h1, h2⟩ | ⟨c, h1, h2⟩
    · by_cases ha : a = []
      · subst ha
        rw [List.append_nil] at h1
        simp only [List.nil_append] at h2
        have hg := gotE_it l[k] [] hr ht
        rw [List.append_nil, h1] at hg
        rw [hg]
        exact .inr ⟨q, hq, rfl, h2⟩
      · exact .inl (gotE_pre l[k] p a ht hl ha h1.symm)
    · subst h1
      rw [gotE_it l[k] c hr ht]
      exact .inr ⟨q, hq, rfl, h2.symm⟩
theorem Cut.fin {l : List Item} {s : RS} (h : Cut l l.length s) : rD s ≠ 0 := by
  intro hd
  obtain ⟨h0, h1⟩ := (rD_ok s).1 hd
  rcases h with h | ⟨q, hq, _, he⟩
  · exact h h0
  · rw [List.drop_length] at he
    simp [itsB] at he
    exact hq he.2
theorem rD_more (c : UInt8) : rD ([c], 0) = 4 := rfl

/-- behind a change that leaves items: their cells, and their lists as they stood -/
theorem Its.at2 {w w' : World} {a : Option Addr} {len cap : Nat} {l : List Item} (h : Its w (.slice a len cap) l) (hb : Below w.heap.size w w') (hp : 0 < l.length) :
    ∃ b off, a = some ⟨b, off, none⟩ ∧ b < w.heap.size ∧ ∀ i (hi : i < l.length), ∃ vl vt, (w'.cell? ⟨b, off + i * 4, none⟩ = some (.int .i64 l[i].kind) ∧ w'.cell? ⟨b, off + i * 4 + 1, none⟩ = some vl ∧ w'.cell? ⟨b, off + i * 4 + 2, none⟩ = some (.bool l[i].is) ∧ w'.cell? ⟨b, off + i * 4 + 3, none⟩ = some vt) ∧ Is w vl l[i].l ∧ Bs w vt l[i].t := by
  obtain ⟨b, off, e, hlt, hc⟩ := h.at hp
  refine ⟨b, off, e, hlt, fun i hi => ?_⟩
  obtain ⟨vl, vt, ⟨c0, c1, c2, c3⟩, hl, ht⟩ := hc i hi
  exact ⟨vl, vt, ⟨keepB1 hb c0, keepB1 hb c1, keepB1 hb c2, keepB1 hb c3⟩, hl, ht⟩

end Cam
