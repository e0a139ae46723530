import Derived.Test.YteabnccmomdnpaaClS
/- call.Of. -/
namespace Cam
open Go Go.RowKit Go.Proofs

def ofL (who cur : Int) : List CT → Int
  | [] => 0
  | c :: l => if c.who = who ∧ c.cur = cur then c.amt else ofL who cur l
theorem ofL_no {who cur : Int} : ∀ {l : List CT}, (∀ q (hq : q < l.length), ¬ (l[q].who = who ∧ l[q].cur = cur)) → ofL who cur l = 0
  | [], _ => rfl
  | c :: l, h => by
    have h0 := h 0 (by simp)
    simp only [List.getElem_cons_zero] at h0
    unfold ofL
    rw [if_neg h0]
    exact ofL_no (fun q hq => by have := h (q + 1) (by simpa using hq); simpa using this)
theorem ofL_yes {who cur : Int} : ∀ {l : List CT} {k : Nat} (hk : k < l.length), (∀ q (hq : q < k), ¬ (l[q].who = who ∧ l[q].cur = cur)) → l[k].who = who ∧ l[k].cur = cur → ofL who cur l = l[k].amt
  | [], k, hk, _, _ => by simp at hk
  | c :: l, 0, _, _, h => by
    unfold ofL
    rw [if_pos (by simpa using h)]
    rfl
  | c :: l, k + 1, hk, h, hx => by
    have h0 := h 0 (by omega)
    simp only [List.getElem_cons_zero] at h0
    unfold ofL
    rw [if_neg h0]
    have := ofL_yes (l := l) (k := k) (by simpa using hk) (fun q hq => by have := h (q + 1) (by omega); simpa using this) (by simpa using hx)
    simpa using this

set_option maxRecDepth 100000 in
set_option maxHeartbeats 1600000 in
theorem Of_any (w : World) (who cur : Int) (v : Value) (l : List CT) (h : Cs w v l) (hl : l.length ≤ 100000) :
    Calls Try.prog 13 #[.int .i64 who, .int .i64 cur, v] w fun e w' => e = .returned (.int .i64 (ofL who cur l)) ∧ Below w.heap.size w w' := by
  obtain ⟨av, cap, rfl, hcap, hm⟩ := h.shape
  obtain ⟨n, hn⟩ : ∃ n, n = l.length := ⟨_, rfl⟩
  have HN := Lib.hid hn
  rw [← hn] at hcap hl ⊢
  rw [← hn] at h
  clear hn
  go_enter Try.func13, Try.ntmps13
  go_wp2_with fail
  go_loopw [11] (fun i wr => ∃ k : Nat, k ≤ n ∧ i = .int .i64 k ∧ Hid (∀ q (hq : q < l.length), q < k → ¬ (l[q].who = who ∧ l[q].cur = cur)) ∧ Below w.heap.size w wr) (fun i _ => n - (intOf i).toNat)
  case atStart => exact ⟨0, Nat.zero_le _, rfl, fun q _ hq => by omega, Below.refl _ _⟩
  case round =>
    obtain ⟨k, hk, rfl, HO, hbel⟩ := hrel
    by_cases hlt : k < n
    · have hkl : k < l.length := by have := HN.out; omega
      obtain ⟨bl, off, rfl, _, hc⟩ := Cs.at4 (h.mono hbel) (by omega)
      obtain ⟨c, hcx⟩ : ∃ c, c = l[k] := ⟨_, rfl⟩
      obtain ⟨hc0, hc1, hc2, hc3⟩ := hc k hkl
      rw [← hcx] at hc0 hc1 hc2 hc3
      have HYES : Hid (c.who = who ∧ c.cur = cur → ofL who cur l = c.amt) := fun hx => by
        rw [ofL_yes hkl (fun q hq => HO.out q (by omega) hq) (by rw [← hcx]; exact hx), ← hcx]
      have HNO : Hid (¬ (c.who = who ∧ c.cur = cur) → ∀ q (hq : q < l.length), q < k + 1 → ¬ (l[q].who = who ∧ l[q].cur = cur)) := fun hx q hq hqk => by
        by_cases e : q = k
        · subst e; rw [← hcx]; exact hx
        · exact HO.out q hq (by omega)
      obtain ⟨cw, cc, ca, ct⟩ := c
      simp only at hc0 hc1 hc2 hc3 HYES HNO
      have hbW := hbel.alloc hbel.size (.cells #[.int .i64 cw, .int .i64 cc, .int .i64 ca, .int .i64 ct] 28)
      have HBW := Lib.hid hbW
      clear hc hcx HO hbW hbel h
      by_cases e0 : cw = who
      · subst e0
        by_cases e1 : cc = cur
        · subst e1
          have HV := Lib.hid (HYES.out ⟨rfl, rfl⟩)
          clear HYES HNO
          go_wp2_with fail
          go_ret
          exact ⟨by rw [HV.out]; rfl, HBW.out⟩
        · have HF := Lib.hid (HNO.out (fun hx => e1 hx.2))
          clear HYES HNO
          go_wp2_with fail
          exact ⟨⟨k + 1, by omega, by push_cast; rfl, HF.out, HBW.out⟩, by simp [intOf]; omega⟩
      · have HF := Lib.hid (HNO.out (fun hx => e0 hx.1))
        clear HYES HNO
        go_wp2_with fail
        exact ⟨⟨k + 1, by omega, by push_cast; rfl, HF.out, HBW.out⟩, by simp [intOf]; omega⟩
    · have HV : Hid (ofL who cur l = 0) := by
        show _ = _
        exact ofL_no (fun q hq => HO.out q hq (by have := HN.out; omega))
      go_wp2_with fail
      go_ret
      exact ⟨by rw [HV.out]; rfl, hbel⟩

end Cam
