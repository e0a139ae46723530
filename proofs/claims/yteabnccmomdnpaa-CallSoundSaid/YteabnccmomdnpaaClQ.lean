import Derived.Test.YteabnccmomdnpaaClF
/- cambistref15.Called. -/
namespace Cam
open Go Go.RowKit Go.Proofs

/-- the first call of a member and a currency: its number, or -1 -/
def IsIx (who cur : Int) (l : List CT) (r : Int) : Prop :=
  (r = -1 ∧ ∀ q (hq : q < l.length), ¬ (l[q].who = who ∧ l[q].cur = cur)) ∨ (∃ k, ∃ hk : k < l.length, r = (k : Int) ∧ (l[k].who = who ∧ l[k].cur = cur) ∧ ∀ q (hq : q < k), ¬ (l[q].who = who ∧ l[q].cur = cur))
def CalledPost (w : World) (who cur : Int) (l : List CT) (e : Ending) (w' : World) : Prop := ∃ r : Int, e = .returned (.int .i64 r) ∧ IsIx who cur l r ∧ w = w'

set_option maxRecDepth 100000 in
set_option maxHeartbeats 1600000 in
theorem Called_any (w : World) (who cur : Int) (v : Value) (l : List CT) (h : Cs w v l) (hl : l.length ≤ 100000) :
    Calls Try.prog 15 #[.int .i64 who, .int .i64 cur, v] w (CalledPost w who cur l) := by
  obtain ⟨av, cap, rfl, hcap, hm⟩ := h.shape
  obtain ⟨n, hn⟩ : ∃ n, n = l.length := ⟨_, rfl⟩
  have HN := Lib.hid hn
  rw [← hn] at hcap hl ⊢
  rw [← hn] at h
  clear hn
  go_enter Try.func15, Try.ntmps15
  go_wp2_with fail
  go_loop [7] (fun i => ∃ k : Nat, k ≤ n ∧ i = .int .i64 k ∧ Hid (∀ q (hq : q < l.length), q < k → ¬ (l[q].who = who ∧ l[q].cur = cur))) (fun i => n - (intOf i).toNat)
  case atStart => exact ⟨0, Nat.zero_le _, rfl, fun q _ hq => by omega⟩
  case round =>
    obtain ⟨k, hk, rfl, HO⟩ := hrel
    by_cases hlt : k < n
    · have hkl : k < l.length := by have := HN.out; omega
      obtain ⟨bl, off, rfl, _, hc⟩ := Cs.at4 h (by omega)
      obtain ⟨c, hcx⟩ : ∃ c, c = l[k] := ⟨_, rfl⟩
      obtain ⟨hc0, hc1, _, _⟩ := hc k hkl
      rw [← hcx] at hc0 hc1
      have HYES : Hid (c.who = who ∧ c.cur = cur → IsIx who cur l (k : Int)) := fun hx => Or.inr ⟨k, hkl, rfl, by rw [← hcx]; exact hx, fun q hq => HO.out q (by omega) hq⟩
      have HNO : Hid (¬ (c.who = who ∧ c.cur = cur) → ∀ q (hq : q < l.length), q < k + 1 → ¬ (l[q].who = who ∧ l[q].cur = cur)) := fun hx q hq hqk => by
        by_cases e : q = k
        · subst e; rw [← hcx]; exact hx
        · exact HO.out q hq (by omega)
      obtain ⟨cw, cc, ca, ct⟩ := c
      simp only at hc0 hc1 HYES HNO
      clear hc hcx HO h
      by_cases e0 : cw = who
      · subst e0
        by_cases e1 : cc = cur
        · subst e1
          have HV := Lib.hid (HYES.out ⟨rfl, rfl⟩)
          clear HYES HNO
          go_wp2_with fail
          go_ret
          exact ⟨k, rfl, HV.out, rfl⟩
        · have HF := Lib.hid (HNO.out (fun hx => e1 hx.2))
          clear HYES HNO
          go_wp2_with fail
          exact ⟨⟨k + 1, by omega, by push_cast; rfl, HF.out⟩, by simp [intOf]; omega⟩
      · have HF := Lib.hid (HNO.out (fun hx => e0 hx.1))
        clear HYES HNO
        go_wp2_with fail
        exact ⟨⟨k + 1, by omega, by push_cast; rfl, HF.out⟩, by simp [intOf]; omega⟩
    · have HV : Hid (IsIx who cur l (-1)) := Or.inl ⟨rfl, fun q hq => HO.out q hq (by have := HN.out; omega)⟩
      go_wp2_with fail
      go_ret
      exact ⟨-1, rfl, HV.out, rfl⟩

end Cam
