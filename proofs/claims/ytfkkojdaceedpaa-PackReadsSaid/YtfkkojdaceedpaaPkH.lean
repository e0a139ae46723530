import Derived.Test.YtfkkojdaceedpaaPkI
import Derived.Test.YtfkkojdaceedpaaPkR2
/- cambistlaw04: heavy. -/
namespace Cam
open Go Go.RowKit Go.Proofs

def heavyI (x : Item) : Bool := decide (131072 < x.t.length ∨ 200 < x.l.length)
def heavyB (l : List Item) : Bool := decide (200 < l.length) || l.any heavyI

set_option maxHeartbeats 800000 in
theorem heavy_any (w : World) (v : Value) (l : List Item) (h : Its w v l) :
    Calls Try.prog 10 #[v] w fun e w' => e = .returned (.bool (heavyB l)) ∧ w = w' := by
  obtain ⟨a, cap, rfl, hcap, hm⟩ := h.shape
  by_cases hl : 200 < l.length
  · have He : Hid (heavyB l = true) := by show _ = _; simp [heavyB, hl]
    have hli : (200 : Int) < (l.length : Int) := by omega
    go_enter Try.func10, Try.ntmps10
    go_wp2_with fail
    go_ret
    exact ⟨by rw [He.out]; rfl, rfl⟩
  have hli : decide ((200 : Int) < (l.length : Int)) = false := by simp; omega
  have hB : Hid (heavyB l = l.any heavyI) := by show _ = _; simp [heavyB, hl]
  go_enter Try.func10, Try.ntmps10
  go_wp2_with fail
  go_loop [3] (fun i => ∃ k : Nat, k ≤ l.length ∧ i = .int .i64 k ∧ Hid ((l.take k).any heavyI = false)) (fun i => l.length - (intOf i).toNat)
  case atStart => exact ⟨0, Nat.zero_le _, rfl, rfl⟩
  case round =>
    obtain ⟨k, hk, rfl, Hn⟩ := hrel
    by_cases hlt : k < l.length
    · obtain ⟨b, off, rfl, _, hc⟩ := h.at (by omega)
      obtain ⟨vl, vt, ⟨_, hc1, _, hc3⟩, hil, hbt⟩ := hc k hlt
      clear hc
      obtain ⟨x, hx⟩ : ∃ x, x = l[k] := ⟨_, rfl⟩
      rw [← hx] at hil hbt
      obtain ⟨al, cl, rfl, _, _⟩ := hil.shape
      obtain ⟨at_, ct, rfl, _, _⟩ := hbt.shape
      have hT : Hid (heavyI x = true → heavyB l = true) := by
        show _ → _
        intro h1
        rw [hB.out, List.any_eq_true]
        exact ⟨l[k], List.getElem_mem _, by rw [← hx]; exact h1⟩
      have hF : Hid (heavyI x = false → (l.take (k + 1)).any heavyI = false) := by
        show _ → _
        intro h1
        rw [take_snoc l k hlt, List.any_append, Hn.out, ← hx]
        simp [h1]
      clear hx
      by_cases h1 : 131072 < x.t.length
      · have h1i : (131072 : Int) < (x.t.length : Int) := by omega
        have He := Lib.hid (hT.out (by simp [heavyI, h1]))
        go_wp2_with fail
        go_ret
        exact ⟨by rw [He.out]; rfl, rfl⟩
      · have h1i : decide ((131072 : Int) < (x.t.length : Int)) = false := by simp; omega
        by_cases h2 : 200 < x.l.length
        · have h2i : (200 : Int) < (x.l.length : Int) := by omega
          have He := Lib.hid (hT.out (by simp [heavyI, h2]))
          go_wp2_with fail
          go_ret
          exact ⟨by rw [He.out]; rfl, rfl⟩
        · have h2i : decide ((200 : Int) < (x.l.length : Int)) = false := by simp; omega
          have He := hF.out (by simp [heavyI, h1, h2])
          have HE := Lib.hid He
          clear He
          go_wp2_with fail
          exact ⟨⟨k + 1, by omega, by push_cast; rfl, HE⟩, by simp [intOf]; omega⟩
    · have He : Hid (heavyB l = false) := by show _ = _; rw [hB.out, ← Hn.out, List.take_of_length_le (by omega)]
      go_wp2_with fail
      go_ret
      exact ⟨by rw [He.out]; rfl, rfl⟩

end Cam
