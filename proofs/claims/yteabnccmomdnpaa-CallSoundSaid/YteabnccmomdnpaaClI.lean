import Derived.Test.YteabnccmomdnpaaClC
/- slices.Index and slices.Contains over numbers. -/
namespace Cam
open Go Go.RowKit Go.Proofs

def IdxPost (w : World) (l : List Int) (x : Int) (e : Ending) (w' : World) : Prop := ∃ r : Int, e = .returned (.int .i64 r) ∧ decide (0 ≤ r) = decide (x ∈ l) ∧ w = w'
set_option maxHeartbeats 800000 in
theorem Index_any (w : World) (v : Value) (l : List Int) (x : Int) (h : Is w v l) : Calls Try.prog 44 #[v, .int .i64 x] w (IdxPost w l x) := by
  obtain ⟨a, cap, rfl, hcap, hm⟩ := h.shape
  go_enter Try.func44, Try.ntmps44
  go_wp2_with fail
  go_loop [8] (fun i => ∃ k : Nat, k ≤ l.length ∧ i = .int .i64 k ∧ Hid (∀ y ∈ l.take k, ¬ x = y)) (fun i => l.length - (intOf i).toNat)
  case atStart => exact ⟨0, Nat.zero_le _, rfl, by show ∀ y ∈ l.take 0, _; simp⟩
  case round =>
    obtain ⟨k, hk, rfl, Hall⟩ := hrel
    by_cases hlt : k < l.length
    · obtain ⟨b, off, rfl, _, hc⟩ := h.at (by omega)
      have hck := hc k hlt
      clear hc
      obtain ⟨n, hn⟩ : ∃ n, n = l[k] := ⟨_, rfl⟩
      rw [← hn] at hck
      have Hn := Lib.hid hn
      clear hn
      by_cases h0 : x = n
      · have HV : Hid (decide (0 ≤ (k : Int)) = decide (x ∈ l)) := by
          show _ = _
          rw [decide_eq_true (show (0 : Int) ≤ k by omega), decide_eq_true (show x ∈ l by rw [h0, Hn.out]; exact List.getElem_mem _)]
        subst h0
        go_wp2_with fail
        go_ret
        exact ⟨k, rfl, HV.out, rfl⟩
      · have H2 : Hid (∀ y ∈ l.take (k + 1), ¬ x = y) := by
          show ∀ y ∈ _, _
          rw [take_snoc _ _ hlt, ← Hn.out]
          intro y hy
          rcases List.mem_append.1 hy with h1 | h1
          · exact Hall.out y h1
          · simp at h1
            rw [h1]
            exact h0
        go_wp2_with fail
        exact ⟨⟨k + 1, by omega, by push_cast; rfl, H2⟩, by simp [intOf]; omega⟩
    · have HV : Hid (decide (0 ≤ (-1 : Int)) = decide (x ∈ l)) := by
        show _ = _
        have := Hall.out
        rw [List.take_of_length_le (by omega)] at this
        rw [decide_eq_false (show ¬ (0 : Int) ≤ -1 by omega), decide_eq_false (fun hx => this x hx rfl)]
      go_wp2_with fail
      go_ret
      exact ⟨-1, rfl, HV.out, rfl⟩
theorem Contains_any (w : World) (v : Value) (l : List Int) (x : Int) (h : Is w v l) : Calls Try.prog 32 #[v, .int .i64 x] w fun e w' => e = .returned (.bool (decide (x ∈ l))) ∧ w = w' := by
  go_enter Try.func32, Try.ntmps32
  go_wp2_with fail
  refine (Index_any _ v l x h).mono ?_
  rintro e w1 ⟨r, rfl, hr, rfl⟩
  have HR := Lib.hid hr
  clear hr
  go_wp2_with fail
  go_ret
  exact ⟨by rw [← HR.out]; rfl, rfl⟩

end Cam
