import Derived.Test.YteabnccmomdnpaaClC
/- small functions of the references: within, Who, Cur. -/
namespace Cam
open Go Go.RowKit Go.Proofs

theorem within15_any (w : World) (n lo hi : Int) : Calls Try.prog 30 #[.int .i64 n, .int .i64 lo, .int .i64 hi] w fun e w' => e = .returned (.bool (decide (lo ≤ n ∧ n ≤ hi))) ∧ w = w' := by
  by_cases h1 : lo ≤ n
  · by_cases h2 : n ≤ hi
    · have HV : Hid (decide (lo ≤ n ∧ n ≤ hi) = true) := decide_eq_true ⟨h1, h2⟩
      go_enter Try.func30, Try.ntmps30
      go_wp2_with fail
      go_ret
      exact ⟨by rw [HV.out]; rfl, rfl⟩
    · have HV : Hid (decide (lo ≤ n ∧ n ≤ hi) = false) := decide_eq_false (fun h => h2 h.2)
      have h2' : decide (n ≤ hi) = false := by simpa using h2
      clear h2
      go_enter Try.func30, Try.ntmps30
      go_wp2_with fail
      go_ret
      exact ⟨by rw [HV.out]; rfl, rfl⟩
  · have HV : Hid (decide (lo ≤ n ∧ n ≤ hi) = false) := decide_eq_false (fun h => h1 h.1)
    have h1' : decide (lo ≤ n) = false := by simpa using h1
    clear h1
    go_enter Try.func30, Try.ntmps30
    go_wp2_with fail
    go_ret
    exact ⟨by rw [HV.out]; rfl, rfl⟩
theorem within11_any (w : World) (n lo hi : Int) : Calls Try.prog 43 #[.int .i64 n, .int .i64 lo, .int .i64 hi] w fun e w' => e = .returned (.bool (decide (lo ≤ n ∧ n ≤ hi))) ∧ w = w' := by
  by_cases h1 : lo ≤ n
  · by_cases h2 : n ≤ hi
    · have HV : Hid (decide (lo ≤ n ∧ n ≤ hi) = true) := decide_eq_true ⟨h1, h2⟩
      go_enter Try.func43, Try.ntmps43
      go_wp2_with fail
      go_ret
      exact ⟨by rw [HV.out]; rfl, rfl⟩
    · have HV : Hid (decide (lo ≤ n ∧ n ≤ hi) = false) := decide_eq_false (fun h => h2 h.2)
      have h2' : decide (n ≤ hi) = false := by simpa using h2
      clear h2
      go_enter Try.func43, Try.ntmps43
      go_wp2_with fail
      go_ret
      exact ⟨by rw [HV.out]; rfl, rfl⟩
  · have HV : Hid (decide (lo ≤ n ∧ n ≤ hi) = false) := decide_eq_false (fun h => h1 h.1)
    have h1' : decide (lo ≤ n) = false := by simpa using h1
    clear h1
    go_enter Try.func43, Try.ntmps43
    go_wp2_with fail
    go_ret
    exact ⟨by rw [HV.out]; rfl, rfl⟩
theorem rWho_any (w : World) (n : Int) : Calls Try.prog 28 #[.int .i64 n] w fun e w' => e = .returned (.bool (decide ((1 : Int) ≤ n ∧ n ≤ 16))) ∧ w = w' := by
  have wi := within11_any w n 1 16
  obtain ⟨B, hB⟩ : ∃ B, B = decide ((1 : Int) ≤ n ∧ n ≤ 16) := ⟨_, rfl⟩
  rw [← hB] at wi ⊢
  clear hB
  go_enter Try.func28, Try.ntmps28
  go_wp2_with fail
  refine wi.mono ?_
  clear wi
  rintro e w1 ⟨rfl, rfl⟩
  go_wp2_with fail
  go_ret
  exact ⟨rfl, rfl⟩
theorem rCur_any (w : World) (n : Int) : Calls Try.prog 29 #[.int .i64 n] w fun e w' => e = .returned (.bool (decide ((0 : Int) ≤ n ∧ n ≤ 2))) ∧ w = w' := by
  have wi := within11_any w n 0 2
  obtain ⟨B, hB⟩ : ∃ B, B = decide ((0 : Int) ≤ n ∧ n ≤ 2) := ⟨_, rfl⟩
  rw [← hB] at wi ⊢
  clear hB
  go_enter Try.func29, Try.ntmps29
  go_wp2_with fail
  refine wi.mono ?_
  clear wi
  rintro e w1 ⟨rfl, rfl⟩
  go_wp2_with fail
  go_ret
  exact ⟨rfl, rfl⟩

end Cam
