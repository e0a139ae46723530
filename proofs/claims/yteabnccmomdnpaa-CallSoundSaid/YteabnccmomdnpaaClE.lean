import Derived.Test.YteabnccmomdnpaaClD
/- cambistref15.callable. -/
namespace Cam
open Go Go.RowKit Go.Proofs

def callB (who cur amt : Int) : Bool := decide ((1 : Int) ≤ who ∧ who ≤ 16) && (decide ((0 : Int) ≤ cur ∧ cur ≤ 2) && decide ((0 : Int) ≤ amt ∧ amt ≤ 4611686018427387904))
set_option maxHeartbeats 800000 in
theorem callable_any (w : World) (who cur amt : Int) : Calls Try.prog 36 #[.agg #[.int .i64 who, .int .i64 cur, .int .i64 amt]] w
    fun e w' => e = .returned (.bool (callB who cur amt)) ∧ Below w.heap.size w w' := by
  have HB : Hid (Below w.heap.size w (w.alloc (.cells #[.int .i64 who, .int .i64 cur, .int .i64 amt] 26))) := (Below.refl w.heap.size w).alloc (Nat.le_refl _) _
  have c1 := fun w => rWho_any w who
  have c2 := fun w => rCur_any w cur
  have c3 := fun w => within15_any w amt 0 4611686018427387904
  have HV : Hid (callB who cur amt = (decide ((1 : Int) ≤ who ∧ who ≤ 16) && (decide ((0 : Int) ≤ cur ∧ cur ≤ 2) && decide ((0 : Int) ≤ amt ∧ amt ≤ 4611686018427387904)))) := rfl
  obtain ⟨b1, h1⟩ : ∃ B, B = decide ((1 : Int) ≤ who ∧ who ≤ 16) := ⟨_, rfl⟩
  obtain ⟨b2, h2⟩ : ∃ B, B = decide ((0 : Int) ≤ cur ∧ cur ≤ 2) := ⟨_, rfl⟩
  obtain ⟨b3, h3⟩ : ∃ B, B = decide ((0 : Int) ≤ amt ∧ amt ≤ 4611686018427387904) := ⟨_, rfl⟩
  rw [← h1, ← h2, ← h3] at HV
  rw [← h1] at c1
  rw [← h2] at c2
  rw [← h3] at c3
  clear h1 h2 h3
  go_enter Try.func36, Try.ntmps36
  go_wp2_with fail
  refine (c1 _).mono ?_
  clear c1
  rintro e w1 ⟨rfl, rfl⟩
  cases b1 with
  | false =>
    go_wp2_with fail
    go_ret
    exact ⟨by rw [HV.out]; rfl, HB.out⟩
  | true =>
    go_wp2_with fail
    refine (c2 _).mono ?_
    clear c2
    rintro e w1 ⟨rfl, rfl⟩
    cases b2 with
    | false =>
      go_wp2_with fail
      go_ret
      exact ⟨by rw [HV.out]; rfl, HB.out⟩
    | true =>
      go_wp2_with fail
      refine (c3 _).mono ?_
      clear c3
      rintro e w1 ⟨rfl, rfl⟩
      cases b3 with
      | false =>
        go_wp2_with fail
        go_ret
        exact ⟨by rw [HV.out]; rfl, HB.out⟩
      | true =>
        go_wp2_with fail
        go_ret
        exact ⟨by rw [HV.out]; rfl, HB.out⟩

end Cam
