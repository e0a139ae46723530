import Derived.Test.YtibahadebogmpaaNumLaw1
/- the laws of num: NumBack. -/
namespace Cam
open Go Go.RowKit Go.Proofs

set_option maxHeartbeats 1600000 in
theorem NumBack_walk (w : World) (a b : Int) (ha : -9223372036854775808 ≤ a ∧ a ≤ 9223372036854775807) (hb : -9223372036854775808 ≤ b ∧ b ≤ 9223372036854775807) :
    Calls Try.prog 5 #[.int .i64 a, .int .i64 b] w fun e w' => e = .returned (.bool true) ∧ Below w.heap.size w w' := by
  have tm := fun w => Times_any w a b ha hb
  clear ha hb
  go_enter Try.func5, Try.ntmps5
  go_wp2_with fail
  refine (Quo_any _ _ _).mono ?_
  rintro e w1 ⟨rfl, hb1⟩
  rcases quo_cases a b with ⟨h1, h2, h3⟩ | ⟨h1, h2, h3⟩ | ⟨h1, h2, h3, hb0, hr⟩
  · rw [h1, h2, h3]
    clear h1 h2 h3
    go_wp2_with fail
    refine (wakes_any _).mono ?_
    rintro e w2 ⟨rfl, hb2⟩
    go_wp2_with fail
    go_ret
    exact ⟨rfl, hb1.next hb2⟩
  · rw [h1, h2, h3]
    clear h1 h2 h3
    go_wp2_with fail
    refine (wakes_any _).mono ?_
    rintro e w2 ⟨rfl, hb2⟩
    go_wp2_with fail
    go_ret
    exact ⟨rfl, hb1.next hb2⟩
  · rw [h1, h2, h3]
    clear h1 h2 h3
    obtain ⟨s1, s2, s3⟩ := floor_spec a b hb0
    have ab := (two_right a b).1 hr
    generalize floorQ a b = q at *
    generalize floorR a b = r at *
    have hw : wrap64 (wrap64 (q * b) + r) = a := by
      generalize q * b = m at *
      unfold wrap64
      omega
    have Hr := Lib.hid hr
    have Hb0 := Lib.hid hb0
    have hq := mul_cases a b
    have Hq := Lib.hid hq
    clear s1 hr hb0 ab hq
    by_cases hp : 0 < b
    · have s4 := s2 hp
      have t1 : decide (b < 0) = false := by simp; omega
      have t2 : decide (r < 0) = false := by simp; omega
      have t3 : decide (b ≤ r) = false := by simp; omega
      clear s2 s3
      go_wp2_with fail
      refine (tm _).mono ?_
      rintro e w2 ⟨rfl, hb2⟩
      clear hw
      rcases Hq.out with ⟨h1, h2, _⟩ | ⟨h1, h2, _⟩ | ⟨h1, h2, _, h3⟩
      · rw [h1, h2]
        clear h1 h2
        go_wp2_with fail
        refine (wakes_any _).mono ?_
        rintro e w3 ⟨rfl, hb3⟩
        go_wp2_with fail
        go_ret
        exact ⟨rfl, (hb1.next hb2).next hb3⟩
      · rw [h1, h2]
        clear h1 h2
        go_wp2_with fail
        refine (wakes_any _).mono ?_
        rintro e w3 ⟨rfl, hb3⟩
        go_wp2_with fail
        go_ret
        exact ⟨rfl, (hb1.next hb2).next hb3⟩
      · rw [h1, h2]
        clear h1 h2
        obtain ⟨e1, e2, e3⟩ := quo_mul a b (by rw [two_right]; rw [rightB_iff] at h3; exact ⟨h3, ((two_right a b).1 Hr.out).2⟩) Hb0.out
        have E1 := Lib.hid e1
        have E2 := Lib.hid e2
        have E3 := Lib.hid e3
        clear e1 e2 e3 h3
        go_wp2_with fail
        refine (Quo_any _ _ _).mono ?_
        rintro e w3 ⟨rfl, hb3⟩
        rw [E1.out, E2.out, E3.out]
        go_wp2_with fail
        refine (wakes_any _).mono ?_
        rintro e w4 ⟨rfl, hb4⟩
        go_wp2_with fail
        go_ret
        exact ⟨rfl, ((hb1.next hb2).next hb3).next hb4⟩
    · have hn : b < 0 := by have := Hb0.out; omega
      have s4 := s3 hn
      have t1 : decide (0 < b) = false := by simp; omega
      have t2 : decide (0 < r) = false := by simp; omega
      have t3 : decide (r ≤ b) = false := by simp; omega
      clear s2 s3
      go_wp2_with fail
      refine (tm _).mono ?_
      rintro e w2 ⟨rfl, hb2⟩
      clear hw
      rcases Hq.out with ⟨h1, h2, _⟩ | ⟨h1, h2, _⟩ | ⟨h1, h2, _, h3⟩
      · rw [h1, h2]
        clear h1 h2
        go_wp2_with fail
        refine (wakes_any _).mono ?_
        rintro e w3 ⟨rfl, hb3⟩
        go_wp2_with fail
        go_ret
        exact ⟨rfl, (hb1.next hb2).next hb3⟩
      · rw [h1, h2]
        clear h1 h2
        go_wp2_with fail
        refine (wakes_any _).mono ?_
        rintro e w3 ⟨rfl, hb3⟩
        go_wp2_with fail
        go_ret
        exact ⟨rfl, (hb1.next hb2).next hb3⟩
      · rw [h1, h2]
        clear h1 h2
        obtain ⟨e1, e2, e3⟩ := quo_mul a b (by rw [two_right]; rw [rightB_iff] at h3; exact ⟨h3, ((two_right a b).1 Hr.out).2⟩) Hb0.out
        have E1 := Lib.hid e1
        have E2 := Lib.hid e2
        have E3 := Lib.hid e3
        clear e1 e2 e3 h3
        go_wp2_with fail
        refine (Quo_any _ _ _).mono ?_
        rintro e w3 ⟨rfl, hb3⟩
        rw [E1.out, E2.out, E3.out]
        go_wp2_with fail
        refine (wakes_any _).mono ?_
        rintro e w4 ⟨rfl, hb4⟩
        go_wp2_with fail
        go_ret
        exact ⟨rfl, ((hb1.next hb2).next hb3).next hb4⟩

end Cam
