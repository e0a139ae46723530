import Derived.Test.YtgjiphgehohooaaWdZ
/- cambistref01.Quo. -/
namespace Cam
open Go Go.RowKit Go.Proofs

/-- a quotient that is turned round -/
theorem quo_neg (v M n : Int) (hn : 0 < n) (h : M = -v) : (M % n = 0 → v / n = -(M / n) ∧ v % n = 0) ∧ (0 < M % n → v / n = -(M / n) - 1 ∧ v % n = n - M % n) := by
  have h1 := Int.emod_nonneg M (by omega : n ≠ 0)
  have h2 := Int.emod_lt_of_pos M hn
  have h3 := Int.mul_ediv_add_emod M n
  constructor
  · intro hz
    rw [Int.ediv_emod_unique hn]
    refine ⟨?_, by omega, by omega⟩
    rw [Int.mul_neg]
    omega
  · intro hz
    rw [Int.ediv_emod_unique hn]
    refine ⟨?_, by omega, by omega⟩
    rw [Int.mul_sub, Int.mul_neg]
    omega

/-- is it a quotient? -/
def wQuoB (v n : Int) : Bool := decide (wQuoE v n = 0)

set_option maxRecDepth 100000 in
set_option maxHeartbeats 3200000 in
theorem rQuo_run (w : World) (hi lo v n : Int) (h : IsW hi lo v) (hn : -9223372036854775808 ≤ n ∧ n ≤ 9223372036854775807) :
    Calls Try.prog 22 #[.agg #[.int .i64 hi, .int .u64 lo], .int .i64 n] w fun e w' => e = .returned (.tuple #[.int .i64 (wQuo v n), .int .i64 (wRem v n), .bool (wQuoB v n)]) ∧ Below w.heap.size w w' := by
  by_cases h0 : n < 1
  · have He : Hid (wQuoE v n = 2) := by show _ = _; unfold wQuoE; rw [if_pos (by omega)]
    go_enter Try.func22, Try.ntmps22
    go_wp2_with fail
    refine bodyPost_ret (v := .tuple #[.int .i64 (0), .int .i64 (0), .bool false]) (by simp [results, Try.results22, go_sem]) rfl ?_
    exact ⟨by simp [wQuo, wRem, wQuoB, He.out], (Below.refl _ _).alloc (Nat.le_refl _) _⟩
  have h0' : decide (n < 1) = false := by simp; omega
  have h0 : ¬ n ≤ 0 := by omega
  have hu : IntKind.u64.wrap n = n := by rw [IntKind.wrap_u64]; omega
  have hsg : IntKind.u64.signed = false := rfl
  obtain ⟨l, rfl⟩ : ∃ l : Nat, lo = l := ⟨lo.toNat, by have := h.2.1; omega⟩
  by_cases h1 : hi < 0
  · obtain ⟨u, hu1⟩ : ∃ u : Nat, (u : Int) = hi % 18446744073709551616 := ⟨(hi % 18446744073709551616).toNat, by omega⟩
    have e3 : IntKind.u64.wrap hi = (u : Int) := by rw [IntKind.wrap_u64, hu1]
    have n1 := not_u64 l (by have := h.2.1; omega)
    have n2 := not_u64 u (by omega)
    obtain ⟨x, hx⟩ : ∃ x : Nat, x = 18446744073709551615 - l := ⟨_, rfl⟩
    obtain ⟨y, hy⟩ : ∃ y : Nat, y = 18446744073709551615 - u := ⟨_, rfl⟩
    rw [← hx] at n1
    rw [← hy] at n2
    have a1 := fun w => add64_run x 1 0 (by omega) w
    have a2 := fun w => add64_run y 0 ((x + 1 + 0) / 18446744073709551616) (by omega) w
    rw [show (((0 : Nat) : Int)) = 0 from rfl, show (((1 : Nat) : Int)) = 1 from rfl] at a1
    rw [show (((0 : Nat) : Int)) = 0 from rfl] at a2
    have hM : (((y + 0 + (x + 1 + 0) / 18446744073709551616) % 18446744073709551616 : Nat) : Int) * 18446744073709551616 + (((x + 1 + 0) % 18446744073709551616 : Nat) : Int) = -v := by
      unfold IsW at h
      omega
    have hL : (x + 1 + 0) % 18446744073709551616 < 18446744073709551616 := by omega
    generalize (x + 1 + 0) / 18446744073709551616 = c at a1 a2 hM
    generalize (x + 1 + 0) % 18446744073709551616 = L at a1 hM hL
    generalize (y + 0 + c) % 18446744073709551616 = H at a2 hM
    generalize (y + 0 + c) / 18446744073709551616 = c' at a2
    clear hx hy hu1 h
    have hD : ∀ w, (H : Int) < n → DivOk w H L n := fun w hlt => Div64_ok w H L n hL hn.2 hlt
    have db := div_bounds H L n (by omega) (by omega) (by omega)
    unfold DivOk at hD
    have qn := quo_neg v ((H : Int) * 18446744073709551616 + L) n (by omega) hM
    clear hM
    generalize ((H : Int) * 18446744073709551616 + L) / n = Q at *
    generalize ((H : Int) * 18446744073709551616 + L) % n = R at *
    have hbig : 4611686018427387904 < Q → rightB (v / n) = false := by
      intro hq
      rw [Bool.eq_false_iff, Ne, rightB_iff]
      by_cases hz : R = 0
      · rw [(qn.1 hz).1]; omega
      · rw [(qn.2 (by omega)).1]; omega
    have Qn := Lib.hid qn
    have Hbig := Lib.hid hbig
    clear qn hbig
    by_cases h2 : n ≤ (H : Int)
    · have He : Hid (wQuoE v n = 1) := by
        show _ = _
        unfold wQuoE
        rw [if_neg h0, Hbig.out (by omega)]
        rfl
      clear hD
      go_enter Try.func22, Try.ntmps22
      go_wp2_with fail
      go_quiet (fail)
      go_wp2_with fail
      refine bodyPost_ret (v := .tuple #[.int .i64 (0), .int .i64 (0), .bool false]) (by simp [results, Try.results22, go_sem]) rfl ?_
      exact ⟨by simp [wQuo, wRem, wQuoB, He.out], below_drewN' ((Below.refl _ _).alloc (Nat.le_refl _) _) _⟩
    have h2' : decide (n ≤ (H : Int)) = false := by simp; omega
    have hD2 := fun w => hD w (by omega)
    clear hD
    by_cases hz : R = 0
    · subst hz
      have qt := Lib.hid (Qn.out.1 rfl)
      clear Qn
      by_cases h3 : 4611686018427387904 < Q
      · have He : Hid (wQuoE v n = 1) := by
          show _ = _
          unfold wQuoE
          rw [if_neg h0, Hbig.out (by omega)]
          rfl
        clear db
        go_enter Try.func22, Try.ntmps22
        go_wp2_with fail
        go_quiet (fail)
        go_wp2_with fail
        refine (hD2 _).mono ?_
        rintro e w1 ⟨rfl, hb1⟩
        go_wp2_with fail
        refine bodyPost_ret (v := .tuple #[.int .i64 (0), .int .i64 (0), .bool false]) (by simp [results, Try.results22, go_sem]) rfl ?_
        exact ⟨by simp [wQuo, wRem, wQuoB, He.out], (below_drewN' ((Below.refl _ _).alloc (Nat.le_refl _) _) _).next' hb1 (by simp)⟩
      · have h3' : decide (4611686018427387904 < Q) = false := by simp; omega
        have He : Hid (wQuoE v n = 0) := by
          show _ = _
          have hr : rightB (v / n) = true := by rw [rightB_iff, (qt.out).1]; omega
          unfold wQuoE
          rw [if_neg h0, hr]
          rfl
        have e5 : wrap64 Q = Q := by unfold wrap64; omega
        have e7 : wrap64 (-Q) = -Q := by unfold wrap64; omega
        clear db
        go_enter Try.func22, Try.ntmps22
        go_wp2_with fail
        go_quiet (fail)
        go_wp2_with fail
        refine (hD2 _).mono ?_
        rintro e w1 ⟨rfl, hb1⟩
        go_wp2_with fail
        refine bodyPost_ret (v := .tuple #[.int .i64 (-Q), .int .i64 (0), .bool true]) (by simp [results, Try.results22, go_sem, e7]) rfl ?_
        exact ⟨by simp [wQuo, wRem, wQuoB, He.out, qt.out.1, qt.out.2], (below_drewN' ((Below.refl _ _).alloc (Nat.le_refl _) _) _).next' hb1 (by simp)⟩
    · have qt := Lib.hid (Qn.out.2 (by omega))
      have hz' : 0 < R := by omega
      clear Qn
      by_cases h3 : 4611686018427387904 ≤ Q
      · have He : Hid (wQuoE v n = 1) := by
          show _ = _
          have hr : rightB (v / n) = false := by rw [Bool.eq_false_iff, Ne, rightB_iff, (qt.out).1]; omega
          unfold wQuoE
          rw [if_neg h0, hr]
          rfl
        clear db
        go_enter Try.func22, Try.ntmps22
        go_wp2_with fail
        go_quiet (fail)
        go_wp2_with fail
        refine (hD2 _).mono ?_
        rintro e w1 ⟨rfl, hb1⟩
        go_wp2_with fail
        refine bodyPost_ret (v := .tuple #[.int .i64 (0), .int .i64 (0), .bool false]) (by simp [results, Try.results22, go_sem]) rfl ?_
        exact ⟨by simp [wQuo, wRem, wQuoB, He.out], (below_drewN' ((Below.refl _ _).alloc (Nat.le_refl _) _) _).next' hb1 (by simp)⟩
      · have h3' : decide (4611686018427387904 ≤ Q) = false := by simp; omega
        have He : Hid (wQuoE v n = 0) := by
          show _ = _
          have hr : rightB (v / n) = true := by rw [rightB_iff, (qt.out).1]; omega
          unfold wQuoE
          rw [if_neg h0, hr]
          rfl
        have e5 : wrap64 Q = Q := by unfold wrap64; omega
        have e6 : wrap64 R = R := by unfold wrap64; omega
        have e7 : wrap64 (-Q) = -Q := by unfold wrap64; omega
        have e8 : wrap64 (-Q - 1) = -Q - 1 := by unfold wrap64; omega
        have e9 : wrap64 (n - R) = n - R := by unfold wrap64; omega
        clear db
        go_enter Try.func22, Try.ntmps22
        go_wp2_with fail
        go_quiet (fail)
        go_wp2_with fail
        refine (hD2 _).mono ?_
        rintro e w1 ⟨rfl, hb1⟩
        go_wp2_with fail
        refine bodyPost_ret (v := .tuple #[.int .i64 (-Q - 1), .int .i64 (n - R), .bool true]) (by simp [results, Try.results22, go_sem, e7, e8, e9]) rfl ?_
        exact ⟨by simp [wQuo, wRem, wQuoB, He.out, qt.out.1, qt.out.2], (below_drewN' ((Below.refl _ _).alloc (Nat.le_refl _) _) _).next' hb1 (by simp)⟩
  · have h1' : decide (hi < 0) = false := by simp; omega
    obtain ⟨H, hH⟩ : ∃ H : Nat, hi = H := ⟨hi.toNat, by omega⟩
    have hL : l < 18446744073709551616 := by have := h.2.1; omega
    have hV : (H : Int) * 18446744073709551616 + l = v := by have := h.2.2; omega
    have e3 : IntKind.u64.wrap hi = (H : Int) := by
      rw [IntKind.wrap_u64]
      have hb := h.1
      omega
    have hD : ∀ w, (H : Int) < n → DivOk w H l n := fun w hlt => Div64_ok w H l n hL hn.2 hlt
    have db := div_bounds H l n (by omega) (by omega) (by omega)
    unfold DivOk at hD
    have qt : v / n = ((H : Int) * 18446744073709551616 + l) / n ∧ v % n = ((H : Int) * 18446744073709551616 + l) % n := by rw [hV]; exact ⟨rfl, rfl⟩
    generalize ((H : Int) * 18446744073709551616 + l) / n = Q at *
    generalize ((H : Int) * 18446744073709551616 + l) % n = R at *
    have Qt := Lib.hid qt
    clear qt hV hH h hL
    by_cases h2 : n ≤ (H : Int)
    · have He : Hid (wQuoE v n = 1) := by
        show _ = _
        have hr : rightB (v / n) = false := by rw [Bool.eq_false_iff, Ne, rightB_iff, (Qt.out).1]; omega
        unfold wQuoE
        rw [if_neg h0, hr]
        rfl
      clear hD
      go_enter Try.func22, Try.ntmps22
      go_wp2_with fail
      go_quiet (fail)
      go_wp2_with fail
      refine bodyPost_ret (v := .tuple #[.int .i64 (0), .int .i64 (0), .bool false]) (by simp [results, Try.results22, go_sem]) rfl ?_
      exact ⟨by simp [wQuo, wRem, wQuoB, He.out], below_drewN' ((Below.refl _ _).alloc (Nat.le_refl _) _) _⟩
    have h2' : decide (n ≤ (H : Int)) = false := by simp; omega
    have hD2 := fun w => hD w (by omega)
    clear hD
    by_cases h3 : 4611686018427387904 < Q
    · have He : Hid (wQuoE v n = 1) := by
        show _ = _
        have hr : rightB (v / n) = false := by rw [Bool.eq_false_iff, Ne, rightB_iff, (Qt.out).1]; omega
        unfold wQuoE
        rw [if_neg h0, hr]
        rfl
      clear db
      go_enter Try.func22, Try.ntmps22
      go_wp2_with fail
      go_quiet (fail)
      go_wp2_with fail
      refine (hD2 _).mono ?_
      rintro e w1 ⟨rfl, hb1⟩
      go_wp2_with fail
      refine bodyPost_ret (v := .tuple #[.int .i64 (0), .int .i64 (0), .bool false]) (by simp [results, Try.results22, go_sem]) rfl ?_
      exact ⟨by simp [wQuo, wRem, wQuoB, He.out], (below_drewN' ((Below.refl _ _).alloc (Nat.le_refl _) _) _).next' hb1 (by simp)⟩
    · have h3' : decide (4611686018427387904 < Q) = false := by simp; omega
      have He : Hid (wQuoE v n = 0) := by
        show _ = _
        have hr : rightB (v / n) = true := by rw [rightB_iff, (Qt.out).1]; omega
        unfold wQuoE
        rw [if_neg h0, hr]
        rfl
      have e5 : wrap64 Q = Q := by unfold wrap64; omega
      have e6 : wrap64 R = R := by unfold wrap64; omega
      clear db
      go_enter Try.func22, Try.ntmps22
      go_wp2_with fail
      go_quiet (fail)
      go_wp2_with fail
      refine (hD2 _).mono ?_
      rintro e w1 ⟨rfl, hb1⟩
      go_wp2_with fail
      refine bodyPost_ret (v := .tuple #[.int .i64 (Q), .int .i64 (R), .bool true]) (by simp [results, Try.results22, go_sem, e5, e6]) rfl ?_
      exact ⟨by simp [wQuo, wRem, wQuoB, He.out, Qt.out.1, Qt.out.2], (below_drewN' ((Below.refl _ _).alloc (Nat.le_refl _) _) _).next' hb1 (by simp)⟩

end Cam
