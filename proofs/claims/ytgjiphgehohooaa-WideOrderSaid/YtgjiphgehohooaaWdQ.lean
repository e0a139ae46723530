import Derived.Test.YtgjiphgehohooaaRefW
/- wide.Quo, wide.Share, from what Div64 answers. -/
namespace Cam
open Go Go.RowKit Go.Proofs

theorem quo_turn (v V n : Int) (hn : 0 < n) (h : V = -v - 1) : v / n = -(V / n) - 1 ∧ v % n = n - 1 - V % n := by
  have h1 := Int.emod_nonneg V (by omega : n ≠ 0)
  have h2 := Int.emod_lt_of_pos V hn
  have h3 := Int.mul_ediv_add_emod V n
  rw [Int.ediv_emod_unique hn]
  refine ⟨?_, by omega, by omega⟩
  rw [Int.mul_sub, Int.mul_neg]
  omega

theorem div_bounds (H L n : Int) (hn : 0 < n) (hH : 0 ≤ H) (hL : 0 ≤ L ∧ L ≤ 18446744073709551615) :
    0 ≤ (H * 18446744073709551616 + L) % n ∧ (H * 18446744073709551616 + L) % n < n ∧ 0 ≤ (H * 18446744073709551616 + L) / n ∧
    (H < n → (H * 18446744073709551616 + L) / n < 18446744073709551616) ∧ (n ≤ H → 18446744073709551616 ≤ (H * 18446744073709551616 + L) / n) := by
  refine ⟨Int.emod_nonneg _ (by omega), Int.emod_lt_of_pos _ hn, Int.ediv_nonneg (by omega) (by omega), fun h => ?_, fun h => ?_⟩
  · exact Int.ediv_lt_of_lt_mul hn (by omega)
  · exact Int.le_ediv_of_mul_le hn (by omega)

/-- what Div64 is handed and answers, to a wide and a divisor above 0 -/
def DivOk (w : World) (H L : Nat) (n : Int) : Prop :=
  Calls Try.prog 30 #[.int .u64 H, .int .u64 L, .int .u64 n] w fun e w' => e = .returned (.tuple #[.int .u64 (((H : Int) * 18446744073709551616 + L) / n), .int .u64 (((H : Int) * 18446744073709551616 + L) % n)]) ∧ Below w.heap.size w w'

/-- the words that are divided -/
def upW (hi : Int) : Nat := if hi < 0 then (-hi - 1).toNat else hi.toNat
def dnW (hi lo : Int) : Nat := if hi < 0 then (18446744073709551615 - lo).toNat else lo.toNat

set_option maxHeartbeats 1600000 in
theorem Quo_of (w : World) (hi lo v n : Int) (h : IsW hi lo v) (hn : -9223372036854775808 ≤ n ∧ n ≤ 9223372036854775807) (hd : ∀ w, 0 < n → (upW hi : Int) < n → DivOk w (upW hi) (dnW hi lo) n) :
    Calls Try.prog 21 #[.agg #[.int .i64 hi, .int .u64 lo], .int .i64 n] w fun e w' => e = .returned (.tuple #[.int .i64 (wQuo v n), .int .i64 (wRem v n), .int .i64 (wQuoE v n)]) ∧ Below w.heap.size w w' := by
  by_cases h0 : n ≤ 0
  · have He : Hid (wQuoE v n = 2) := by show _ = _; unfold wQuoE; rw [if_pos h0]
    clear hd
    go_enter Try.func21, Try.ntmps21
    go_wp2_with fail
    refine bodyPost_ret (v := .tuple #[.int .i64 0, .int .i64 0, .int .i64 2]) (by simp [results, Try.results21, go_sem]) rfl ?_
    exact ⟨by simp [wQuo, wRem, He.out], (Below.refl _ _).alloc (Nat.le_refl _) _⟩
  have h0' : decide (n ≤ 0) = false := by simp; omega
  have hsg : IntKind.u64.signed = false := rfl
  have hu : IntKind.u64.wrap n = n := by rw [IntKind.wrap_u64]; omega
  by_cases h1 : hi < 0
  · have e1 : (upW hi : Int) = -hi - 1 := by unfold upW; rw [if_pos h1]; omega
    have e2 : (dnW hi lo : Int) = 18446744073709551615 - lo := by unfold dnW; rw [if_pos h1]; have := h.2.1; omega
    have e3 : bits .xor .u64 IntKind.u64.max (IntKind.u64.wrap hi) = (upW hi : Int) := by
      have := not_u64 (IntKind.u64.wrap hi).toNat (by rw [IntKind.wrap_u64]; omega)
      rw [IntKind.wrap_u64] at this ⊢
      rw [show (((hi % 18446744073709551616).toNat : Nat) : Int) = hi % 18446744073709551616 by omega] at this
      have hb := h.1
      rw [this]
      omega
    have e4 : bits .xor .u64 IntKind.u64.max lo = (dnW hi lo : Int) := by
      have hb := h.2.1
      have := not_u64 lo.toNat (by omega)
      rw [show ((lo.toNat : Nat) : Int) = lo by omega] at this
      rw [this]
      omega
    have hV : (upW hi : Int) * 18446744073709551616 + dnW hi lo = -v - 1 := by
      have := h.2.2
      rw [e1, e2]
      omega
    have hD : ∀ w, (upW hi : Int) < n → DivOk w (upW hi) (dnW hi lo) n := fun w => hd w (by omega)
    have qt := quo_turn v ((upW hi : Int) * 18446744073709551616 + dnW hi lo) n (by omega) hV
    have db := div_bounds (upW hi) (dnW hi lo) n (by omega) (by omega) (by have := h.2.1; omega)
    clear hV
    generalize upW hi = H at *
    generalize dnW hi lo = L at *
    unfold DivOk at hD
    generalize ((H : Int) * 18446744073709551616 + L) / n = Q at *
    generalize ((H : Int) * 18446744073709551616 + L) % n = R at *
    have Qt := Lib.hid qt
    clear qt e1 e2 h
    by_cases h2 : n ≤ (H : Int)
    · have He : Hid (wQuoE v n = 1) := by
        show _ = _
        have hr : rightB (v / n) = false := by rw [Bool.eq_false_iff, Ne, rightB_iff, Qt.out.1]; omega
        unfold wQuoE
        rw [if_neg h0, hr]
        rfl
      clear hd hD
      go_enter Try.func21, Try.ntmps21
      go_wp2_with fail
      go_quiet (fail)
      go_wp2_with fail
      refine bodyPost_ret (v := .tuple #[.int .i64 0, .int .i64 0, .int .i64 1]) (by simp [results, Try.results21, go_sem]) rfl ?_
      exact ⟨by simp [wQuo, wRem, He.out], below_drewN' ((Below.refl _ _).alloc (Nat.le_refl _) _) _⟩
    have h2' : decide (n ≤ (H : Int)) = false := by simp; omega
    have hD2 := fun w => hD w (by omega)
    have Db := Lib.hid db
    clear hd hD db
    by_cases h3 : 4611686018427387904 < Q
    · have He : Hid (wQuoE v n = 1) := by
        show _ = _
        have hr : rightB (v / n) = false := by rw [Bool.eq_false_iff, Ne, rightB_iff, Qt.out.1]; omega
        unfold wQuoE
        rw [if_neg h0, hr]
        rfl
      go_enter Try.func21, Try.ntmps21
      go_wp2_with fail
      go_quiet (fail)
      go_wp2_with fail
      refine (hD2 _).mono ?_
      rintro e w1 ⟨rfl, hb1⟩
      go_wp2_with fail
      refine bodyPost_ret (v := .tuple #[.int .i64 0, .int .i64 0, .int .i64 1]) (by simp [results, Try.results21, go_sem]) rfl ?_
      exact ⟨by simp [wQuo, wRem, He.out], (below_drewN' ((Below.refl _ _).alloc (Nat.le_refl _) _) _).next' hb1 (by simp)⟩
    have h3' : decide (4611686018427387904 < Q) = false := by simp; omega
    have hb := Db.out
    have e5 : wrap64 Q = Q := by unfold wrap64; omega
    have e6 : wrap64 R = R := by unfold wrap64; omega
    have e7 : wrap64 (-Q) = -Q := by unfold wrap64; omega
    have e8 : wrap64 (-Q - 1) = -Q - 1 := by unfold wrap64; omega
    have e9 : wrap64 (n - 1) = n - 1 := by unfold wrap64; omega
    have e10 : wrap64 (n - 1 - R) = n - 1 - R := by unfold wrap64; omega
    clear hb
    have rr := fun w v' h => Right_any w v' [-Q - 1] h
    have e11 : allRight [-Q - 1] = rightB (v / n) := by rw [Qt.out.1]; simp [allRight]
    rw [e11] at rr
    clear e11
    cases hr : rightB (v / n) with
    | false =>
      rw [hr] at rr
      have He : Hid (wQuoE v n = 1) := by
        show _ = _
        unfold wQuoE
        rw [if_neg h0, hr]
        rfl
      clear hr
      go_enter Try.func21, Try.ntmps21
      go_wp2_with fail
      go_quiet (fail)
      go_wp2_with fail
      refine (hD2 _).mono ?_
      rintro e w1 ⟨rfl, hb1⟩
      go_wp2_with fail
      refine (rr _ _ (Is.block (l := [-Q - 1]) (heap_new rfl) (Nat.le_refl _) (by simp [maxLen]))).mono ?_
      rintro e w2 ⟨rfl, rfl⟩
      go_wp2_with fail
      refine bodyPost_ret (v := .tuple #[.int .i64 0, .int .i64 0, .int .i64 1]) (by simp [results, Try.results21, go_sem]) rfl ?_
      exact ⟨by simp [wQuo, wRem, He.out], ((below_drewN' ((Below.refl _ _).alloc (Nat.le_refl _) _) _).next' hb1 (by simp)).alloc (by have := hb1.size; simp at this; omega) _⟩
    | true =>
      rw [hr] at rr
      have He : Hid (wQuoE v n = 0) := by
        show _ = _
        unfold wQuoE
        rw [if_neg h0, hr]
        rfl
      clear hr
      go_enter Try.func21, Try.ntmps21
      go_wp2_with fail
      go_quiet (fail)
      go_wp2_with fail
      refine (hD2 _).mono ?_
      rintro e w1 ⟨rfl, hb1⟩
      go_wp2_with fail
      refine (rr _ _ (Is.block (l := [-Q - 1]) (heap_new rfl) (Nat.le_refl _) (by simp [maxLen]))).mono ?_
      rintro e w2 ⟨rfl, rfl⟩
      go_wp2_with fail
      refine bodyPost_ret (v := .tuple #[.int .i64 (-Q - 1), .int .i64 (n - 1 - R), .int .i64 0]) (by simp [results, Try.results21, go_sem]) rfl ?_
      exact ⟨by simp [wQuo, wRem, He.out, Qt.out.1, Qt.out.2], ((below_drewN' ((Below.refl _ _).alloc (Nat.le_refl _) _) _).next' hb1 (by simp)).alloc (by have := hb1.size; simp at this; omega) _⟩
  · have h1' : decide (hi < 0) = false := by simp; omega
    have e1 : (upW hi : Int) = hi := by unfold upW; rw [if_neg h1]; omega
    obtain ⟨L, rfl⟩ : ∃ L : Nat, lo = L := ⟨lo.toNat, by have := h.2.1; omega⟩
    have e2 : dnW hi (L : Int) = L := by unfold dnW; rw [if_neg h1]; omega
    have e3 : IntKind.u64.wrap hi = (upW hi : Int) := by
      rw [IntKind.wrap_u64]
      have hb := h.1
      omega
    have qt : v / n = ((upW hi : Int) * 18446744073709551616 + L) / n ∧ v % n = ((upW hi : Int) * 18446744073709551616 + L) % n := by
      have := h.2.2
      rw [e1, this]
      exact ⟨rfl, rfl⟩
    have hD : ∀ w, (upW hi : Int) < n → DivOk w (upW hi) L n := fun w h => by have := hd w (by omega) h; rwa [e2] at this
    have db := div_bounds (upW hi) L n (by omega) (by omega) (by have := h.2.1; omega)
    clear hd
    generalize upW hi = H at *
    unfold DivOk at hD
    generalize ((H : Int) * 18446744073709551616 + L) / n = Q at *
    generalize ((H : Int) * 18446744073709551616 + L) % n = R at *
    have Qt := Lib.hid qt
    clear qt e1 e2 h
    by_cases h2 : n ≤ (H : Int)
    · have He : Hid (wQuoE v n = 1) := by
        show _ = _
        have hr : rightB (v / n) = false := by rw [Bool.eq_false_iff, Ne, rightB_iff, Qt.out.1]; omega
        unfold wQuoE
        rw [if_neg h0, hr]
        rfl
      clear hD
      go_enter Try.func21, Try.ntmps21
      go_wp2_with fail
      go_quiet (fail)
      go_wp2_with fail
      refine bodyPost_ret (v := .tuple #[.int .i64 0, .int .i64 0, .int .i64 1]) (by simp [results, Try.results21, go_sem]) rfl ?_
      exact ⟨by simp [wQuo, wRem, He.out], below_drewN' ((Below.refl _ _).alloc (Nat.le_refl _) _) _⟩
    have h2' : decide (n ≤ (H : Int)) = false := by simp; omega
    have hD2 := fun w => hD w (by omega)
    have Db := Lib.hid db
    clear hD db
    by_cases h3 : 4611686018427387904 < Q
    · have He : Hid (wQuoE v n = 1) := by
        show _ = _
        have hr : rightB (v / n) = false := by rw [Bool.eq_false_iff, Ne, rightB_iff, Qt.out.1]; omega
        unfold wQuoE
        rw [if_neg h0, hr]
        rfl
      go_enter Try.func21, Try.ntmps21
      go_wp2_with fail
      go_quiet (fail)
      go_wp2_with fail
      refine (hD2 _).mono ?_
      rintro e w1 ⟨rfl, hb1⟩
      go_wp2_with fail
      refine bodyPost_ret (v := .tuple #[.int .i64 0, .int .i64 0, .int .i64 1]) (by simp [results, Try.results21, go_sem]) rfl ?_
      exact ⟨by simp [wQuo, wRem, He.out], (below_drewN' ((Below.refl _ _).alloc (Nat.le_refl _) _) _).next' hb1 (by simp)⟩
    have h3' : decide (4611686018427387904 < Q) = false := by simp; omega
    have hb := Db.out
    have e5 : wrap64 Q = Q := by unfold wrap64; omega
    have e6 : wrap64 R = R := by unfold wrap64; omega
    have e7 : wrap64 (-Q) = -Q := by unfold wrap64; omega
    have e8 : wrap64 (-Q - 1) = -Q - 1 := by unfold wrap64; omega
    have e9 : wrap64 (n - 1) = n - 1 := by unfold wrap64; omega
    have e10 : wrap64 (n - 1 - R) = n - 1 - R := by unfold wrap64; omega
    clear hb
    have rr := fun w v' h => Right_any w v' [Q] h
    have e11 : allRight [Q] = rightB (v / n) := by rw [Qt.out.1]; simp [allRight]
    rw [e11] at rr
    clear e11
    cases hr : rightB (v / n) with
    | false =>
      rw [hr] at rr
      have He : Hid (wQuoE v n = 1) := by
        show _ = _
        unfold wQuoE
        rw [if_neg h0, hr]
        rfl
      clear hr
      go_enter Try.func21, Try.ntmps21
      go_wp2_with fail
      go_quiet (fail)
      go_wp2_with fail
      refine (hD2 _).mono ?_
      rintro e w1 ⟨rfl, hb1⟩
      go_wp2_with fail
      refine (rr _ _ (Is.block (l := [Q]) (heap_new rfl) (Nat.le_refl _) (by simp [maxLen]))).mono ?_
      rintro e w2 ⟨rfl, rfl⟩
      go_wp2_with fail
      refine bodyPost_ret (v := .tuple #[.int .i64 0, .int .i64 0, .int .i64 1]) (by simp [results, Try.results21, go_sem]) rfl ?_
      exact ⟨by simp [wQuo, wRem, He.out], ((below_drewN' ((Below.refl _ _).alloc (Nat.le_refl _) _) _).next' hb1 (by simp)).alloc (by have := hb1.size; simp at this; omega) _⟩
    | true =>
      rw [hr] at rr
      have He : Hid (wQuoE v n = 0) := by
        show _ = _
        unfold wQuoE
        rw [if_neg h0, hr]
        rfl
      clear hr
      go_enter Try.func21, Try.ntmps21
      go_wp2_with fail
      go_quiet (fail)
      go_wp2_with fail
      refine (hD2 _).mono ?_
      rintro e w1 ⟨rfl, hb1⟩
      go_wp2_with fail
      refine (rr _ _ (Is.block (l := [Q]) (heap_new rfl) (Nat.le_refl _) (by simp [maxLen]))).mono ?_
      rintro e w2 ⟨rfl, rfl⟩
      go_wp2_with fail
      refine bodyPost_ret (v := .tuple #[.int .i64 (Q), .int .i64 (R), .int .i64 0]) (by simp [results, Try.results21, go_sem]) rfl ?_
      exact ⟨by simp [wQuo, wRem, He.out, Qt.out.1, Qt.out.2], ((below_drewN' ((Below.refl _ _).alloc (Nat.le_refl _) _) _).next' hb1 (by simp)).alloc (by have := hb1.size; simp at this; omega) _⟩

end Cam
