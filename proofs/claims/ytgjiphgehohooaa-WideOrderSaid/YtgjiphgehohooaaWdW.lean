import Derived.Test.YtgjiphgehohooaaWdQ
/- Div64 of a small number; wide.Share; cambistlaw02: same, wakes. -/
namespace Cam
open Go Go.RowKit Go.Proofs

set_option maxRecDepth 100000 in
set_option maxHeartbeats 800000 in
theorem Div64_small (w : World) (L : Nat) (n : Int) (hL : L < 18446744073709551616) (hn : 0 < n ∧ n ≤ 9223372036854775807) : DivOk w 0 L n := by
  unfold DivOk
  rw [show (((0 : Nat) : Int)) = 0 from rfl, Int.zero_mul, Int.zero_add]
  have h0 : ¬ n = 0 := by omega
  have h1 : 0 < n := hn.1
  have h2 : decide (n ≤ 0) = false := by simp; omega
  obtain ⟨q, hq⟩ : ∃ q, q = (L : Int) / n := ⟨_, rfl⟩
  obtain ⟨r, hr⟩ : ∃ r, r = (L : Int) % n := ⟨_, rfl⟩
  have e1 : (L : Int).tdiv n = q := by rw [hq]; exact Int.tdiv_eq_ediv_of_nonneg (by omega)
  have e2 : (L : Int).tmod n = r := by rw [hr]; exact Int.tmod_eq_emod_of_nonneg (by omega)
  have e3 : IntKind.u64.wrap q = q := by
    have h1 : 0 ≤ (L : Int) / n := Int.ediv_nonneg (by omega) (by omega)
    have h2 : (L : Int) / n ≤ L := Int.ediv_le_self _ (by omega)
    rw [IntKind.wrap_u64, hq]; omega
  have e4 : IntKind.u64.wrap r = r := by
    have h1 : 0 ≤ (L : Int) % n := Int.emod_nonneg _ (by omega)
    have h2 : (L : Int) % n < n := Int.emod_lt_of_pos _ (by omega)
    rw [IntKind.wrap_u64, hr]; omega
  have Hq := Lib.hid hq
  have Hr := Lib.hid hr
  rw [← hq, ← hr]
  clear hq hr hn
  go_enter Try.func30, Try.ntmps30
  go_wp2_with fail
  go_quiet (fail)
  go_wp2_with fail
  go_ret2
  exact ⟨rfl, below_drewN' (Below.refl _ _) _⟩

/-- wide.Share -/
theorem Share_of (w : World) (a b c : Int) (ha : -9223372036854775808 ≤ a ∧ a ≤ 9223372036854775807) (hb : -9223372036854775808 ≤ b ∧ b ≤ 9223372036854775807) (hc : -9223372036854775808 ≤ c ∧ c ≤ 9223372036854775807)
    (hd : ∀ w hi lo, IsW hi lo (a * b) → 0 < c → (upW hi : Int) < c → DivOk w (upW hi) (dnW hi lo) c) :
    Calls Try.prog 11 #[.int .i64 a, .int .i64 b, .int .i64 c] w fun e w' => e = .returned (.tuple #[.int .i64 (wQuo (a * b) c), .int .i64 (wQuoE (a * b) c)]) ∧ Below w.heap.size w w' := by
  have ti := fun w => wTimes_any w a b ha hb
  obtain ⟨p, q, hpq, epq⟩ := wideV_form (v := a * b) (by have := prod_bound a b ha hb; rw [isWide_iff]; omega)
  have qu := fun w => Quo_of w p q (a * b) c hpq hc (fun w => hd w p q hpq)
  rw [epq] at ti
  clear hd hpq epq ha hb hc
  generalize wQuo (a * b) c = x at *
  generalize wRem (a * b) c = y at *
  generalize wQuoE (a * b) c = z at *
  go_enter Try.func11, Try.ntmps11
  go_wp2_with fail
  refine (ti _).mono ?_
  rintro e w1 ⟨rfl, hb1⟩
  go_wp2_with fail
  refine (qu _).mono ?_
  rintro e w2 ⟨rfl, hb2⟩
  go_wp2_with fail
  go_ret2
  exact ⟨rfl, hb1.next hb2⟩

theorem same_run (w : World) (v u hi lo hi' lo' : Int) (h : IsW hi lo v) (h' : IsW hi' lo' u) :
    Calls Try.prog 12 #[.agg #[.int .i64 hi, .int .u64 lo], .agg #[.int .i64 hi', .int .u64 lo']] w fun e w' => e = .returned (.bool (decide (v = u))) ∧ Below w.heap.size w w' := by
  have H := Lib.hid (h.eq h')
  clear h h'
  by_cases h3 : hi = hi'
  · subst h3
    by_cases h4 : lo = lo'
    · subst h4
      have h2 : Hid (decide (v = u) = true) := by show _ = _; simp; exact H.out.2 ⟨rfl, rfl⟩
      go_enter Try.func12, Try.ntmps12
      go_wp2_with fail
      go_ret
      exact ⟨by rw [h2.out]; rfl, ((Below.refl _ _).alloc (Nat.le_refl _) _).alloc (by simp) _⟩
    · have h2 : Hid (decide (v = u) = false) := by show _ = _; rw [decide_eq_false_iff_not, H.out]; omega
      have h5 : (lo == lo') = false := by simp [h4]
      go_enter Try.func12, Try.ntmps12
      go_wp2_with fail
      go_ret
      exact ⟨by rw [h2.out]; rfl, ((Below.refl _ _).alloc (Nat.le_refl _) _).alloc (by simp) _⟩
  · have h2 : Hid (decide (v = u) = false) := by show _ = _; rw [decide_eq_false_iff_not, H.out]; omega
    have h5 : (hi == hi') = false := by simp [h3]
    go_enter Try.func12, Try.ntmps12
    go_wp2_with fail
    go_ret
    exact ⟨by rw [h2.out]; rfl, ((Below.refl _ _).alloc (Nat.le_refl _) _).alloc (by simp) _⟩

theorem wakes_any (w : World) : Calls Try.prog 10 #[] w fun e w' => e = .returned (.bool true) ∧ Below w.heap.size w w' := by
  have ti := fun w => wTimes_any w 4611686018427387904 4611686018427387904 (by omega) (by omega)
  have e1 : wideV (4611686018427387904 * 4611686018427387904) = .agg #[.int .i64 1152921504606846976, .int .u64 0] := by
    unfold wideV
    rw [(by decide : wHi (4611686018427387904 * 4611686018427387904) = 1152921504606846976), (by decide : wLo (4611686018427387904 * 4611686018427387904) = 0)]
  rw [e1] at ti
  have sh := fun w => Share_of w (-7) 3 2 (by omega) (by omega) (by omega) (fun w hi lo h h0 h1 => by
    have hw := h.words
    have e2 : hi = -1 := by rw [← hw.1]; decide
    subst e2
    have e3 : upW (-1) = 0 := by decide
    rw [e3]
    refine Div64_small w _ 2 ?_ (by omega)
    unfold dnW
    have := h.2.1
    split <;> omega)
  have e4 : wQuo (-7 * 3) 2 = -11 := by decide
  have e5 : wQuoE (-7 * 3) 2 = 0 := by decide
  rw [e4, e5] at sh
  clear e1 e4 e5
  go_enter Try.func10, Try.ntmps10
  go_wp2_with fail
  refine (ti _).mono ?_
  rintro e w1 ⟨rfl, hb1⟩
  go_wp2_with fail
  refine (sh _).mono ?_
  rintro e w2 ⟨rfl, hb2⟩
  have hc0 : w2.cell? ⟨w1.heap.size, 0, none⟩ = some (.int .i64 1152921504606846976) := by rw [hb2.cell (by simp), World.cell?_alloc_new]; rfl
  have hc1 : w2.cell? ⟨w1.heap.size, 1, none⟩ = some (.int .u64 0) := by rw [hb2.cell (by simp), World.cell?_alloc_new]; rfl
  go_wp2_with fail
  go_ret
  exact ⟨rfl, hb1.next hb2.un⟩

end Cam
