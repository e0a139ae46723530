import Derived.Test.YtgjiphgehohooaaWdS
/- cambistref01: Of, Times, Less, Int, Sum. -/
namespace Cam
open Go Go.RowKit Go.Proofs

theorem rOf_any (w : World) (n : Int) (hn : -9223372036854775808 ≤ n ∧ n ≤ 9223372036854775807) :
    Calls Try.prog 14 #[.int .i64 n] w fun e w' => e = .returned (wideV n) ∧ Below w.heap.size w w' := by
  have HW := Lib.hid (IsW.num n hn)
  clear hn
  by_cases h : n < 0
  · have H1 : Hid ((if n < 0 then (-1 : Int) else 0) = -1) := by show _ = _; rw [if_pos h]
    go_enter Try.func14, Try.ntmps14
    go_wp2_with fail
    rw [IntKind.wrap_u64]
    refine bodyPost_ret (v := .agg #[.int .i64 (-1), .int .u64 (n % 18446744073709551616)]) (by simp [results, Try.results14, go_sem]) rfl ?_
    exact ⟨by rw [HW.out.val, H1.out], (Below.refl _ _).alloc (Nat.le_refl _) _⟩
  · have H1 : Hid ((if n < 0 then (-1 : Int) else 0) = 0) := by show _ = _; rw [if_neg h]
    go_enter Try.func14, Try.ntmps14
    go_wp2_with fail
    rw [IntKind.wrap_u64]
    refine bodyPost_ret (v := .agg #[.int .i64 0, .int .u64 (n % 18446744073709551616)]) (by simp [results, Try.results14, go_sem]) rfl ?_
    exact ⟨by rw [HW.out.val, H1.out], (Below.refl _ _).alloc (Nat.le_refl _) _⟩

theorem mag_any (w : World) (a : Int) (ha : -9223372036854775808 ≤ a ∧ a ≤ 9223372036854775807) :
    Calls Try.prog 27 #[.int .i64 a] w fun e w' => e = .returned (.int .u64 ((a.natAbs : Nat) : Int)) ∧ w = w' := by
  by_cases h : a < 0
  · have h2 : IntKind.u64.wrap (-IntKind.u64.wrap a) = ((a.natAbs : Nat) : Int) := by
      simp only [IntKind.wrap_u64]; omega
    go_enter Try.func27, Try.ntmps27
    go_wp2
    go_ret
    exact ⟨by first | rfl | (rw [h2]), rfl⟩
  · have h2 : IntKind.u64.wrap a = ((a.natAbs : Nat) : Int) := by
      simp only [IntKind.wrap_u64]; omega
    go_enter Try.func27, Try.ntmps27
    go_wp2
    go_ret
    exact ⟨by first | rfl | (rw [h2]), rfl⟩

theorem not_u64 (x : Nat) (h : x < 18446744073709551616) : bits .xor .u64 IntKind.u64.max (x : Int) = ((18446744073709551615 - x : Nat) : Int) := by
  have h2 : (BitVec.ofInt 64 (x : Int)).toNat = x := by
    rw [BitVec.ofInt_natCast, BitVec.toNat_ofNat]; exact Nat.mod_eq_of_lt (by omega)
  have h1 : BitVec.ofInt 64 IntKind.u64.max = BitVec.allOnes 64 := by decide
  show IntKind.u64.wrap ((BitVec.ofInt 64 IntKind.u64.max ^^^ BitVec.ofInt 64 (x : Int)).toNat : Int) = _
  rw [h1, BitVec.allOnes_xor, BitVec.toNat_not, h2, IntKind.wrap_u64]
  omega

theorem neg_any (w : World) (hi lo v : Int) (h : IsW hi lo v) (hv : -170141183460469231731687303715884105728 < v) :
    Calls Try.prog 28 #[.agg #[.int .i64 hi, .int .u64 lo]] w fun e w' => e = .returned (wideV (-v)) ∧ Below w.heap.size w w' := by
  obtain ⟨l, rfl⟩ : ∃ l : Nat, lo = l := ⟨lo.toNat, by have := h.2.1; omega⟩
  obtain ⟨u, hu⟩ : ∃ u : Nat, (u : Int) = hi % 18446744073709551616 := ⟨(hi % 18446744073709551616).toNat, by omega⟩
  have h1 : IntKind.u64.wrap hi = (u : Int) := by rw [IntKind.wrap_u64, hu]
  have h2 := not_u64 l (by have := h.2.1; omega)
  have h3 := not_u64 u (by omega)
  obtain ⟨x, hx⟩ : ∃ x : Nat, x = 18446744073709551615 - l := ⟨_, rfl⟩
  obtain ⟨y, hy⟩ : ∃ y : Nat, y = 18446744073709551615 - u := ⟨_, rfl⟩
  rw [← hx] at h2
  rw [← hy] at h3
  have a1 := add64_run x 1 0 (by omega) ((w.alloc (.cells #[.int .i64 hi, .int .u64 l] 29)).alloc (.cells #[.int .i64 0, .int .u64 0] 29))
  have a2 := add64_run y 0 ((x + 1 + 0) / 18446744073709551616) (by omega) ((w.alloc (.cells #[.int .i64 hi, .int .u64 l] 29)).alloc (.cells #[.int .i64 0, .int .u64 0] 29))
  rw [show (((0 : Nat) : Int)) = 0 from rfl, show (((1 : Nat) : Int)) = 1 from rfl] at a1
  rw [show (((0 : Nat) : Int)) = 0 from rfl] at a2
  have hw : IsW (wrap64 (((y + 0 + (x + 1 + 0) / 18446744073709551616) % 18446744073709551616 : Nat) : Int)) (((x + 1 + 0) % 18446744073709551616 : Nat) : Int) (-v) := by
    unfold IsW wrap64 at *
    omega
  generalize (x + 1 + 0) / 18446744073709551616 = c at a1 a2 hw
  generalize (x + 1 + 0) % 18446744073709551616 = x' at a1 hw
  generalize (y + 0 + c) % 18446744073709551616 = y' at a2 hw
  generalize (y + 0 + c) / 18446744073709551616 = c' at a2
  have Hw := Lib.hid hw
  clear hw hx hy hu h hv
  go_enter Try.func28, Try.ntmps28
  go_wp2_with fail
  refine bodyPost_ret (v := .agg #[.int .i64 (wrap64 y'), .int .u64 x']) (by simp [results, Try.results28, go_sem]) rfl ?_
  exact ⟨by rw [Hw.out.val], ((Below.refl _ _).alloc (Nat.le_refl _) _).alloc (by simp) _⟩

theorem wideV_form {v : Int} (h : isWide v = true) : ∃ hi lo, IsW hi lo v ∧ wideV v = .agg #[.int .i64 hi, .int .u64 lo] := ⟨wHi v, wLo v, IsW.of h, rfl⟩
theorem results_row1 {P : Program} {fn : Func} {p : Tmp} {ty : TypeId} (h : fn.results = #[.cell p ty]) (tmps : Array Value) (w : World) (g : Nat) (t : TypeId) (cs : Array Value) (fr : Nat × Nat) (d : TypeDesc)
    (hp : tmps.getD p undef = .pointer (some ⟨g, 0, none⟩)) (hg : w.heap[g]? = some (.cells cs t fr))
    (hu : P.underlying ty = some d) (hd : (match d with | .struct _ | .array _ _ => true | _ => false) = true) (hi : (P.info? ty).map (·.size) = some cs.size) :
    (results fn tmps).run P w = .ok (.agg cs) w := by
  have hp' : tmps[p]?.getD undef = .pointer (some ⟨g, 0, none⟩) := by simpa using hp
  have hr := run_loadVar_row w g t ty cs fr d hg hu hd hi
  unfold results
  rw [h]
  simp [hp', asAddr, hr]

theorem prod_sign (a b : Int) : a * b = if (a < 0 ∧ 0 ≤ b) ∨ (0 ≤ a ∧ b < 0) then -((a.natAbs * b.natAbs : Nat) : Int) else ((a.natAbs * b.natAbs : Nat) : Int) := by
  by_cases ha : a < 0
  · have e1 : a = -(a.natAbs : Int) := by omega
    by_cases hb : b < 0
    · have e2 : b = -(b.natAbs : Int) := by omega
      rw [if_neg (by omega), Int.natCast_mul]
      conv => lhs; rw [e1, e2]
      rw [Int.neg_mul_neg]
    · have e2 : b = (b.natAbs : Int) := by omega
      rw [if_pos (by omega), Int.natCast_mul]
      conv => lhs; rw [e1, e2]
      rw [Int.neg_mul]
  · have e1 : a = (a.natAbs : Int) := by omega
    by_cases hb : b < 0
    · have e2 : b = -(b.natAbs : Int) := by omega
      rw [if_pos (by omega), Int.natCast_mul]
      conv => lhs; rw [e1, e2]
      rw [Int.mul_neg]
    · have e2 : b = (b.natAbs : Int) := by omega
      rw [if_neg (by omega), Int.natCast_mul]
      conv => lhs; rw [e1, e2]

set_option maxHeartbeats 800000 in
theorem rTimes_any (w : World) (a b : Int) (ha : -9223372036854775808 ≤ a ∧ a ≤ 9223372036854775807) (hb : -9223372036854775808 ≤ b ∧ b ≤ 9223372036854775807) :
    Calls Try.prog 16 #[.int .i64 a, .int .i64 b] w fun e w' => e = .returned (wideV (a * b)) ∧ Below w.heap.size w w' := by
  have sa := fun w => mag_any w a ha
  have sb := fun w => mag_any w b hb
  have ml := Mul64_any a.natAbs b.natAbs (by omega) (by omega)
  have hp := Lib.hid (prod_sign a b)
  have hM : a.natAbs * b.natAbs ≤ 9223372036854775808 * 9223372036854775808 := Nat.mul_le_mul (by omega) (by omega)
  obtain ⟨M, hm⟩ : ∃ M, M = a.natAbs * b.natAbs := ⟨_, rfl⟩
  rw [← hm] at hM ml
  have Hm := Lib.hid hm
  obtain ⟨x, hx⟩ : ∃ x, x = a.natAbs := ⟨_, rfl⟩
  obtain ⟨y, hy⟩ : ∃ y, y = b.natAbs := ⟨_, rfl⟩
  rw [← hx] at sa ml
  rw [← hy] at sb ml
  obtain ⟨h, hh⟩ : ∃ h, h = M / 18446744073709551616 := ⟨_, rfl⟩
  obtain ⟨l, hl⟩ : ∃ l, l = M % 18446744073709551616 := ⟨_, rfl⟩
  rw [← hh, ← hl] at ml
  have hw : IsW (wrap64 (h : Int)) (l : Int) (M : Int) := by
    unfold IsW wrap64
    omega
  have hlt : (-170141183460469231731687303715884105728 : Int) < M := by omega
  have Hw := Lib.hid hw
  have Hlt := Lib.hid hlt
  clear hw hh hl hx hy hm hM hlt ha hb
  obtain ⟨p, q, hpq, epq⟩ := wideV_form (v := -(M : Int)) (by have := Hw.out.wide; have := Hlt.out; rw [isWide_iff] at *; omega)
  have ng := fun w => neg_any w _ _ _ Hw.out Hlt.out
  rw [epq] at ng
  have Hpq := Lib.hid hpq
  clear epq hpq
  by_cases h1 : a < 0
  · by_cases h2 : b < 0
    · have He : Hid (a * b = M) := by show _ = _; rw [hp.out, Hm.out, if_neg (by omega)]
      clear ng
      go_enter Try.func16, Try.ntmps16
      go_wp2_with fail
      refine (sa _).mono ?_
      rintro e w1 ⟨rfl, rfl⟩
      go_wp2_with fail
      refine (sb _).mono ?_
      rintro e w1 ⟨rfl, rfl⟩
      go_wp2_with fail
      refine (ml _).mono ?_
      rintro e w1 ⟨rfl, rfl⟩
      clear sa sb ml
      go_wp2_with fail
      refine bodyPost_ret (v := .agg #[.int .i64 (wrap64 h), .int .u64 l]) (by simp [results, Try.results16, go_sem]) rfl ?_
      exact ⟨by rw [He.out, Hw.out.val], ((Below.refl _ _).alloc (Nat.le_refl _) _).alloc (by simp) _⟩
    · have h2' : decide (b < 0) = false := by simp; omega
      have He : Hid (a * b = -M) := by show _ = _; rw [hp.out, Hm.out, if_pos (by omega)]
      go_enter Try.func16, Try.ntmps16
      go_wp2_with fail
      refine (sa _).mono ?_
      rintro e w1 ⟨rfl, rfl⟩
      go_wp2_with fail
      refine (sb _).mono ?_
      rintro e w1 ⟨rfl, rfl⟩
      go_wp2_with fail
      refine (ml _).mono ?_
      rintro e w1 ⟨rfl, rfl⟩
      clear sa sb ml
      go_wp2_with fail
      refine (ng _).mono ?_
      rintro e w1 ⟨rfl, hb1⟩
      have hg : w1.heap[w.heap.size]? = some (.cells wideZ 29 (0, 0)) := by
        rw [hb1.block _ (by simp; omega), heap_at, if_neg (by simp), heap_at, if_pos rfl]
        rfl
      have Hg := Lib.hid hg
      clear hg
      go_wp2_with (refine wpList_store_row rfl 29 (.tmp 4) (.tmp 26) rfl w.heap.size #[.int .i64 p, .int .u64 q] rfl rfl 29 wideZ Hg.out wideSize rfl (wide_one _ _) ?_)
      refine bodyPost_ret (results_row1 rfl _ _ w.heap.size 29 #[.int .i64 p, .int .u64 q] (0, 0) _ rfl (setRow_heap _ _ _ _ _ _ Hg.out) Try.underlying29 rfl wideSize) rfl ?_
      exact ⟨by rw [He.out, Hpq.out.val], Below.setRow hb1.un.un (Nat.le_refl _) _⟩
  · have h1' : decide (a < 0) = false := by simp; omega
    by_cases h2 : b < 0
    · have He : Hid (a * b = -M) := by show _ = _; rw [hp.out, Hm.out, if_pos (by omega)]
      go_enter Try.func16, Try.ntmps16
      go_wp2_with fail
      refine (sa _).mono ?_
      rintro e w1 ⟨rfl, rfl⟩
      go_wp2_with fail
      refine (sb _).mono ?_
      rintro e w1 ⟨rfl, rfl⟩
      go_wp2_with fail
      refine (ml _).mono ?_
      rintro e w1 ⟨rfl, rfl⟩
      clear sa sb ml
      go_wp2_with fail
      refine (ng _).mono ?_
      rintro e w1 ⟨rfl, hb1⟩
      have hg : w1.heap[w.heap.size]? = some (.cells wideZ 29 (0, 0)) := by
        rw [hb1.block _ (by simp; omega), heap_at, if_neg (by simp), heap_at, if_pos rfl]
        rfl
      have Hg := Lib.hid hg
      clear hg
      go_wp2_with (refine wpList_store_row rfl 29 (.tmp 4) (.tmp 26) rfl w.heap.size #[.int .i64 p, .int .u64 q] rfl rfl 29 wideZ Hg.out wideSize rfl (wide_one _ _) ?_)
      refine bodyPost_ret (results_row1 rfl _ _ w.heap.size 29 #[.int .i64 p, .int .u64 q] (0, 0) _ rfl (setRow_heap _ _ _ _ _ _ Hg.out) Try.underlying29 rfl wideSize) rfl ?_
      exact ⟨by rw [He.out, Hpq.out.val], Below.setRow hb1.un.un (Nat.le_refl _) _⟩
    · have h2' : decide (b < 0) = false := by simp; omega
      have He : Hid (a * b = M) := by show _ = _; rw [hp.out, Hm.out, if_neg (by omega)]
      clear ng
      go_enter Try.func16, Try.ntmps16
      go_wp2_with fail
      refine (sa _).mono ?_
      rintro e w1 ⟨rfl, rfl⟩
      go_wp2_with fail
      refine (sb _).mono ?_
      rintro e w1 ⟨rfl, rfl⟩
      go_wp2_with fail
      refine (ml _).mono ?_
      rintro e w1 ⟨rfl, rfl⟩
      clear sa sb ml
      go_wp2_with fail
      refine bodyPost_ret (v := .agg #[.int .i64 (wrap64 h), .int .u64 l]) (by simp [results, Try.results16, go_sem]) rfl ?_
      exact ⟨by rw [He.out, Hw.out.val], ((Below.refl _ _).alloc (Nat.le_refl _) _).alloc (by simp) _⟩

end Cam
