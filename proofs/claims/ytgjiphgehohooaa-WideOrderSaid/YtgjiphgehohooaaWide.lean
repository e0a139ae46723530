import Derived.Test.YtgjiphgehohooaaNumR
import Derived.Test.YtgjiphgehohooaaWdP
import Derived.Laws.Rows
import Derived.Laws.Tables
import Derived.Laws.ResultCell
import Derived.Lib.Mul64
import Derived.Laws.Bits64b
import Derived.Deep.RegionHeld3
/- wide: Of, Times. -/
namespace Cam
open Go Go.RowKit Go.Proofs

/-- a wide as a value -/
def wideV (v : Int) : Value := .agg #[.int .i64 (wHi v), .int .u64 (wLo v)]
theorem IsW.val {hi lo v : Int} (h : IsW hi lo v) : wideV v = .agg #[.int .i64 hi, .int .u64 lo] := by
  unfold wideV
  rw [h.words.1, h.words.2]
theorem wide_one (a b : Int) : (#[.int .i64 a, .int .u64 b] : Array Value).all (·.oneCell') = true := by simp [Value.oneCell']
theorem wideSize : (Try.prog.info? 29).map (·.size) = some 2 := by kernel_rfl
def wideZ : Array Value := #[.int .i64 0, .int .u64 0]

set_option maxHeartbeats 400000 in
theorem Of_any (w : World) (n : Int) (hn : -9223372036854775808 ≤ n ∧ n ≤ 9223372036854775807) :
    Calls Try.prog 13 #[.int .i64 n] w fun e w' => e = .returned (wideV n) ∧ Below w.heap.size w w' := by
  have HW := Lib.hid (IsW.num' n hn)
  clear hn
  go_enter Try.func13, Try.ntmps13
  go_wp2_with fail
  rw [IntKind.wrap_u64]
  refine bodyPost_ret (v := .agg #[.int .i64 (n / 9223372036854775808), .int .u64 (n % 18446744073709551616)]) (by simp [results, Try.results13, go_sem]) rfl ?_
  exact ⟨by rw [HW.out.val], (Below.refl _ _).alloc (Nat.le_refl _) _⟩

theorem maskN (a : Nat) (ha : a < 18446744073709551616) : bits .and .u64 (a : Int) 4294967295 = ((a % 4294967296 : Nat) : Int) := by
  have h := bits_and_u64_nat a 4294967295 ha (by omega)
  have e : a &&& 4294967295 = a % 4294967296 := Nat.and_two_pow_sub_one_eq_mod a 32
  rw [e] at h
  exact h
theorem divN (a : Nat) : (a : Int) / 4294967296 = ((a / 4294967296 : Nat) : Int) := by omega
theorem mulNN (a b : Nat) : (a : Int) * (b : Int) = ((a * b : Nat) : Int) := (Int.natCast_mul a b).symm
theorem addNN (a b : Nat) : (a : Int) + (b : Int) = ((a + b : Nat) : Int) := (Int.natCast_add a b).symm
theorem wrapNN (a : Nat) (ha : a < 18446744073709551616) : IntKind.u64.wrap (a : Int) = (a : Int) := by rw [IntKind.wrap_u64]; omega
theorem wrapMM (a : Nat) : IntKind.u64.wrap (a : Int) = ((a % 18446744073709551616 : Nat) : Int) := by rw [IntKind.wrap_u64]; omega

set_option maxHeartbeats 1000000 in
theorem Mul64_any (x y : Nat) (hx : x < 18446744073709551616) (hy : y < 18446744073709551616) (w : World) :
    Calls Try.prog 26 #[.int .u64 x, .int .u64 y] w fun e w' => e = .returned (.tuple #[.int .u64 ((x * y / 18446744073709551616 : Nat) : Int), .int .u64 ((x * y % 18446744073709551616 : Nat) : Int)]) ∧ w' = w := by
  obtain ⟨bd, bt, bw, hhi⟩ := Lib.mul64_hi x y hx hy
  have ba := Lib.half_mul_le (a := x / 4294967296) (b := y / 4294967296) (by omega) (by omega)
  have bb := Lib.half_mul_le (a := x / 4294967296) (b := y % 4294967296) (by omega) (by omega)
  have bc := Lib.half_mul_le (a := x % 4294967296) (b := y / 4294967296) (by omega) (by omega)
  have ba' : x / 4294967296 * (y / 4294967296) < 18446744073709551616 := by omega
  have bb' : x / 4294967296 * (y % 4294967296) < 18446744073709551616 := by omega
  have bc' : x % 4294967296 * (y / 4294967296) < 18446744073709551616 := by omega
  have bh1 : x / 4294967296 * (y / 4294967296) + (x / 4294967296 * (y % 4294967296) + x % 4294967296 * (y % 4294967296) / 4294967296) / 4294967296 < 18446744073709551616 := by omega
  have bh : x / 4294967296 * (y / 4294967296) + (x / 4294967296 * (y % 4294967296) + x % 4294967296 * (y % 4294967296) / 4294967296) / 4294967296 + ((x / 4294967296 * (y % 4294967296) + x % 4294967296 * (y % 4294967296) / 4294967296) % 4294967296 + x % 4294967296 * (y / 4294967296)) / 4294967296 < 18446744073709551616 := by omega
  go_enter Try.func26, Try.ntmps26
  go_wp2
  simp only [maskN x hx, maskN y hy, divN, mulNN, addNN, wrapNN _ bd, wrapNN _ bb', wrapNN _ bt, maskN _ bt, wrapNN _ bc', wrapNN _ bw, wrapNN _ ba', wrapNN _ bh1, wrapNN _ bh, wrapMM (x * y)]
  rw [hhi]
  go_ret2
  exact ⟨rfl, rfl⟩

set_option maxHeartbeats 800000 in
theorem wTimes_any (w : World) (a b : Int) (ha : -9223372036854775808 ≤ a ∧ a ≤ 9223372036854775807) (hb : -9223372036854775808 ≤ b ∧ b ≤ 9223372036854775807) :
    Calls Try.prog 15 #[.int .i64 a, .int .i64 b] w fun e w' => e = .returned (wideV (a * b)) ∧ Below w.heap.size w w' := by
  obtain ⟨x, hx⟩ : ∃ x : Nat, (x : Int) = a % 18446744073709551616 := ⟨(a % 18446744073709551616).toNat, by omega⟩
  obtain ⟨y, hy⟩ : ∃ y : Nat, (y : Int) = b % 18446744073709551616 := ⟨(b % 18446744073709551616).toNat, by omega⟩
  have ml := Mul64_any x y (by omega) (by omega)
  obtain ⟨h, hh⟩ : ∃ h : Nat, h = x * y / 18446744073709551616 := ⟨_, rfl⟩
  obtain ⟨l, hl⟩ : ∃ l : Nat, l = x * y % 18446744073709551616 := ⟨_, rfl⟩
  have tw := times_words a b x y h l ha hb hx hy (by rw [hh, ← Int.natCast_mul]; omega) (by rw [hl, ← Int.natCast_mul]; omega)
  rw [← hh, ← hl] at ml
  have hxw : IntKind.u64.wrap a = (x : Int) := by rw [IntKind.wrap_u64, hx]
  have hyw : IntKind.u64.wrap b = (y : Int) := by rw [IntKind.wrap_u64, hy]
  have Hxy := Lib.hid (And.intro hx hy)
  have Tw := Lib.hid tw
  clear hx hy hh hl tw ha hb
  by_cases h1 : a < 0
  · by_cases h2 : b < 0
    · go_enter Try.func15, Try.ntmps15
      go_wp2_with fail
      refine (ml _).mono ?_
      rintro e w1 ⟨rfl, rfl⟩
      clear ml
      go_wp2_with fail
      refine bodyPost_ret (v := .agg #[.int .i64 (wrap64 (IntKind.u64.wrap (IntKind.u64.wrap ((h : Int) - (y : Int)) - (x : Int)))), .int .u64 l]) (by simp [results, Try.results15, go_sem]) rfl ?_
      obtain ⟨t1, ⟨k, t2⟩, t3⟩ := Tw.out
      rw [if_pos (by omega), if_pos (by omega)] at t2
      have t4 := (IsW.of t3).1
      have e1 : wrap64 (IntKind.u64.wrap (IntKind.u64.wrap ((h : Int) - (y : Int)) - (x : Int))) = wHi (a * b) := by
        try simp only [IntKind.wrap_u64]
        unfold wrap64
        omega
      exact ⟨by unfold wideV; rw [e1, t1], (Below.refl _ _).alloc (Nat.le_refl _) _⟩
    · go_enter Try.func15, Try.ntmps15
      go_wp2_with fail
      refine (ml _).mono ?_
      rintro e w1 ⟨rfl, rfl⟩
      clear ml
      go_wp2_with fail
      refine bodyPost_ret (v := .agg #[.int .i64 (wrap64 (IntKind.u64.wrap ((h : Int) - (y : Int)))), .int .u64 l]) (by simp [results, Try.results15, go_sem]) rfl ?_
      obtain ⟨t1, ⟨k, t2⟩, t3⟩ := Tw.out
      rw [if_pos (by omega), if_neg (by omega)] at t2
      have t4 := (IsW.of t3).1
      have e1 : wrap64 (IntKind.u64.wrap ((h : Int) - (y : Int))) = wHi (a * b) := by
        try simp only [IntKind.wrap_u64]
        unfold wrap64
        omega
      exact ⟨by unfold wideV; rw [e1, t1], (Below.refl _ _).alloc (Nat.le_refl _) _⟩
  · by_cases h2 : b < 0
    · go_enter Try.func15, Try.ntmps15
      go_wp2_with fail
      refine (ml _).mono ?_
      rintro e w1 ⟨rfl, rfl⟩
      clear ml
      go_wp2_with fail
      refine bodyPost_ret (v := .agg #[.int .i64 (wrap64 (IntKind.u64.wrap ((h : Int) - (x : Int)))), .int .u64 l]) (by simp [results, Try.results15, go_sem]) rfl ?_
      obtain ⟨t1, ⟨k, t2⟩, t3⟩ := Tw.out
      rw [if_neg (by omega), if_pos (by omega)] at t2
      have t4 := (IsW.of t3).1
      have e1 : wrap64 (IntKind.u64.wrap ((h : Int) - (x : Int))) = wHi (a * b) := by
        try simp only [IntKind.wrap_u64]
        unfold wrap64
        omega
      exact ⟨by unfold wideV; rw [e1, t1], (Below.refl _ _).alloc (Nat.le_refl _) _⟩
    · go_enter Try.func15, Try.ntmps15
      go_wp2_with fail
      refine (ml _).mono ?_
      rintro e w1 ⟨rfl, rfl⟩
      clear ml
      go_wp2_with fail
      refine bodyPost_ret (v := .agg #[.int .i64 (wrap64 ((h : Int))), .int .u64 l]) (by simp [results, Try.results15, go_sem]) rfl ?_
      obtain ⟨t1, ⟨k, t2⟩, t3⟩ := Tw.out
      rw [if_neg (by omega), if_neg (by omega)] at t2
      have t4 := (IsW.of t3).1
      have e1 : wrap64 ((h : Int)) = wHi (a * b) := by
        try simp only [IntKind.wrap_u64]
        unfold wrap64
        omega
      exact ⟨by unfold wideV; rw [e1, t1], (Below.refl _ _).alloc (Nat.le_refl _) _⟩

theorem bcell {W w1 : World} {B : Nat} (hb : Below B W w1) : ∀ b o, b < B → w1.cell? ⟨b, o, none⟩ = W.cell? ⟨b, o, none⟩ := fun b o h => hb.cell (p := ⟨b, o, none⟩) h

/-- wide.Less of any two -/
theorem Less_run (w : World) (v u hi lo hi' lo' : Int) (h : IsW hi lo v) (h' : IsW hi' lo' u) :
    Calls Try.prog 17 #[.agg #[.int .i64 hi, .int .u64 lo], .agg #[.int .i64 hi', .int .u64 lo']] w fun e w' => e = .returned (.bool (decide (v < u))) ∧ Below w.heap.size w w' := by
  have H := Lib.hid (h.lt h')
  clear h h'
  by_cases h1 : hi < hi'
  · have h2 : Hid (decide (v < u) = true) := by show _ = _; simp; exact H.out.2 (.inl h1)
    go_enter Try.func17, Try.ntmps17
    go_wp2_with fail
    go_ret
    exact ⟨by rw [h2.out]; rfl, ((Below.refl _ _).alloc (Nat.le_refl _) _).alloc (by simp) _⟩
  · have h1' : decide (hi < hi') = false := by simp; omega
    by_cases h3 : hi = hi'
    · subst h3
      by_cases h4 : lo < lo'
      · have h2 : Hid (decide (v < u) = true) := by show _ = _; simp; exact H.out.2 (.inr ⟨rfl, h4⟩)
        go_enter Try.func17, Try.ntmps17
        go_wp2_with fail
        go_ret
        exact ⟨by rw [h2.out]; rfl, ((Below.refl _ _).alloc (Nat.le_refl _) _).alloc (by simp) _⟩
      · have h2 : Hid (decide (v < u) = false) := by show _ = _; rw [decide_eq_false_iff_not, H.out]; omega
        have h4' : decide (lo < lo') = false := by simp; omega
        go_enter Try.func17, Try.ntmps17
        go_wp2_with fail
        go_ret
        exact ⟨by rw [h2.out]; rfl, ((Below.refl _ _).alloc (Nat.le_refl _) _).alloc (by simp) _⟩
    · have h2 : Hid (decide (v < u) = false) := by show _ = _; rw [decide_eq_false_iff_not, H.out]; omega
      go_enter Try.func17, Try.ntmps17
      go_wp2_with fail
      go_ret
      exact ⟨by rw [h2.out]; rfl, ((Below.refl _ _).alloc (Nat.le_refl _) _).alloc (by simp) _⟩

theorem keepL {W w1 : World} {x : Value} {p : Addr} (hb : Below W.heap.size W w1) (h : W.cell? p = some x) : w1.cell? p = some x := (hb.cell (World.block_lt_of_cell? W _ h)).trans h
theorem keep2 {W w1 : World} {g : Nat} {x y : Value} (hb : Below W.heap.size W w1) (h : W.cell? ⟨g, 0, none⟩ = some x ∧ W.cell? ⟨g, 1, none⟩ = some y) : w1.cell? ⟨g, 0, none⟩ = some x ∧ w1.cell? ⟨g, 1, none⟩ = some y :=
  ⟨(hb.cell (World.block_lt_of_cell? W _ h.1)).trans h.1, (hb.cell (World.block_lt_of_cell? W _ h.2)).trans h.2⟩

theorem nextB {B : Nat} {w w1 w2 : World} (h : Below B w w1) (h2 : Below w1.heap.size w1 w2) (hB : B ≤ w1.heap.size) : Below B w w2 := h.trans (h2.mono hB)

set_option maxHeartbeats 1000000 in
/-- wide.Int -/
theorem wInt_run (w : World) (v hi lo : Int) (h : IsW hi lo v) :
    Calls Try.prog 19 #[.agg #[.int .i64 hi, .int .u64 lo]] w fun e w' => e = .returned (.tuple #[.int .i64 (wInt v), .int .i64 (wIntE v)]) ∧ Below w.heap.size w w' := by
  obtain ⟨n, hn⟩ : ∃ n, wrap64 lo = n := ⟨_, rfl⟩
  have hb : -9223372036854775808 ≤ n ∧ n ≤ 9223372036854775807 := by rw [← hn]; unfold wrap64; omega
  have of := fun w => Of_any w n hb
  obtain ⟨hi', lo', hw⟩ : ∃ hi' lo', IsW hi' lo' n := ⟨_, _, IsW.num' n hb⟩
  rw [hw.val] at of
  have hR : v ≠ n → rightB v = false := by
    intro hne
    rw [Bool.eq_false_iff, Ne, rightB_iff]
    intro hr
    apply hne
    unfold IsW at h
    unfold wrap64 at hn
    omega
  have HR := Lib.hid hR
  have HE := Lib.hid (h.eq hw)
  clear h hb hw hR
  by_cases h1 : hi = hi'
  · by_cases h2 : lo = lo'
    · subst h1
      subst h2
      have hv : v = n := HE.out.2 ⟨rfl, rfl⟩
      subst hv
      have rr := fun w v' h => Right_any w v' [v] h
      have e2 : allRight [v] = rightB v := by simp [allRight]
      rw [e2] at rr
      clear e2
      cases hr : rightB v with
      | true =>
        rw [hr] at rr
        have H1 := Lib.hid hr
        clear hr
        go_enter Try.func19, Try.ntmps19
        go_wp2_with fail
        obtain ⟨w2, hw2⟩ : ∃ w2, w.alloc (.cells #[.int .i64 hi, .int .u64 lo] 29) = w2 := ⟨_, rfl⟩
        have hb2 : Below w.heap.size w w2 := by rw [← hw2]; exact (Below.refl _ _).alloc (Nat.le_refl _) _
        have hc0 : w2.cell? ⟨w.heap.size, 0, none⟩ = some (.int .i64 hi) := by rw [← hw2, World.cell?_alloc_new]; rfl
        have hc1 : w2.cell? ⟨w.heap.size, 1, none⟩ = some (.int .u64 lo) := by rw [← hw2, World.cell?_alloc_new]; rfl
        have hsz : w.heap.size ≤ w2.heap.size := hb2.size
        rw [hw2]

        clear hw2
        go_region_held3 (fun w' => w'.cell? ⟨w.heap.size, 0, none⟩ = some (.int .i64 hi) ∧ w'.cell? ⟨w.heap.size, 1, none⟩ = some (.int .u64 lo)) (first | go_keep | exact keep2 (by assumption) (by assumption))
          (first
            | (go_at_call 13; refine (of _).mono ?_; rintro e w1 ⟨rfl, hb1⟩)
            | (go_at_call 29; refine (rr _ _ (Is.block (l := [v]) (heap_new rfl) (Nat.le_refl _) (by simp [maxLen]))).mono ?_; rintro e w1 ⟨rfl, rfl⟩))
        go_wp2_with fail
        go_ret2
        exact ⟨by simp [wInt, wIntE, H1.out], (nextB hb2.drew hb1 hsz).alloc (Nat.le_trans hsz hb1.size) _⟩
      | false =>
        rw [hr] at rr
        have H1 := Lib.hid hr
        clear hr
        go_enter Try.func19, Try.ntmps19
        go_wp2_with fail
        obtain ⟨w2, hw2⟩ : ∃ w2, w.alloc (.cells #[.int .i64 hi, .int .u64 lo] 29) = w2 := ⟨_, rfl⟩
        have hb2 : Below w.heap.size w w2 := by rw [← hw2]; exact (Below.refl _ _).alloc (Nat.le_refl _) _
        have hc0 : w2.cell? ⟨w.heap.size, 0, none⟩ = some (.int .i64 hi) := by rw [← hw2, World.cell?_alloc_new]; rfl
        have hc1 : w2.cell? ⟨w.heap.size, 1, none⟩ = some (.int .u64 lo) := by rw [← hw2, World.cell?_alloc_new]; rfl
        have hsz : w.heap.size ≤ w2.heap.size := hb2.size
        rw [hw2]

        clear hw2
        go_region_held3 (fun w' => w'.cell? ⟨w.heap.size, 0, none⟩ = some (.int .i64 hi) ∧ w'.cell? ⟨w.heap.size, 1, none⟩ = some (.int .u64 lo)) (first | go_keep | exact keep2 (by assumption) (by assumption))
          (first
            | (go_at_call 13; refine (of _).mono ?_; rintro e w1 ⟨rfl, hb1⟩)
            | (go_at_call 29; refine (rr _ _ (Is.block (l := [v]) (heap_new rfl) (Nat.le_refl _) (by simp [maxLen]))).mono ?_; rintro e w1 ⟨rfl, rfl⟩))
        go_wp2_with fail
        go_ret2
        exact ⟨by simp [wInt, wIntE, H1.out], (nextB hb2.drew hb1 hsz).alloc (Nat.le_trans hsz hb1.size) _⟩
    · have H1 : Hid (rightB v = false) := by show _ = _; exact HR.out (fun e => h2 (HE.out.1 e).2)
      subst h1
      have hx : (lo == lo') = false := by simp [h2]
      go_enter Try.func19, Try.ntmps19
      go_wp2_with fail
      obtain ⟨w2, hw2⟩ : ∃ w2, w.alloc (.cells #[.int .i64 hi, .int .u64 lo] 29) = w2 := ⟨_, rfl⟩
      have hb2 : Below w.heap.size w w2 := by rw [← hw2]; exact (Below.refl _ _).alloc (Nat.le_refl _) _
      have hc0 : w2.cell? ⟨w.heap.size, 0, none⟩ = some (.int .i64 hi) := by rw [← hw2, World.cell?_alloc_new]; rfl
      have hc1 : w2.cell? ⟨w.heap.size, 1, none⟩ = some (.int .u64 lo) := by rw [← hw2, World.cell?_alloc_new]; rfl
      have hsz : w.heap.size ≤ w2.heap.size := hb2.size
      rw [hw2]

      clear hw2
      first
        | (go_region_with (go_at_call 13; refine (of _).mono ?_; rintro e w1 ⟨rfl, hb1⟩; have hk0 := keepL hb1 hc0; have hk1 := keepL hb1 hc1))
        | fail
      all_goals
        go_wp2_with fail
        go_ret2
        exact ⟨by simp [wInt, wIntE, H1.out], nextB hb2.drew hb1 hsz⟩
  · have H1 : Hid (rightB v = false) := by show _ = _; exact HR.out (fun e => h1 (HE.out.1 e).1)
    have hx : (hi == hi') = false := by simp [h1]
    go_enter Try.func19, Try.ntmps19
    go_wp2_with fail
    obtain ⟨w2, hw2⟩ : ∃ w2, w.alloc (.cells #[.int .i64 hi, .int .u64 lo] 29) = w2 := ⟨_, rfl⟩
    have hb2 : Below w.heap.size w w2 := by rw [← hw2]; exact (Below.refl _ _).alloc (Nat.le_refl _) _
    have hc0 : w2.cell? ⟨w.heap.size, 0, none⟩ = some (.int .i64 hi) := by rw [← hw2, World.cell?_alloc_new]; rfl
    have hc1 : w2.cell? ⟨w.heap.size, 1, none⟩ = some (.int .u64 lo) := by rw [← hw2, World.cell?_alloc_new]; rfl
    have hsz : w.heap.size ≤ w2.heap.size := hb2.size
    rw [hw2]

    clear hw2
    first
      | (go_region_with (go_at_call 13; refine (of _).mono ?_; rintro e w1 ⟨rfl, hb1⟩; have hk0 := keepL hb1 hc0; have hk1 := keepL hb1 hc1))
      | fail
    all_goals
      go_wp2_with fail
      go_ret2
      exact ⟨by simp [wInt, wIntE, H1.out], nextB hb2.drew hb1 hsz⟩

end Cam
