import Derived.Test.YtibahadebogmpaaNumS
import Derived.Lib.Mul64
import Derived.Laws.Bits64b
/- num: Less, Times, Quo, Part. -/
namespace Cam
open Go Go.RowKit Go.Proofs

/-- num.Less -/
theorem Less_any (w : World) (a b : Int) :
    Calls Try.prog 9 #[.int .i64 a, .int .i64 b] w fun e w' => e = .returned (.tuple #[.int .i64 (lessN a b), .int .i64 (lessE a b)]) ∧ Below w.heap.size w w' := by
  go_enter Try.func9, Try.ntmps9
  go_wp2_with fail
  refine (Right_any _ _ [a, b] (Is.lit2 w a b _)).mono ?_
  rintro e w1 ⟨rfl, rfl⟩
  cases hr : allRight [a, b] with
  | false =>
    have H1 := Lib.hid hr
    clear hr
    go_wp2_with fail
    go_ret2
    exact ⟨by simp [lessN, lessE, H1.out], (Below.refl _ _).alloc (Nat.le_refl _) _⟩
  | true =>
    obtain ⟨n, hn⟩ : ∃ n, n = wrap64 (a - b) := ⟨_, rfl⟩
    have h1 : n = a - b ∨ rightB n = false ∧ rightB (a - b) = false := by
      rw [allRight_iff] at hr
      have h1 := hr a (by simp)
      have h2 := hr b (by simp)
      rw [Bool.eq_false_iff, Ne, rightB_iff, Bool.eq_false_iff, Ne, rightB_iff]
      unfold wrap64 at hn
      omega
    have hE : rightB (a - b) = rightB n := by
      rcases h1 with h | ⟨h, h'⟩
      · rw [h]
      · rw [h, h']
    have H1 := Lib.hid hr
    have HE := Lib.hid hE
    have Hx := Lib.hid h1
    have hn' := hn.symm
    clear hr hE h1 hn
    go_wp2_with fail
    refine (Right_any _ _ [n] (Is.block (l := [n]) (heap_new (by simp)) (Nat.le_refl _) (by simp [maxLen]))).mono ?_
    rintro e w1 ⟨rfl, rfl⟩
    have e2 : allRight [n] = rightB n := by simp [allRight]
    rw [e2]
    clear e2
    cases hr : rightB n with
    | true =>
      have H2 := Lib.hid hr
      clear hr
      go_wp2_with fail
      go_ret2
      have e3 : n = a - b := by
        rcases Hx.out with h | ⟨h, _⟩
        · exact h
        · rw [H2.out] at h
          cases h
      exact ⟨by simp only [hn']; simp [lessN, lessE, H1.out, HE.out, H2.out, ← e3], ((Below.refl _ _).alloc (Nat.le_refl _) _).alloc (by simp) _⟩
    | false =>
      have H2 := Lib.hid hr
      clear hr
      go_wp2_with fail
      go_ret2
      exact ⟨by simp [lessN, lessE, H1.out, HE.out, H2.out], ((Below.refl _ _).alloc (Nat.le_refl _) _).alloc (by simp) _⟩

theorem size_any (w : World) (a : Int) (ha : -9223372036854775808 ≤ a ∧ a ≤ 9223372036854775807) :
    Calls Try.prog 23 #[.int .i64 a] w fun e w' => e = .returned (.int .u64 ((a.natAbs : Nat) : Int)) ∧ w' = w := by
  by_cases h : a < 0
  · have h2 : IntKind.u64.wrap (-IntKind.u64.wrap a) = ((a.natAbs : Nat) : Int) := by
      simp only [IntKind.wrap_u64]; omega
    go_enter Try.func23, Try.ntmps23
    go_wp2
    go_ret
    exact ⟨by first | rfl | (rw [h2]), rfl⟩
  · have h2 : IntKind.u64.wrap a = ((a.natAbs : Nat) : Int) := by
      simp only [IntKind.wrap_u64]; omega
    go_enter Try.func23, Try.ntmps23
    go_wp2
    go_ret
    exact ⟨by first | rfl | (rw [h2]), rfl⟩

theorem Part_any (w : World) (a lo hi : Int) :
    Calls Try.prog 12 #[.int .i64 a, .int .i64 lo, .int .i64 hi] w fun e w' => e = .returned (.int .i64 (partI a lo hi)) ∧ w' = w := by
  by_cases h1 : hi < a
  · by_cases h2 : hi < lo
    · have H : Hid (partI a lo hi = lo) := by show _ = _; unfold partI; omega
      go_enter Try.func12, Try.ntmps12
      go_wp2
      go_ret
      exact ⟨by rw [H.out]; rfl, rfl⟩
    · have H : Hid (partI a lo hi = hi) := by show _ = _; unfold partI; omega
      go_enter Try.func12, Try.ntmps12
      go_wp2
      go_ret
      exact ⟨by rw [H.out]; rfl, rfl⟩
  · by_cases h2 : a < lo
    · have H : Hid (partI a lo hi = lo) := by show _ = _; unfold partI; omega
      go_enter Try.func12, Try.ntmps12
      go_wp2
      go_ret
      exact ⟨by rw [H.out]; rfl, rfl⟩
    · have H : Hid (partI a lo hi = a) := by show _ = _; unfold partI; omega
      go_enter Try.func12, Try.ntmps12
      go_wp2
      go_ret
      exact ⟨by rw [H.out]; rfl, rfl⟩

theorem maskN (a : Nat) (ha : a < 18446744073709551616) : bits .and .u64 (a : Int) 4294967295 = ((a % 4294967296 : Nat) : Int) := by
  have h := bits_and_u64_nat a 4294967295 ha (by omega)
  have e : a &&& 4294967295 = a % 4294967296 := Nat.and_two_pow_sub_one_eq_mod a 32
  rw [e] at h
  exact h
theorem divN (a : Nat) : (a : Int) / 4294967296 = ((a / 4294967296 : Nat) : Int) := by omega
theorem mulNN (a b : Nat) : (a : Int) * (b : Int) = ((a * b : Nat) : Int) := (Int.natCast_mul a b).symm
theorem addNN (a b : Nat) : (a : Int) + (b : Int) = ((a + b : Nat) : Int) := (Int.natCast_add a b).symm
theorem wrapNN (a : Nat) (ha : a < 18446744073709551616) : IntKind.u64.wrap (a : Int) = (a : Int) := by rw [IntKind.wrap_u64]; omega
theorem wrapMM (a : Nat) : IntKind.u64.wrap (a : Int) = ((a % 18446744073709551616 : Nat) : Int) := by rw [IntKind.wrap_u64]; omega

set_option maxHeartbeats 1000000 in
theorem Mul64_any (x y : Nat) (hx : x < 18446744073709551616) (hy : y < 18446744073709551616) (w : World) :
    Calls Try.prog 22 #[.int .u64 x, .int .u64 y] w fun e w' => e = .returned (.tuple #[.int .u64 ((x * y / 18446744073709551616 : Nat) : Int), .int .u64 ((x * y % 18446744073709551616 : Nat) : Int)]) ∧ w' = w := by
  obtain ⟨bd, bt, bw, hhi⟩ := Lib.mul64_hi x y hx hy
  have ba := Lib.half_mul_le (a := x / 4294967296) (b := y / 4294967296) (by omega) (by omega)
  have bb := Lib.half_mul_le (a := x / 4294967296) (b := y % 4294967296) (by omega) (by omega)
  have bc := Lib.half_mul_le (a := x % 4294967296) (b := y / 4294967296) (by omega) (by omega)
  have ba' : x / 4294967296 * (y / 4294967296) < 18446744073709551616 := by omega
  have bb' : x / 4294967296 * (y % 4294967296) < 18446744073709551616 := by omega
  have bc' : x % 4294967296 * (y / 4294967296) < 18446744073709551616 := by omega
  have bh1 : x / 4294967296 * (y / 4294967296) + (x / 4294967296 * (y % 4294967296) + x % 4294967296 * (y % 4294967296) / 4294967296) / 4294967296 < 18446744073709551616 := by omega
  have bh : x / 4294967296 * (y / 4294967296) + (x / 4294967296 * (y % 4294967296) + x % 4294967296 * (y % 4294967296) / 4294967296) / 4294967296 + ((x / 4294967296 * (y % 4294967296) + x % 4294967296 * (y % 4294967296) / 4294967296) % 4294967296 + x % 4294967296 * (y / 4294967296)) / 4294967296 < 18446744073709551616 := by omega
  go_enter Try.func22, Try.ntmps22
  go_wp2
  simp only [maskN x hx, maskN y hy, divN, mulNN, addNN, wrapNN _ bd, wrapNN _ bb', wrapNN _ bt, maskN _ bt, wrapNN _ bc', wrapNN _ bw, wrapNN _ ba', wrapNN _ bh1, wrapNN _ bh, wrapMM (x * y)]
  rw [hhi]
  go_ret2
  exact ⟨rfl, rfl⟩

set_option maxHeartbeats 800000 in
/-- num.Times -/
theorem Times_any (w : World) (a b : Int) (ha : -9223372036854775808 ≤ a ∧ a ≤ 9223372036854775807) (hb : -9223372036854775808 ≤ b ∧ b ≤ 9223372036854775807) :
    Calls Try.prog 11 #[.int .i64 a, .int .i64 b] w fun e w' => e = .returned (.tuple #[.int .i64 (mulN a b), .int .i64 (mulE a b)]) ∧ Below w.heap.size w w' := by
  have sa := fun w => size_any w a ha
  have sb := fun w => size_any w b hb
  have ml := Mul64_any a.natAbs b.natAbs (by omega) (by omega)
  clear ha hb
  have mw := mul_words a b
  obtain ⟨x, hx⟩ : ∃ x, x = a.natAbs := ⟨_, rfl⟩
  obtain ⟨y, hy⟩ : ∃ y, y = b.natAbs := ⟨_, rfl⟩
  rw [← hx] at sa
  rw [← hy] at sb
  rw [← hx, ← hy] at ml mw
  obtain ⟨h, hh⟩ : ∃ h, h = x * y / 18446744073709551616 := ⟨_, rfl⟩
  obtain ⟨p, hp⟩ : ∃ p, p = x * y % 18446744073709551616 := ⟨_, rfl⟩
  rw [← hh, ← hp] at ml mw
  have Mw := Lib.hid mw
  clear hh hp hx hy mw
  go_enter Try.func11, Try.ntmps11
  go_wp2_with fail
  refine (Right_any _ _ [a, b] (Is.lit2 w a b _)).mono ?_
  rintro e w1 ⟨rfl, rfl⟩
  cases hr : allRight [a, b] with
  | false =>
    have H1 := Lib.hid hr
    clear hr
    go_wp2_with fail
    go_ret2
    exact ⟨by simp [mulN, mulE, H1.out], (Below.refl _ _).alloc (Nat.le_refl _) _⟩
  | true =>
    have Hr := Lib.hid hr
    have hq := Mw.out hr
    have Hq := Lib.hid hq
    clear hr hq Mw
    go_wp2_with fail
    refine (sa _).mono ?_
    rintro e w1 ⟨rfl, rfl⟩
    go_wp2_with fail
    refine (sb _).mono ?_
    rintro e w1 ⟨rfl, rfl⟩
    go_wp2_with fail
    refine (ml _).mono ?_
    rintro e w1 ⟨rfl, rfl⟩
    clear sa sb ml
    by_cases h0 : h = 0
    · subst h0
      by_cases h1 : 4611686018427387904 < p
      · go_wp2_with fail
        go_ret2
        have h2 := Hq.out.2 (by omega)
        exact ⟨by simp [mulN, h2], (Below.refl _ _).alloc (Nat.le_refl _) _⟩
      · have h3 : wrap64 (p : Int) = p := by unfold wrap64; omega
        have h4 : wrap64 (-(p : Int)) = -(p : Int) := by unfold wrap64; omega
        have h5 := Hq.out.1 ⟨rfl, by omega⟩
        by_cases ha : a < 0
        · by_cases hb : b < 0
          · rw [if_neg (by omega)] at h5
            have H5 := Lib.hid h5
            clear h5
            go_wp2_with fail
            go_ret2
            exact ⟨by simp [mulN, H5.out.1, H5.out.2], (Below.refl _ _).alloc (Nat.le_refl _) _⟩
          · rw [if_pos (by omega)] at h5
            have H5 := Lib.hid h5
            clear h5
            have hb' : decide (b < 0) = false := by simp; omega
            go_wp2_with fail
            go_ret2
            exact ⟨by simp [mulN, H5.out.1, H5.out.2], (Below.refl _ _).alloc (Nat.le_refl _) _⟩
        · have ha' : decide (a < 0) = false := by simp; omega
          by_cases hb : b < 0
          · rw [if_pos (by omega)] at h5
            have H5 := Lib.hid h5
            clear h5
            go_wp2_with fail
            go_ret2
            exact ⟨by simp [mulN, H5.out.1, H5.out.2], (Below.refl _ _).alloc (Nat.le_refl _) _⟩
          · rw [if_neg (by omega)] at h5
            have H5 := Lib.hid h5
            clear h5
            have hb' : decide (b < 0) = false := by simp; omega
            go_wp2_with fail
            go_ret2
            exact ⟨by simp [mulN, H5.out.1, H5.out.2], (Below.refl _ _).alloc (Nat.le_refl _) _⟩
    · go_wp2_with fail
      go_ret2
      have h2 := Hq.out.2 (by omega)
      exact ⟨by simp [mulN, h2], (Below.refl _ _).alloc (Nat.le_refl _) _⟩

/-- num.Quo -/
theorem Quo_any (w : World) (a b : Int) :
    Calls Try.prog 13 #[.int .i64 a, .int .i64 b] w fun e w' => e = .returned (.tuple #[.int .i64 (quoQ a b), .int .i64 (quoR a b), .int .i64 (quoE a b)]) ∧ Below w.heap.size w w' := by
  go_enter Try.func13, Try.ntmps13
  go_wp2_with fail
  refine (Right_any _ _ [a, b] (Is.lit2 w a b _)).mono ?_
  rintro e w1 ⟨rfl, rfl⟩
  cases hr : allRight [a, b] with
  | false =>
    have H1 := Lib.hid hr
    clear hr
    go_wp2_with fail
    refine bodyPost_ret (v := .tuple #[.int .i64 0, .int .i64 0, .int .i64 3]) (by simp [results, Try.results13, go_sem]) rfl ?_
    exact ⟨by simp [quoQ, quoR, quoE, H1.out], (Below.refl _ _).alloc (Nat.le_refl _) _⟩
  | true =>
    by_cases hb : b = 0
    · subst hb
      have H1 := Lib.hid hr
      clear hr
      go_wp2_with fail
      refine bodyPost_ret (v := .tuple #[.int .i64 0, .int .i64 0, .int .i64 2]) (by simp [results, Try.results13, go_sem]) rfl ?_
      exact ⟨by simp [quoQ, quoR, quoE, H1.out], (Below.refl _ _).alloc (Nat.le_refl _) _⟩
    · have H1 := Lib.hid hr
      have tb := tq_bounds a b hb
      have hab := (two_right a b).1 hr
      clear hr
      obtain ⟨q, hq⟩ : ∃ q, q = a.tdiv b := ⟨_, rfl⟩
      obtain ⟨r, hr⟩ : ∃ r, r = a.tmod b := ⟨_, rfl⟩
      rw [← hq, ← hr] at tb
      have hq1 : wrap64 (a.tdiv b) = q := by rw [← hq]; unfold wrap64; omega
      have hq2 : wrap64 (q - 1) = q - 1 := by unfold wrap64; omega
      have hq3 : wrap64 (r + b) = r + b := by unfold wrap64; omega
      have hr1 := hr.symm
      have Hq := Lib.hid hq
      have Hr := Lib.hid hr
      have Hb := Lib.hid hb
      clear hq hr tb hab
      have e0 : Hid (quoE a b = 0) := by show _ = _; simp [quoE, H1.out, hb]
      have fin : ∀ (x y : Int), (adj a b = true → x = q - 1 ∧ y = r + b) → (adj a b = false → x = q ∧ y = r) → x = quoQ a b ∧ y = quoR a b := by
        intro x y h1 h2
        unfold quoQ quoR floorQ floorR
        rw [e0.out, ← Hq.out, ← Hr.out]
        cases h : adj a b with
        | true => simpa using h1 h
        | false => simpa using h2 h
      have hadj : Hid (adj a b = decide (r ≠ 0 ∧ ((r < 0 ∧ 0 ≤ b) ∨ (0 ≤ r ∧ b < 0)))) := by show _ = _; unfold adj; rw [Hr.out]
      go_wp2_with fail
      go_quiet (fail)
      have HQ1 := Lib.hid hq1
      clear hq1 hr1
      by_cases h0 : r = 0
      · have ha : Hid (adj a b = false) := by show _ = _; rw [hadj.out]; simp [h0]
        have ff := fin q 0 (by rw [ha.out]; simp) (by rw [← h0]; simp)
        have Ff := Lib.hid ff
        clear ff fin
        subst h0
        go_wp2_with fail
        refine bodyPost_ret (v := .tuple #[.int .i64 q, .int .i64 0, .int .i64 0]) (by simp [results, Try.results13, go_sem, HQ1.out, hq2, hq3]) rfl ?_
        exact ⟨by rw [e0.out, ← Ff.out.1, ← Ff.out.2], below_drewN' ((Below.refl _ _).alloc (Nat.le_refl _) _) _⟩
      · by_cases h1 : r < 0
        · by_cases h2 : b < 0
          · have ha : Hid (adj a b = false) := by show _ = _; rw [hadj.out]; simp; omega
            have ff := fin q r (by rw [ha.out]; simp) (by simp)
            have Ff := Lib.hid ff
            clear ff fin
            go_wp2_with fail
            refine bodyPost_ret (v := .tuple #[.int .i64 q, .int .i64 r, .int .i64 0]) (by simp [results, Try.results13, go_sem, HQ1.out, hq2, hq3]) rfl ?_
            exact ⟨by rw [e0.out, ← Ff.out.1, ← Ff.out.2], below_drewN' ((Below.refl _ _).alloc (Nat.le_refl _) _) _⟩
          · have h2' : decide (b < 0) = false := by simp; omega
            have ha : Hid (adj a b = true) := by show _ = _; rw [hadj.out]; simp; omega
            have ff := fin (q - 1) (r + b) (by simp) (by rw [ha.out]; simp)
            have Ff := Lib.hid ff
            clear ff fin
            go_wp2_with fail
            refine bodyPost_ret (v := .tuple #[.int .i64 (q - 1), .int .i64 (r + b), .int .i64 0]) (by simp [results, Try.results13, go_sem, HQ1.out, hq2, hq3]) rfl ?_
            exact ⟨by rw [e0.out, ← Ff.out.1, ← Ff.out.2], below_drewN' ((Below.refl _ _).alloc (Nat.le_refl _) _) _⟩
        · have h1' : decide (r < 0) = false := by simp; omega
          by_cases h2 : b < 0
          · have ha : Hid (adj a b = true) := by show _ = _; rw [hadj.out]; simp; omega
            have ff := fin (q - 1) (r + b) (by simp) (by rw [ha.out]; simp)
            have Ff := Lib.hid ff
            clear ff fin
            go_wp2_with fail
            refine bodyPost_ret (v := .tuple #[.int .i64 (q - 1), .int .i64 (r + b), .int .i64 0]) (by simp [results, Try.results13, go_sem, HQ1.out, hq2, hq3]) rfl ?_
            exact ⟨by rw [e0.out, ← Ff.out.1, ← Ff.out.2], below_drewN' ((Below.refl _ _).alloc (Nat.le_refl _) _) _⟩
          · have h2' : decide (b < 0) = false := by simp; omega
            have ha : Hid (adj a b = false) := by show _ = _; rw [hadj.out]; simp; omega
            have ff := fin q r (by rw [ha.out]; simp) (by simp)
            have Ff := Lib.hid ff
            clear ff fin
            go_wp2_with fail
            refine bodyPost_ret (v := .tuple #[.int .i64 q, .int .i64 r, .int .i64 0]) (by simp [results, Try.results13, go_sem, HQ1.out, hq2, hq3]) rfl ?_
            exact ⟨by rw [e0.out, ← Ff.out.1, ← Ff.out.2], below_drewN' ((Below.refl _ _).alloc (Nat.le_refl _) _) _⟩

end Cam
