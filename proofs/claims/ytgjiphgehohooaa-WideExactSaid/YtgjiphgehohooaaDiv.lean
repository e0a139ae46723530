import Derived.Test.YtgjiphgehohooaaWdW
import Derived.Test.YtgjiphgehohooaaDivP
import Derived.Test.YtgjiphgehohooaaDivS
import Derived.Deep.DeepCutAuto
/- math/bits.Div64. -/
namespace Cam
open Go Go.RowKit Go.Proofs

theorem wrap_div (U y : Nat) (hU : U < 18446744073709551616) : IntKind.u64.wrap ((U : Int) / (y : Int)) = ((U / y : Nat) : Int) := by
  rw [← Int.natCast_ediv, wrapMM, Nat.mod_eq_of_lt (Nat.lt_of_le_of_lt (Nat.div_le_self _ _) hU)]
theorem wrap_mul (a b : Nat) (h : a * b < 18446744073709551616) : IntKind.u64.wrap ((a : Int) * (b : Int)) = ((a * b : Nat) : Int) := by
  rw [← Int.natCast_mul, wrapMM, Nat.mod_eq_of_lt h]
theorem wrap_sub (a b c : Nat) (h : a = b + c) (ha : a < 18446744073709551616) : IntKind.u64.wrap ((a : Int) - (b : Int)) = (c : Int) := by
  rw [IntKind.wrap_u64]
  omega
theorem wrap_add (a b : Nat) (h : a + b < 18446744073709551616) : IntKind.u64.wrap ((a : Int) + (b : Int)) = ((a + b : Nat) : Int) := by
  rw [IntKind.wrap_u64]
  omega
theorem castQ (H L N : Nat) : ((H : Int) * 18446744073709551616 + (L : Int)) / (N : Int) = (((H * 18446744073709551616 + L) / N : Nat) : Int) := by
  rw [Int.natCast_ediv, Int.natCast_add, Int.natCast_mul]
  rfl
theorem castR (H L N : Nat) : ((H : Int) * 18446744073709551616 + (L : Int)) % (N : Int) = (((H * 18446744073709551616 + L) % N : Nat) : Int) := by
  rw [Int.natCast_emod, Int.natCast_add, Int.natCast_mul]
  rfl
/-- what is left, beside what wraps -/
theorem rem_wraps (U v Y q R : Nat) (h : U * 4294967296 + v = q * Y + R) (hR : R < 18446744073709551616) :
    ∃ x1 x2 x3 : Nat, IntKind.u64.wrap ((U : Int) * 4294967296) = (x1 : Int) ∧ IntKind.u64.wrap ((x1 : Int) + (v : Int)) = (x2 : Int) ∧ IntKind.u64.wrap ((q : Int) * (Y : Int)) = (x3 : Int) ∧ IntKind.u64.wrap ((x2 : Int) - (x3 : Int)) = (R : Int) := by
  refine ⟨U * 4294967296 % 18446744073709551616, (U * 4294967296 % 18446744073709551616 + v) % 18446744073709551616, q * Y % 18446744073709551616, ?_, ?_, ?_, ?_⟩
  · rw [IntKind.wrap_u64]
    omega
  · rw [IntKind.wrap_u64]
    omega
  · rw [← Int.natCast_mul, wrapMM]
  · rw [IntKind.wrap_u64]
    generalize q * Y = z at *
    omega
/-- the first guess, as it is reckoned -/
theorem first_guess (U y : Nat) (hU : U < 18446744073709551616) : ∃ q m r : Nat, q = U / y ∧ r = U % y ∧ IntKind.u64.wrap ((U : Int) / (y : Int)) = (q : Int) ∧ IntKind.u64.wrap ((q : Int) * (y : Int)) = (m : Int) ∧ IntKind.u64.wrap ((U : Int) - (m : Int)) = (r : Int) := by
  have hd : U / y * y + U % y = U := by rw [Nat.mul_comm]; exact Nat.div_add_mod U y
  exact ⟨U / y, U / y * y, U % y, rfl, rfl, wrap_div _ _ hU, wrap_mul _ _ (by omega), wrap_sub _ _ _ hd.symm hU⟩
/-- behind the first digit -/
theorem second_start {U v v0 Y y1 y0 q : Nat} (h : (U * 4294967296 + v) / (y1 * 4294967296 + y0) = q) (hy : y1 * 4294967296 + y0 = Y) (h5 : Y < 18446744073709551616) (h1 : 2147483648 ≤ y1 ∧ y1 < 4294967296) (h0 : y0 < 4294967296) (hv : v0 < 4294967296) :
    ∃ R x1 x2 x3 q2 m2 r2 : Nat, (R = (U * 4294967296 + v) % Y ∧ (U * 4294967296 + v) / Y = q ∧ R < Y) ∧
      IntKind.u64.wrap ((U : Int) * 4294967296) = (x1 : Int) ∧ IntKind.u64.wrap ((x1 : Int) + (v : Int)) = (x2 : Int) ∧ IntKind.u64.wrap ((q : Int) * (Y : Int)) = (x3 : Int) ∧ IntKind.u64.wrap ((x2 : Int) - (x3 : Int)) = (R : Int) ∧
      IntKind.u64.wrap ((R : Int) / (y1 : Int)) = (q2 : Int) ∧ IntKind.u64.wrap ((q2 : Int) * (y1 : Int)) = (m2 : Int) ∧ IntKind.u64.wrap ((R : Int) - (m2 : Int)) = (r2 : Int) ∧ Guess R v0 y1 y0 q2 r2 := by
  rw [hy] at h
  have hY : 0 < Y := by omega
  have hR : (U * 4294967296 + v) % Y < Y := Nat.mod_lt _ hY
  have hd : U * 4294967296 + v = q * Y + (U * 4294967296 + v) % Y := by rw [← h]; exact (Nat.div_add_mod' _ _).symm
  obtain ⟨x1, x2, x3, a1, a2, a3, a4⟩ := rem_wraps U v Y q _ hd (by omega)
  generalize (U * 4294967296 + v) % Y = R at *
  obtain ⟨q2, m2, r2, b0, b1, b2, b3, b4⟩ := first_guess R y1 (by omega)
  have g := guess_start R v0 y1 y0 h1 h0 hv (by omega)
  rw [← b0, ← b1] at g
  exact ⟨R, x1, x2, x3, q2, m2, r2, ⟨rfl, h, hR⟩, a1, a2, a3, a4, b2, b3, b4, g⟩
/-- behind the second digit -/
theorem last_parts {H L N P U V Y q p v1 v0 y1 y0 R s QF RF : Nat} (w3 : U * 18446744073709551616 + V = (H * 18446744073709551616 + L) * P) (hY : Y = N * P) (hP : 0 < P) (hUY : U < Y) (h5 : Y < 18446744073709551616)
    (hv : v1 = V / 4294967296 ∧ v0 = V % 4294967296) (hy : y1 * 4294967296 + y0 = Y) (hq : R = (U * 4294967296 + v1) % Y ∧ (U * 4294967296 + v1) / Y = q ∧ R < Y) (hp : (R * 4294967296 + v0) / (y1 * 4294967296 + y0) = p)
    (hPi : (2 : Int) ^ s = (P : Int)) (hVl : V < 18446744073709551616) (hQF : QF = (H * 18446744073709551616 + L) / N) (hRF : RF = (H * 18446744073709551616 + L) % N) :
    ∃ z1 x1 x2 x3 R0 : Nat, IntKind.u64.wrap ((q : Int) * 4294967296) = (z1 : Int) ∧ IntKind.u64.wrap ((z1 : Int) + (p : Int)) = (QF : Int) ∧
      IntKind.u64.wrap ((R : Int) * 4294967296) = (x1 : Int) ∧ IntKind.u64.wrap ((x1 : Int) + (v0 : Int)) = (x2 : Int) ∧ IntKind.u64.wrap ((p : Int) * (Y : Int)) = (x3 : Int) ∧ IntKind.u64.wrap ((x2 : Int) - (x3 : Int)) = (R0 : Int) ∧ (R0 : Int) / 2 ^ s = (RF : Int) := by
  rw [hy] at hp
  have hYp : 0 < Y := by omega
  obtain ⟨hR, hq1, hRl⟩ := hq
  have td := two_digits U V Y q R p _ hYp (by rw [← hv.1]; exact hq1) (by rw [← hv.1]; exact hR.symm) (by rw [← hv.2]; exact hp) rfl
  rw [← hv.2, w3, hY] at td
  have sb := shift_back (H * 18446744073709551616 + L) N P hP
  rw [td.1, ← hQF] at sb
  rw [td.2, ← hY, ← hRF] at sb
  have hqb : q < 4294967296 := by
    rw [← hq1, Nat.div_lt_iff_lt_mul hYp]
    omega
  have hpb : p < 4294967296 := by
    rw [← hp, Nat.div_lt_iff_lt_mul hYp]
    omega
  have hR0 : (R * 4294967296 + v0) % Y < Y := Nat.mod_lt _ hYp
  have hd : R * 4294967296 + v0 = p * Y + (R * 4294967296 + v0) % Y := by rw [← hp]; exact (Nat.div_add_mod' _ _).symm
  obtain ⟨x1, x2, x3, a1, a2, a3, a4⟩ := rem_wraps R v0 Y p _ hd (by omega)
  refine ⟨q * 4294967296, x1, x2, x3, _, ?_, ?_, a1, a2, a3, a4, ?_⟩
  · rw [IntKind.wrap_u64]
    omega
  · rw [IntKind.wrap_u64]
    have := sb.1
    omega
  · rw [hPi, ← Int.natCast_ediv, sb.2]
/-- the guess less one, as it is reckoned -/
theorem guess_less {U u y1 y0 q r : Nat} (h : Guess U u y1 y0 q r) (hlt : (U * 4294967296 + u) / (y1 * 4294967296 + y0) < q) :
    ∃ q' r' : Nat, q = q' + 1 ∧ IntKind.u64.wrap ((q : Int) - 1) = (q' : Int) ∧ IntKind.u64.wrap ((r : Int) + (y1 : Int)) = (r' : Int) ∧
      (r' < 4294967296 → Guess U u y1 y0 q' r') ∧ (4294967296 ≤ r' → (U * 4294967296 + u) / (y1 * 4294967296 + y0) = q') := by
  obtain ⟨q', rfl⟩ := Nat.exists_eq_add_one_of_ne_zero (n := q) (by intro h0; rw [h0] at hlt; exact Nat.not_lt_zero _ hlt)
  have gn := guess_next h hlt
  obtain ⟨⟨h1, h1'⟩, h0, hu, hU, hq, hr, hq2, hle⟩ := h
  refine ⟨q', r + y1, rfl, ?_, wrap_add _ _ (by omega), gn.1, gn.2⟩
  rw [IntKind.wrap_u64]
  omega
/-- the test's two sides, as they are reckoned -/
theorem guess_test {U u y1 y0 q r : Nat} (h : Guess U u y1 y0 q r) (hq : q < 4294967296) :
    ∃ z t0 t : Nat, IntKind.u64.wrap ((q : Int) * (y0 : Int)) = (z : Int) ∧ IntKind.u64.wrap (4294967296 * (r : Int)) = (t0 : Int) ∧ IntKind.u64.wrap ((t0 : Int) + (u : Int)) = (t : Int) ∧
      (t < z → (U * 4294967296 + u) / (y1 * 4294967296 + y0) < q) ∧ (¬ t < z → (U * 4294967296 + u) / (y1 * 4294967296 + y0) = q) := by
  have hh := @guess_high _ _ _ _ _ _ h
  have hg := @guess_right _ _ _ _ _ _ h
  obtain ⟨⟨h1, h1'⟩, h0, hu, hU, hqq, hr, hq2, hle⟩ := h
  have hz : q * y0 ≤ 4294967295 * 4294967295 := Nat.mul_le_mul (by omega) (by omega)
  refine ⟨q * y0, 4294967296 * r, 4294967296 * r + u, wrap_mul _ _ (by omega), ?_, wrap_add _ _ (by omega), fun ht => hh (.inr ht), fun ht => hg (by omega)⟩
  rw [IntKind.wrap_u64]
  omega

set_option maxRecDepth 100000 in
set_option maxHeartbeats 3200000 in
theorem Div64_any (w : World) (H L N : Nat) (hL : L < 18446744073709551616) (hH : 0 < H) (hHN : H < N) (hN : N < 9223372036854775808) : DivOk w H L N := by
  unfold DivOk
  obtain ⟨s, hs1, hs2, hs3, hs4, hs5⟩ := bitLen_span N (by omega) hN
  have lz := fun w => lz_any (N : Int) w (by omega) (by omega)
  rw [show ((N : Int)).toNat = N by omega, hs3] at lz
  obtain ⟨P, hP⟩ : ∃ P, P = 2 ^ s := ⟨_, rfl⟩
  obtain ⟨K, hK⟩ : ∃ K, K = 2 ^ (64 - s) := ⟨_, rfl⟩
  have hPK : P * K = 18446744073709551616 := by rw [hP, hK, ← Nat.pow_add, show s + (64 - s) = 64 by omega]
  have hPi : (2 : Int) ^ s = (P : Int) := by rw [hP]; push_cast; rfl
  have hKi : (2 : Int) ^ (64 - s) = (K : Int) := by rw [hK]; push_cast; rfl
  have hPp : 0 < P := by rw [hP]; exact Nat.two_pow_pos _
  obtain ⟨w1, w2, w3⟩ := shift_words H L N P K hL hHN hPp hPK
  rw [← hP] at hs4 hs5
  obtain ⟨Y, hY⟩ : ∃ Y, Y = N * P := ⟨_, rfl⟩
  obtain ⟨A, hA⟩ : ∃ A, A = H * P := ⟨_, rfl⟩
  obtain ⟨B, hB⟩ : ∃ B, B = L / K := ⟨_, rfl⟩
  obtain ⟨V, hV⟩ : ∃ V, V = L * P % 18446744073709551616 := ⟨_, rfl⟩
  obtain ⟨U, hU⟩ : ∃ U, U = A + B := ⟨_, rfl⟩
  rw [← hY] at hs4 hs5 w1
  rw [← hA, ← hB, ← hU] at w1 w3
  rw [← hB] at w2
  have hor : bits .or .u64 (A : Int) (B : Int) = (U : Int) := by
    have e : A ||| B = A + B := by rw [hA, Nat.mul_comm H P, hP, Nat.two_pow_add_eq_or_of_lt (by rw [← hP]; exact w2)]
    rw [bits_or_u64_nat A B (by omega) (by omega), e, hU]
  rw [← hV] at w3
  have f1 : IntKind.u64.wrap ((N : Int) * 2 ^ s) = (Y : Int) := by rw [hPi, ← Int.natCast_mul, ← hY, IntKind.wrap_u64]; omega
  have f2 : IntKind.u64.wrap ((H : Int) * 2 ^ s) = (A : Int) := by rw [hPi, ← Int.natCast_mul, ← hA, IntKind.wrap_u64]; omega
  have f3 : (L : Int) / 2 ^ (64 - s) = (B : Int) := by rw [hKi, hB, Int.natCast_ediv]
  have hVl : V < 18446744073709551616 := by rw [hV]; exact Nat.mod_lt _ (by decide)
  have f6 : IntKind.u64.wrap ((L : Int) * 2 ^ s) = (V : Int) := by rw [hPi, ← Int.natCast_mul, wrapMM, ← hV]
  obtain ⟨y1, hy1⟩ : ∃ y1, y1 = Y / 4294967296 := ⟨_, rfl⟩
  obtain ⟨y0, hy0⟩ : ∃ y0, y0 = Y % 4294967296 := ⟨_, rfl⟩
  obtain ⟨v1, hv1⟩ : ∃ v1, v1 = V / 4294967296 := ⟨_, rfl⟩
  obtain ⟨v0, hv0⟩ : ∃ v0, v0 = V % 4294967296 := ⟨_, rfl⟩
  have f4 := maskN Y (by omega)
  have f5 : (Y : Int) / 4294967296 = (y1 : Int) := by omega
  have f7 := maskN V hVl
  have f8 : (V : Int) / 4294967296 = (v1 : Int) := by omega
  rw [← hy0] at f4
  rw [← hv0] at f7
  have g1 := guess_start U v1 y1 y0 (by omega) (by omega) (by omega) (by omega)
  have hyy : y1 * 4294967296 + y0 = Y := by rw [hy1, hy0, Nat.mul_comm]; exact Nat.div_add_mod Y _
  have h0 : ¬ (N : Int) = 0 := by omega
  have h2 : decide ((N : Int) ≤ (H : Int)) = false := by simp; omega
  have h3 : ((H : Int) == 0) = false := by simp; omega
  have HY := Lib.hid hY
  have HP := Lib.hid hP
  have W3 := Lib.hid w3
  have W1 := Lib.hid w1
  obtain ⟨q1, m1, r1, hq1, hr1, e1, e2, e3⟩ := first_guess U y1 (by omega)
  rw [← hq1, ← hr1] at g1
  obtain ⟨QF, hQF⟩ : ∃ QF, QF = (H * 18446744073709551616 + L) / N := ⟨_, rfl⟩
  obtain ⟨RF, hRF⟩ : ∃ RF, RF = (H * 18446744073709551616 + L) % N := ⟨_, rfl⟩
  have cQ := castQ H L N
  have cR := castR H L N
  rw [← hQF] at cQ
  rw [← hRF] at cR
  rw [cQ, cR]
  have HQF := Lib.hid hQF
  have HRF := Lib.hid hRF
  have G1 := Lib.hid g1
  have Hyy := Lib.hid hyy
  have Hv := Lib.hid (And.intro hv1 hv0)
  have HPp := Lib.hid hPp
  have HHN := Lib.hid hHN
  have Hs5 := Lib.hid hs5
  have HPi := Lib.hid hPi
  clear cQ cR hQF hRF hq1 hr1 hyy hy1 hy0 hv1 hv0 hs3 hP hK hPK hPi hKi hY hA hB hV hU w3 g1 w1 w2
  go_enter Try.func30, Try.ntmps30
  go_wp2_with fail
  refine (lz _).mono ?_
  rintro e w1 ⟨rfl, rfl⟩
  go_wp2_with fail
  go_loop [15, 16] (fun q r => ∃ q' r' : Nat, q = .int .u64 (q' : Int) ∧ r = .int .u64 (r' : Int) ∧ Hid (Guess U v1 y1 y0 q' r')) (fun q _ => (intOf q).toNat)
  case atStart => exact ⟨q1, r1, rfl, rfl, G1⟩
  case round =>
    obtain ⟨q, r, rfl, rfl, G⟩ := hrel
    by_cases ht : 4294967296 ≤ q
    · have hlt := guess_high G.out (.inl ht)
      have hti : (4294967296 : Int) ≤ (q : Int) := by omega
      obtain ⟨q', r', hqq, s1, s2, gn, gb⟩ := guess_less G.out hlt
      have Hqq := Lib.hid hqq
      clear hqq hlt
      by_cases hb : 4294967296 ≤ r'
      · have HQ := Lib.hid (gb hb)
        have hbi : (4294967296 : Int) ≤ (r' : Int) := by omega
        clear gn gb
        obtain ⟨R, x1, x2, x3, q2, m2, r2, hR, a1, a2, a3, a4, b1, b2, b3, g2⟩ := second_start (v0 := v0) HQ.out Hyy.out Hs5.out G.out.1 G.out.2.1 (by have := Hv.out.2; omega)
        have HR := Lib.hid hR
        have G2 := Lib.hid g2
        clear hR g2 G HQ
        go_wp2_with fail
        go_loop [18, 16] (fun q r => ∃ q' r' : Nat, q = .int .u64 (q' : Int) ∧ r = .int .u64 (r' : Int) ∧ Hid (Guess R v0 y1 y0 q' r')) (fun q _ => (intOf q).toNat)
        case atStart => exact ⟨q2, r2, rfl, rfl, G2⟩
        case round =>
          obtain ⟨p, r, rfl, rfl, G⟩ := hrel
          by_cases ht : 4294967296 ≤ p
          · have hlt := guess_high G.out (.inl ht)
            have hti : (4294967296 : Int) ≤ (p : Int) := by omega
            obtain ⟨p', r', hqq, s1, s2, gn, gb⟩ := guess_less G.out hlt
            have Hqq := Lib.hid hqq
            clear hqq hlt
            by_cases hb : 4294967296 ≤ r'
            · have HQ := Lib.hid (gb hb)
              have hbi : (4294967296 : Int) ≤ (r' : Int) := by omega
              clear gn gb
              obtain ⟨z1', y1', y2', y3', R0, c1, c2, c3, c4, c5, c6, c7⟩ := last_parts W3.out HY.out HPp.out W1.out Hs5.out Hv.out Hyy.out HR.out HQ.out HPi.out hVl HQF.out HRF.out
              clear G
              go_wp2_with fail
              go_ret2
              exact ⟨rfl, Below.refl _ _⟩
            · have G' := Lib.hid (gn (by omega))
              have hbi : decide ((4294967296 : Int) ≤ (r' : Int)) = false := by simp; omega
              clear gn gb
              go_wp2_with fail
              exact ⟨⟨p', r', rfl, rfl, G'⟩, by have := Hqq.out; simp [intOf]; omega⟩
          · have hti : decide ((4294967296 : Int) ≤ (p : Int)) = false := by simp; omega
            obtain ⟨z, t0, t, z1, z2, z3, gt, gr⟩ := guess_test G.out (by omega)
            by_cases hz : t < z
            · have hlt := gt hz
              have hzi : (t : Int) < (z : Int) := by omega
              clear gt gr
              obtain ⟨p', r', hqq, s1, s2, gn, gb⟩ := guess_less G.out hlt
              have Hqq := Lib.hid hqq
              clear hqq hlt
              by_cases hb : 4294967296 ≤ r'
              · have HQ := Lib.hid (gb hb)
                have hbi : (4294967296 : Int) ≤ (r' : Int) := by omega
                clear gn gb
                obtain ⟨z1', y1', y2', y3', R0, c1, c2, c3, c4, c5, c6, c7⟩ := last_parts W3.out HY.out HPp.out W1.out Hs5.out Hv.out Hyy.out HR.out HQ.out HPi.out hVl HQF.out HRF.out
                clear G
                go_wp2_with fail
                go_ret2
                exact ⟨rfl, Below.refl _ _⟩
              · have G' := Lib.hid (gn (by omega))
                have hbi : decide ((4294967296 : Int) ≤ (r' : Int)) = false := by simp; omega
                clear gn gb
                go_wp2_with fail
                exact ⟨⟨p', r', rfl, rfl, G'⟩, by have := Hqq.out; simp [intOf]; omega⟩
            · have HQ := Lib.hid (gr hz)
              have hzi : decide ((t : Int) < (z : Int)) = false := by simp; omega
              have hzn : decide (t < z) = false := by simp; omega
              clear gt gr
              obtain ⟨z1', y1', y2', y3', R0, c1, c2, c3, c4, c5, c6, c7⟩ := last_parts W3.out HY.out HPp.out W1.out Hs5.out Hv.out Hyy.out HR.out HQ.out HPi.out hVl HQF.out HRF.out
              clear G
              go_wp2_with fail
              go_ret2
              exact ⟨rfl, Below.refl _ _⟩
      · have G' := Lib.hid (gn (by omega))
        have hbi : decide ((4294967296 : Int) ≤ (r' : Int)) = false := by simp; omega
        clear gn gb
        go_wp2_with fail
        exact ⟨⟨q', r', rfl, rfl, G'⟩, by have := Hqq.out; simp [intOf]; omega⟩
    · have hti : decide ((4294967296 : Int) ≤ (q : Int)) = false := by simp; omega
      obtain ⟨z, t0, t, z1, z2, z3, gt, gr⟩ := guess_test G.out (by omega)
      by_cases hz : t < z
      · have hlt := gt hz
        have hzi : (t : Int) < (z : Int) := by omega
        clear gt gr
        obtain ⟨q', r', hqq, s1, s2, gn, gb⟩ := guess_less G.out hlt
        have Hqq := Lib.hid hqq
        clear hqq hlt
        by_cases hb : 4294967296 ≤ r'
        · have HQ := Lib.hid (gb hb)
          have hbi : (4294967296 : Int) ≤ (r' : Int) := by omega
          clear gn gb
          obtain ⟨R, x1, x2, x3, q2, m2, r2, hR, a1, a2, a3, a4, b1, b2, b3, g2⟩ := second_start (v0 := v0) HQ.out Hyy.out Hs5.out G.out.1 G.out.2.1 (by have := Hv.out.2; omega)
          have HR := Lib.hid hR
          have G2 := Lib.hid g2
          clear hR g2 G HQ
          go_wp2_with fail
          go_loop [18, 16] (fun q r => ∃ q' r' : Nat, q = .int .u64 (q' : Int) ∧ r = .int .u64 (r' : Int) ∧ Hid (Guess R v0 y1 y0 q' r')) (fun q _ => (intOf q).toNat)
          case atStart => exact ⟨q2, r2, rfl, rfl, G2⟩
          case round =>
            obtain ⟨p, r, rfl, rfl, G⟩ := hrel
            by_cases ht : 4294967296 ≤ p
            · have hlt := guess_high G.out (.inl ht)
              have hti : (4294967296 : Int) ≤ (p : Int) := by omega
              obtain ⟨p', r', hqq, s1, s2, gn, gb⟩ := guess_less G.out hlt
              have Hqq := Lib.hid hqq
              clear hqq hlt
              by_cases hb : 4294967296 ≤ r'
              · have HQ := Lib.hid (gb hb)
                have hbi : (4294967296 : Int) ≤ (r' : Int) := by omega
                clear gn gb
                obtain ⟨z1', y1', y2', y3', R0, c1, c2, c3, c4, c5, c6, c7⟩ := last_parts W3.out HY.out HPp.out W1.out Hs5.out Hv.out Hyy.out HR.out HQ.out HPi.out hVl HQF.out HRF.out
                clear G
                go_wp2_with fail
                go_ret2
                exact ⟨rfl, Below.refl _ _⟩
              · have G' := Lib.hid (gn (by omega))
                have hbi : decide ((4294967296 : Int) ≤ (r' : Int)) = false := by simp; omega
                clear gn gb
                go_wp2_with fail
                exact ⟨⟨p', r', rfl, rfl, G'⟩, by have := Hqq.out; simp [intOf]; omega⟩
            · have hti : decide ((4294967296 : Int) ≤ (p : Int)) = false := by simp; omega
              obtain ⟨z, t0, t, z1, z2, z3, gt, gr⟩ := guess_test G.out (by omega)
              by_cases hz : t < z
              · have hlt := gt hz
                have hzi : (t : Int) < (z : Int) := by omega
                clear gt gr
                obtain ⟨p', r', hqq, s1, s2, gn, gb⟩ := guess_less G.out hlt
                have Hqq := Lib.hid hqq
                clear hqq hlt
                by_cases hb : 4294967296 ≤ r'
                · have HQ := Lib.hid (gb hb)
                  have hbi : (4294967296 : Int) ≤ (r' : Int) := by omega
                  clear gn gb
                  obtain ⟨z1', y1', y2', y3', R0, c1, c2, c3, c4, c5, c6, c7⟩ := last_parts W3.out HY.out HPp.out W1.out Hs5.out Hv.out Hyy.out HR.out HQ.out HPi.out hVl HQF.out HRF.out
                  clear G
                  go_wp2_with fail
                  go_ret2
                  exact ⟨rfl, Below.refl _ _⟩
                · have G' := Lib.hid (gn (by omega))
                  have hbi : decide ((4294967296 : Int) ≤ (r' : Int)) = false := by simp; omega
                  clear gn gb
                  go_wp2_with fail
                  exact ⟨⟨p', r', rfl, rfl, G'⟩, by have := Hqq.out; simp [intOf]; omega⟩
              · have HQ := Lib.hid (gr hz)
                have hzi : decide ((t : Int) < (z : Int)) = false := by simp; omega
                have hzn : decide (t < z) = false := by simp; omega
                clear gt gr
                obtain ⟨z1', y1', y2', y3', R0, c1, c2, c3, c4, c5, c6, c7⟩ := last_parts W3.out HY.out HPp.out W1.out Hs5.out Hv.out Hyy.out HR.out HQ.out HPi.out hVl HQF.out HRF.out
                clear G
                go_wp2_with fail
                go_ret2
                exact ⟨rfl, Below.refl _ _⟩
        · have G' := Lib.hid (gn (by omega))
          have hbi : decide ((4294967296 : Int) ≤ (r' : Int)) = false := by simp; omega
          clear gn gb
          go_wp2_with fail
          exact ⟨⟨q', r', rfl, rfl, G'⟩, by have := Hqq.out; simp [intOf]; omega⟩
      · have HQ := Lib.hid (gr hz)
        have hzi : decide ((t : Int) < (z : Int)) = false := by simp; omega
        have hzn : decide (t < z) = false := by simp; omega
        clear gt gr
        obtain ⟨R, x1, x2, x3, q2, m2, r2, hR, a1, a2, a3, a4, b1, b2, b3, g2⟩ := second_start (v0 := v0) HQ.out Hyy.out Hs5.out G.out.1 G.out.2.1 (by have := Hv.out.2; omega)
        have HR := Lib.hid hR
        have G2 := Lib.hid g2
        clear hR g2 G HQ
        go_wp2_with fail
        go_loop [18, 16] (fun q r => ∃ q' r' : Nat, q = .int .u64 (q' : Int) ∧ r = .int .u64 (r' : Int) ∧ Hid (Guess R v0 y1 y0 q' r')) (fun q _ => (intOf q).toNat)
        case atStart => exact ⟨q2, r2, rfl, rfl, G2⟩
        case round =>
          obtain ⟨p, r, rfl, rfl, G⟩ := hrel
          by_cases ht : 4294967296 ≤ p
          · have hlt := guess_high G.out (.inl ht)
            have hti : (4294967296 : Int) ≤ (p : Int) := by omega
            obtain ⟨p', r', hqq, s1, s2, gn, gb⟩ := guess_less G.out hlt
            have Hqq := Lib.hid hqq
            clear hqq hlt
            by_cases hb : 4294967296 ≤ r'
            · have HQ := Lib.hid (gb hb)
              have hbi : (4294967296 : Int) ≤ (r' : Int) := by omega
              clear gn gb
              obtain ⟨z1', y1', y2', y3', R0, c1, c2, c3, c4, c5, c6, c7⟩ := last_parts W3.out HY.out HPp.out W1.out Hs5.out Hv.out Hyy.out HR.out HQ.out HPi.out hVl HQF.out HRF.out
              clear G
              go_wp2_with fail
              go_ret2
              exact ⟨rfl, Below.refl _ _⟩
            · have G' := Lib.hid (gn (by omega))
              have hbi : decide ((4294967296 : Int) ≤ (r' : Int)) = false := by simp; omega
              clear gn gb
              go_wp2_with fail
              exact ⟨⟨p', r', rfl, rfl, G'⟩, by have := Hqq.out; simp [intOf]; omega⟩
          · have hti : decide ((4294967296 : Int) ≤ (p : Int)) = false := by simp; omega
            obtain ⟨z, t0, t, z1, z2, z3, gt, gr⟩ := guess_test G.out (by omega)
            by_cases hz : t < z
            · have hlt := gt hz
              have hzi : (t : Int) < (z : Int) := by omega
              clear gt gr
              obtain ⟨p', r', hqq, s1, s2, gn, gb⟩ := guess_less G.out hlt
              have Hqq := Lib.hid hqq
              clear hqq hlt
              by_cases hb : 4294967296 ≤ r'
              · have HQ := Lib.hid (gb hb)
                have hbi : (4294967296 : Int) ≤ (r' : Int) := by omega
                clear gn gb
                obtain ⟨z1', y1', y2', y3', R0, c1, c2, c3, c4, c5, c6, c7⟩ := last_parts W3.out HY.out HPp.out W1.out Hs5.out Hv.out Hyy.out HR.out HQ.out HPi.out hVl HQF.out HRF.out
                clear G
                go_wp2_with fail
                go_ret2
                exact ⟨rfl, Below.refl _ _⟩
              · have G' := Lib.hid (gn (by omega))
                have hbi : decide ((4294967296 : Int) ≤ (r' : Int)) = false := by simp; omega
                clear gn gb
                go_wp2_with fail
                exact ⟨⟨p', r', rfl, rfl, G'⟩, by have := Hqq.out; simp [intOf]; omega⟩
            · have HQ := Lib.hid (gr hz)
              have hzi : decide ((t : Int) < (z : Int)) = false := by simp; omega
              have hzn : decide (t < z) = false := by simp; omega
              clear gt gr
              obtain ⟨z1', y1', y2', y3', R0, c1, c2, c3, c4, c5, c6, c7⟩ := last_parts W3.out HY.out HPp.out W1.out Hs5.out Hv.out Hyy.out HR.out HQ.out HPi.out hVl HQF.out HRF.out
              clear G
              go_wp2_with fail
              go_ret2
              exact ⟨rfl, Below.refl _ _⟩

end Cam
