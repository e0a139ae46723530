import Derived.Test.YtdihockdaccmdaaNumR
/- num.Sum. -/
namespace Cam
open Go Go.RowKit Go.Proofs

/-- the answer of a sum that is money, or is none -/
def sumAns (S : Int) : Value := .tuple (if rightB S = true then #[.int .i64 S, .int .i64 0] else #[.int .i64 0, .int .i64 1])

theorem wrap_loW (n : Int) : IntKind.u64.wrap n = (loW n : Int) := by
  rw [IntKind.wrap_u64]; unfold loW; omega
theorem wrap_hiW (n : Int) (h : -9223372036854775808 ≤ n ∧ n ≤ 9223372036854775807) : IntKind.u64.wrap (n / 9223372036854775808) = (hiW n : Int) := by
  rw [IntKind.wrap_u64]; unfold hiW; split <;> omega

set_option maxHeartbeats 800000 in
theorem within_any (w : World) (hi lo : Nat) (S : Int) (h : Words hi lo S) (hS : -85070591730234615865843651857942052864 ≤ S ∧ S ≤ 85070591730234615865843651857942052864) :
    Calls Try.prog 29 #[.int .u64 hi, .int .u64 lo] w fun e w' => e = .returned (sumAns S) ∧ Below w.heap.size w w' := by
  obtain ⟨n, hn⟩ : ∃ n, n = wrap64 (lo : Int) := ⟨_, rfl⟩
  have hb : -9223372036854775808 ≤ n ∧ n ≤ 9223372036854775807 := by rw [hn]; unfold wrap64; omega
  have hl : lo = loW n := by
    have := h.2.1
    rw [hn]; unfold wrap64 loW; omega
  have hh := wrap_hiW n hb
  obtain ⟨u, hu⟩ : ∃ u, u = hiW n := ⟨_, rfl⟩
  rw [← hu] at hh
  have hn' := hn.symm
  by_cases he : hi = u
  · have e1 : S = n := h.of_small hS hb hl (he.trans hu)
    subst he
    subst e1
    clear h hS hb hl hu hn
    go_enter Try.func29, Try.ntmps29
    go_wp2_with fail
    refine (Right_any _ _ [S] (Is.lit1 w S _)).mono ?_
    rintro e w1 ⟨rfl, rfl⟩
    have e2 : allRight [S] = rightB S := by simp [allRight]
    rw [e2]
    clear e2
    cases hr : rightB S with
    | true =>
      have H1 := Lib.hid hr
      clear hr
      go_wp2_with fail
      go_ret2
      exact ⟨by simp [sumAns, H1.out], (Below.refl _ _).alloc (Nat.le_refl _) _⟩
    | false =>
      have H1 := Lib.hid hr
      clear hr
      go_wp2_with fail
      go_ret2
      exact ⟨by simp [sumAns, H1.out], (Below.refl _ _).alloc (Nat.le_refl _) _⟩
  · have e1 : rightB S = false := by
      rw [Bool.eq_false_iff, Ne, rightB_iff]
      intro hr
      have hs := h.small (by omega)
      apply he
      rw [hu, hs.2]
      have : S = n := by
        have h1 := hs.1.symm.trans hl
        unfold loW at h1
        omega
      rw [this]
    have H1 := Lib.hid e1
    have hd : ¬ (hi : Int) = (u : Int) := by omega
    clear h hS hb hl hu e1 he hn
    go_enter Try.func29, Try.ntmps29
    go_wp2_with fail
    go_ret2
    exact ⟨by simp [sumAns, H1.out], Below.refl _ _⟩

/-- Add64 -/
theorem add64_run (x y c : Nat) (hc : c ≤ 1) (w : World) : Sem.run Try.prog (callFunc 28 #[.int .u64 (x : Int), .int .u64 (y : Int), .int .u64 (c : Int)]) w =
    .ok (.value (.tuple #[.int .u64 (((x + y + c) % 18446744073709551616 : Nat) : Int), .int .u64 (((x + y + c) / 18446744073709551616 : Nat) : Int)])) w := by
  have h := run_callFunc_extern (e := add64Entry) (f := 28) Try.func28 (by kernel_rfl) (by kernel_rfl) (by kernel_rfl) (by kernel_rfl) #[.int .u64 (x : Int), .int .u64 (y : Int), .int .u64 (c : Int)] w
  refine Eq.trans h ?_
  rw [run_add64 _ _ _ (by omega) (by omega) (by omega) (by omega)]
  simp [Result.andThen]

theorem Sum_any (w : World) (v : Value) (l : List Int) (h : Is w v l) :
    Calls Try.prog 22 #[v] w fun e w' => e = .returned (.tuple #[.int .i64 (sumN l), .int .i64 (sumE l)]) ∧ Below w.heap.size w w' := by
  obtain ⟨a, cap, rfl, hcap, hm⟩ := h.shape
  go_enter Try.func22, Try.ntmps22
  go_wp2_with fail
  refine (Right_any _ _ l h).mono ?_
  rintro e w1 ⟨rfl, rfl⟩
  by_cases hr : allRight l = true
  · rw [hr]
    have Hr := Lib.hid hr
    clear hr
    go_wp2_with fail
    go_loop [4, 5, 14] (fun hi lo i => ∃ (k x y : Nat), k ≤ l.length ∧ i = .int .i64 k ∧ hi = .int .u64 (x : Int) ∧ lo = .int .u64 (y : Int) ∧ Words x y (sumI (l.take k))) (fun _ _ i => l.length - (intOf i).toNat)
    case atStart => exact ⟨0, 0, 0, Nat.zero_le _, rfl, rfl, rfl, Words.zero⟩
    case round =>
      obtain ⟨k, x, y, hk, rfl, rfl, rfl, W⟩ := hrel
      by_cases hlt : k < l.length
      · obtain ⟨b, off, rfl, _, hc⟩ := h.at (by omega)
        have hck := hc k hlt
        clear hc
        obtain ⟨n, hn⟩ : ∃ n, n = l[k] := ⟨_, rfl⟩
        rw [← hn] at hck
        have hbn : -9223372036854775808 ≤ n ∧ n ≤ 9223372036854775807 := by
          have := (allRight_iff l).1 Hr.out l[k] (List.getElem_mem _)
          rw [← hn] at this
          omega
        have W2 := W.step hbn
        obtain ⟨u, hu⟩ : ∃ u, u = loW n := ⟨_, rfl⟩
        obtain ⟨t, ht⟩ : ∃ t, t = hiW n := ⟨_, rfl⟩
        have h1 := wrap_loW n
        have h2 := wrap_hiW n hbn
        rw [← hu] at h1
        rw [← ht] at h2
        rw [← hu, ← ht] at W2
        have h3 : (y + u) / 18446744073709551616 ≤ 1 := by
          have := loW_lt n
          have := W.2.1
          omega
        have hadd1 := add64_run y u 0 (by omega) w
        have hadd2 := add64_run x t ((y + u) / 18446744073709551616) h3 w
        rw [Nat.add_zero, show (((0 : Nat) : Int)) = 0 from rfl] at hadd1
        rw [hn] at W2
        rw [← sumI_snoc, ← take_snoc l k hlt] at W2
        have Hn := Lib.hid hn
        clear hn hu ht hbn W h3
        generalize (y + u) / 18446744073709551616 = c at hadd1 hadd2 W2
        generalize (y + u) % 18446744073709551616 = lo' at hadd1 W2
        generalize (x + t + c) % 18446744073709551616 = hi' at hadd2 W2
        generalize (x + t + c) / 18446744073709551616 = c' at hadd2
        go_wp2_with fail
        exact ⟨⟨k + 1, hi', lo', by omega, by push_cast; rfl, rfl, rfl, W2⟩, by simp [intOf]; omega⟩
      · rw [List.take_of_length_le (by omega)] at W
        have hb := sumI_bound l Hr.out
        have wi := within_any w x y (sumI l) W (by omega)
        clear W hb
        go_wp2_with fail
        refine wi.mono ?_
        rintro e w1 ⟨rfl, hb⟩
        cases hr : rightB (sumI l) with
        | true =>
          have H2 := Lib.hid hr
          have e2 : sumAns (sumI l) = .tuple #[.int .i64 (sumI l), .int .i64 0] := by simp [sumAns, hr]
          rw [e2]
          clear hr e2
          go_wp2_with fail
          go_ret2
          exact ⟨by simp [sumN, sumE, Hr.out, H2.out], hb⟩
        | false =>
          have H2 := Lib.hid hr
          have e2 : sumAns (sumI l) = .tuple #[.int .i64 0, .int .i64 1] := by simp [sumAns, hr]
          rw [e2]
          clear hr e2
          go_wp2_with fail
          go_ret2
          exact ⟨by simp [sumN, sumE, Hr.out, H2.out], hb⟩
  · have e2 : allRight l = false := by simpa using hr
    rw [e2]
    have H2 := Lib.hid e2
    clear hr e2
    go_wp2_with fail
    go_ret2
    exact ⟨by simp [sumN, sumE, H2.out], Below.refl _ _⟩

end Cam
