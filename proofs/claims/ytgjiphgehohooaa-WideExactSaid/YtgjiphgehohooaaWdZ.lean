import Derived.Test.YtgjiphgehohooaaDiv
/- wide.Quo, wide.Share, at any number; cambistref01.Quo. -/
namespace Cam
open Go Go.RowKit Go.Proofs

theorem Div64_ok (w : World) (H L : Nat) (n : Int) (hL : L < 18446744073709551616) (hn : n ≤ 9223372036854775807) (hH : (H : Int) < n) : DivOk w H L n := by
  obtain ⟨N, rfl⟩ : ∃ N : Nat, n = N := ⟨n.toNat, by omega⟩
  by_cases h0 : H = 0
  · subst h0
    exact Div64_small w L N hL (by omega)
  · exact Div64_any w H L N hL (by omega) (by omega) (by omega)

theorem dnW_lt {hi lo v : Int} (h : IsW hi lo v) : dnW hi lo < 18446744073709551616 := by
  have := h.2.1
  unfold dnW
  split <;> omega

/-- wide.Quo -/
theorem Quo_run (w : World) (hi lo v n : Int) (h : IsW hi lo v) (hn : -9223372036854775808 ≤ n ∧ n ≤ 9223372036854775807) :
    Calls Try.prog 21 #[.agg #[.int .i64 hi, .int .u64 lo], .int .i64 n] w fun e w' => e = .returned (.tuple #[.int .i64 (wQuo v n), .int .i64 (wRem v n), .int .i64 (wQuoE v n)]) ∧ Below w.heap.size w w' :=
  Quo_of w hi lo v n h hn (fun w _ hu => Div64_ok w _ _ n (dnW_lt h) hn.2 hu)
/-- wide.Share -/
theorem Share_any (w : World) (a b c : Int) (ha : -9223372036854775808 ≤ a ∧ a ≤ 9223372036854775807) (hb : -9223372036854775808 ≤ b ∧ b ≤ 9223372036854775807) (hc : -9223372036854775808 ≤ c ∧ c ≤ 9223372036854775807) :
    Calls Try.prog 11 #[.int .i64 a, .int .i64 b, .int .i64 c] w fun e w' => e = .returned (.tuple #[.int .i64 (wQuo (a * b) c), .int .i64 (wQuoE (a * b) c)]) ∧ Below w.heap.size w w' :=
  Share_of w a b c ha hb hc (fun w _ _ h _ hu => Div64_ok w _ _ c (dnW_lt h) hc.2 hu)

end Cam
