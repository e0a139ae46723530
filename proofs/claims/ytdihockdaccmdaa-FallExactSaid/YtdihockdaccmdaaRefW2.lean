import Derived.Test.YtdihockdaccmdaaWdB2
/- cambistref01: Of (cut by program) -/
namespace Cam
open Go Go.RowKit Go.Proofs

theorem rOf_any (w : World) (n : Int) (hn : -9223372036854775808 ≤ n ∧ n ≤ 9223372036854775807) :
    Calls Try.prog 30 #[.int .i64 n] w fun e w' => e = .returned (wideV n) ∧ Below w.heap.size w w' := by
  have HW := Lib.hid (IsW.num n hn)
  clear hn
  by_cases h : n < 0
  · have H1 : Hid ((if n < 0 then (-1 : Int) else 0) = -1) := by show _ = _; rw [if_pos h]
    go_enter Try.func30, Try.ntmps30
    go_wp2_with fail
    rw [IntKind.wrap_u64]
    refine bodyPost_ret (v := .agg #[.int .i64 (-1), .int .u64 (n % 18446744073709551616)]) (by simp [results, Try.results30, go_sem]) rfl ?_
    exact ⟨by rw [HW.out.val, H1.out], (Below.refl _ _).alloc (Nat.le_refl _) _⟩
  · have H1 : Hid ((if n < 0 then (-1 : Int) else 0) = 0) := by show _ = _; rw [if_neg h]
    go_enter Try.func30, Try.ntmps30
    go_wp2_with fail
    rw [IntKind.wrap_u64]
    refine bodyPost_ret (v := .agg #[.int .i64 0, .int .u64 (n % 18446744073709551616)]) (by simp [results, Try.results30, go_sem]) rfl ?_
    exact ⟨by rw [HW.out.val, H1.out], (Below.refl _ _).alloc (Nat.le_refl _) _⟩

theorem wideV_form {v : Int} (h : isWide v = true) : ∃ hi lo, IsW hi lo v ∧ wideV v = .agg #[.int .i64 hi, .int .u64 lo] := ⟨wHi v, wLo v, IsW.of h, rfl⟩

theorem results_row1 {P : Program} {fn : Func} {p : Tmp} {ty : TypeId} (h : fn.results = #[.cell p ty]) (tmps : Array Value) (w : World) (g : Nat) (t : TypeId) (cs : Array Value) (fr : Nat × Nat) (d : TypeDesc)
    (hp : tmps.getD p undef = .pointer (some ⟨g, 0, none⟩)) (hg : w.heap[g]? = some (.cells cs t fr))
    (hu : P.underlying ty = some d) (hd : (match d with | .struct _ | .array _ _ => true | _ => false) = true) (hi : (P.info? ty).map (·.size) = some cs.size) :
    (results fn tmps).run P w = .ok (.agg cs) w := by
  have hp' : tmps[p]?.getD undef = .pointer (some ⟨g, 0, none⟩) := by simpa using hp
  have hr := run_loadVar_row w g t ty cs fr d hg hu hd hi
  unfold results
  rw [h]
  simp [hp', asAddr, hr]

end Cam
