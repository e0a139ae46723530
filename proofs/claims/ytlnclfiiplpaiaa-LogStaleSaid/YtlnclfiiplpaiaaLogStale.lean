/- LogStale: for every input the call returns true, and each argument reads as it read. No condition. -/
import Derived.Test.YtlnclfiiplpaiaaRows
import Derived.Test.YtlnclfiiplpaiaaOpen
import Derived.Test.YtlnclfiiplpaiaaJnL5
namespace Go.Proofs.Ytlnclfiiplpaiaa.logStale
open Go Go.RowKit Go.ChangeShapes Go.WideShapes Go.ChangeAt Cam

theorem own : ownKnob Try.prog.godebug = none := by kernel_rfl
theorem laidOut : laidOutB Try.prog = true := by kernel_rfl
theorem reads : ∀ t ∈ Try.f5.params.toList, Try.prog.readableRec t = true ∧ t < Try.prog.types.size := by
  intro t ht
  rw [Try.params5] at ht
  simp only [List.mem_cons, List.not_mem_nil, or_false] at ht
  rcases ht with rfl | rfl | rfl | rfl | rfl
  all_goals exact ⟨by kernel_rfl, of_decide_eq_true (by kernel_rfl)⟩

theorem walk (W : World) (args : Array Value) (hs : args.size = Try.f5.params.size) (ha : ∀ (j : Nat) t v, Try.f5.params[j]? = some t → args[j]? = some v → ArgOk Try.prog W t v) :
    Calls Try.prog 5 args W fun e w' => e = .returned (.bool true) ∧ Below W.heap.size W w' := by
  rw [Try.params5] at hs ha
  obtain ⟨v0, v1, v2, v3, v4, rfl⟩ : ∃ v0 v1 v2 v3 v4, args = #[v0, v1, v2, v3, v4] := by
    match args, hs with
    | ⟨[v0, v1, v2, v3, v4]⟩, _ => exact ⟨v0, v1, v2, v3, v4, rfl⟩
  obtain ⟨n0, rfl, w0⟩ := (ha 0 3 v0 rfl rfl).int Try.underlying3
  obtain ⟨n1, rfl, w1⟩ := (ha 1 3 v1 rfl rfl).int Try.underlying3
  obtain ⟨n2, rfl, w2⟩ := (ha 2 3 v2 rfl rfl).int Try.underlying3
  obtain ⟨l3, h3, r3⟩ := (ha 3 22 v3 rfl rfl).bytes Try.underlying22 Try.underlying5 (by kernel_rfl) (by kernel_rfl)
  obtain ⟨l4, h4, k4, r4⟩ := (ha 4 46 v4 rfl rfl).ints (bytes := 8) Try.underlying46 Try.underlying3 (by kernel_rfl) (by kernel_rfl)
  exact LogStale_walk W n0 n1 n2 v3 v4 l3 l4 h3 h4

set_option maxRecDepth 100000 in
theorem lifted (os : Os) (started : os.Started) (H : Type) (enc : TypeId × Value → H) :
    ReturnsInHanded {} Try.checked os 5 .any (Rows.logStaleSpec.pre6 enc Try.prog Try.f5 Rows.logStaleRow.domain false) (Rows.logStaleSpec.post enc Try.prog Try.f5 false true false false) :=
  law_lifted (C := Try.checked) own started (by kernel_rfl) Try.func5 laidOut reads rfl rfl Try.underlying4
    (fun ds h => by
      rw [Try.params5] at h
      match ds, h with
      | [d0, d1, d2, d3, d4], _ => rfl)
    (ChangeSpec.witness6 (enc := enc) (C := Try.checked) false ⟨#[], #[.int .i64 0, .int .i64 0, .int .i64 0, .slice none 0 0, .slice none 0 0], []⟩ 8 (by kernel_rfl) (by kernel_rfl) (by kernel_rfl) (by kernel_rfl))
    walk

theorem over : Rows.logStaleRow.holds Try.pinned (OpenSpec.ofChange Rows.logStaleSpec) :=
  OpenClaim.holds_of_wide 5 Try.f5 rfl rfl rfl rfl rfl rfl rfl ⟨rfl, rfl, rfl, rfl, rfl⟩ rfl rfl rfl rfl rfl (by kernel_rfl) Try.func5 (by kernel_rfl)
    (of_decide_eq_true (by kernel_rfl)) (by unfold Func.isWrapper; first | (rw [if_pos (by decide +kernel)]; kernel_rfl) | (rw [if_neg (by decide +kernel)]; exact ⟨rfl, rfl⟩))
    (fun os started H enc _ => lifted os started H enc)

theorem proved : Rows.LogStaleSaid := over
end Go.Proofs.Ytlnclfiiplpaiaa.logStale
