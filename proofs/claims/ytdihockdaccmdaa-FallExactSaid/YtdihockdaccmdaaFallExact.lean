/- FallExact: for every input the call returns true, and each argument reads as it read. No condition. -/
import Derived.Test.YtdihockdaccmdaaRows
import Derived.Test.YtdihockdaccmdaaOpen
import Derived.Test.YtdihockdaccmdaaFaO
namespace Go.Proofs.Ytdihockdaccmdaa.fallExact
open Go Go.RowKit Go.ChangeShapes Go.WideShapes Go.ChangeAt Cam

theorem own : ownKnob Try.prog.godebug = none := by kernel_rfl
theorem laidOut : laidOutB Try.prog = true := by kernel_rfl
theorem reads : ∀ t ∈ Try.f6.params.toList, Try.prog.readableRec t = true ∧ t < Try.prog.types.size := by
  intro t ht
  rw [Try.params6] at ht
  simp only [List.mem_cons, List.not_mem_nil, or_false] at ht
  rcases ht with rfl | rfl | rfl | rfl | rfl
  all_goals exact ⟨by kernel_rfl, of_decide_eq_true (by kernel_rfl)⟩

theorem walk (W : World) (args : Array Value) (hs : args.size = Try.f6.params.size) (ha : ∀ (j : Nat) t v, Try.f6.params[j]? = some t → args[j]? = some v → ArgOk Try.prog W t v) :
    Calls Try.prog 6 args W fun e w' => e = .returned (.bool true) ∧ Below W.heap.size W w' := by
  rw [Try.params6] at hs ha
  obtain ⟨v0, v1, v2, v3, v4, rfl⟩ : ∃ v0 v1 v2 v3 v4, args = #[v0, v1, v2, v3, v4] := by
    match args, hs with
    | ⟨[v0, v1, v2, v3, v4]⟩, _ => exact ⟨v0, v1, v2, v3, v4, rfl⟩
  obtain ⟨n0, rfl, w0⟩ := (ha 0 3 v0 rfl rfl).int Try.underlying3
  obtain ⟨n1, rfl, w1⟩ := (ha 1 3 v1 rfl rfl).int Try.underlying3
  obtain ⟨l2, h2, k2, r2⟩ := (ha 2 28 v2 rfl rfl).ints (bytes := 8) Try.underlying28 Try.underlying3 (by kernel_rfl) (by kernel_rfl)
  obtain ⟨f3, rfl⟩ := open_fall (ha 3 24 v3 rfl rfl)
  obtain ⟨l4, h4⟩ := open_falls (ha 4 35 v4 rfl rfl)
  exact FallExact_walk W n0 n1 v2 v4 l2 f3 l4 h2 h4

set_option maxRecDepth 100000 in
theorem lifted (os : Os) (started : os.Started) (H : Type) (enc : TypeId × Value → H) :
    ReturnsInHanded {} Try.checked os 6 .any (Rows.fallExactSpec.pre6 enc Try.prog Try.f6 Rows.fallExactRow.domain false) (Rows.fallExactSpec.post enc Try.prog Try.f6 false true false false) :=
  law_lifted (C := Try.checked) own started (by kernel_rfl) Try.func6 laidOut reads rfl rfl Try.underlying4
    (fun ds h => by
      rw [Try.params6] at h
      match ds, h with
      | [d0, d1, d2, d3, d4], _ => rfl)
    (ChangeSpec.witness6 (enc := enc) (C := Try.checked) false ⟨#[], #[.int .i64 0, .int .i64 0, .slice none 0 0, .agg #[.int .i64 0, .int .i64 0, .int .i64 0, .int .i64 0, .int .i64 0, .int .i64 0, .int .i64 0, .int .i64 0], .slice none 0 0], []⟩ 8 (by kernel_rfl) (by kernel_rfl) (by kernel_rfl) (by kernel_rfl))
    walk

theorem over : Rows.fallExactRow.holds Try.pinned (OpenSpec.ofChange Rows.fallExactSpec) :=
  OpenClaim.holds_of_wide 6 Try.f6 rfl rfl rfl rfl rfl rfl rfl ⟨rfl, rfl, rfl, rfl, rfl⟩ rfl rfl rfl rfl rfl (by kernel_rfl) Try.func6 (by kernel_rfl)
    (of_decide_eq_true (by kernel_rfl)) (by unfold Func.isWrapper; first | (rw [if_pos (by decide +kernel)]; kernel_rfl) | (rw [if_neg (by decide +kernel)]; exact ⟨rfl, rfl⟩))
    (fun os started H enc _ => lifted os started H enc)

theorem proved : Rows.FallExactSaid := over
end Go.Proofs.Ytdihockdaccmdaa.fallExact
