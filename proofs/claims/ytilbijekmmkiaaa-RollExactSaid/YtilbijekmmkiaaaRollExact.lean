/- RollExact: for every input the call returns true, and each argument reads as it read. No condition. -/
import Derived.Test.YtilbijekmmkiaaaRows
import Derived.Test.YtilbijekmmkiaaaOpen
import Derived.Test.YtilbijekmmkiaaaRl6
import Derived.Test.YtilbijekmmkiaaaRlOr
namespace Go.Proofs.Ytilbijekmmkiaaa.rollExact
open Go Go.RowKit Go.ChangeShapes Go.WideShapes Go.ChangeAt Cam

theorem own : ownKnob Try.prog.godebug = none := by kernel_rfl
theorem laidOut : laidOutB Try.prog = true := by kernel_rfl
theorem reads : ∀ t ∈ Try.f4.params.toList, Try.prog.readableRec t = true ∧ t < Try.prog.types.size := by
  intro t ht
  rw [Try.params4] at ht
  simp only [List.mem_cons, List.not_mem_nil, or_false] at ht
  rcases ht with rfl | rfl | rfl | rfl | rfl | rfl | rfl | rfl
  all_goals exact ⟨by kernel_rfl, of_decide_eq_true (by kernel_rfl)⟩

theorem walk (W : World) (args : Array Value) (hs : args.size = Try.f4.params.size) (ha : ∀ (j : Nat) t v, Try.f4.params[j]? = some t → args[j]? = some v → ArgOk Try.prog W t v) :
    Calls Try.prog 4 args W fun e w' => e = .returned (.bool true) ∧ Below W.heap.size W w' := by
  rw [Try.params4] at hs ha
  obtain ⟨v0, v1, v2, v3, v4, v5, v6, v7, rfl⟩ : ∃ v0 v1 v2 v3 v4 v5 v6 v7, args = #[v0, v1, v2, v3, v4, v5, v6, v7] := by
    match args, hs with
    | ⟨[v0, v1, v2, v3, v4, v5, v6, v7]⟩, _ => exact ⟨v0, v1, v2, v3, v4, v5, v6, v7, rfl⟩
  obtain ⟨va, vb, vc, R, rfl, h0⟩ := open_roll (ha 0 26 v0 rfl rfl)
  obtain ⟨n1, rfl, w1⟩ := (ha 1 3 v1 rfl rfl).int Try.underlying3
  obtain ⟨n2, rfl, w2⟩ := (ha 2 3 v2 rfl rfl).int Try.underlying3
  obtain ⟨x3, rfl⟩ := open_inst (ha 3 38 v3 rfl rfl)
  obtain ⟨x4, rfl⟩ := open_asset (ha 4 42 v4 rfl rfl)
  obtain ⟨n5, rfl, w5⟩ := (ha 5 3 v5 rfl rfl).int Try.underlying3
  obtain ⟨n6, rfl, w6⟩ := (ha 6 3 v6 rfl rfl).int Try.underlying3
  obtain ⟨n7, rfl, w7⟩ := (ha 7 3 v7 rfl rfl).int Try.underlying3
  exact RollExact_walk W va vb vc R n1 n2 x3 x4 n5 n6 n7 h0

set_option maxRecDepth 100000 in
theorem lifted (os : Os) (started : os.Started) (H : Type) (enc : TypeId × Value → H) :
    ReturnsInHanded {} Try.checked os 4 .any (Rows.rollExactSpec.pre6 enc Try.prog Try.f4 Rows.rollExactRow.domain false) (Rows.rollExactSpec.post enc Try.prog Try.f4 false true false false) :=
  law_lifted (C := Try.checked) own started (by kernel_rfl) Try.func4 laidOut reads rfl rfl Try.underlying4
    (fun ds h => by
      rw [Try.params4] at h
      match ds, h with
      | [d0, d1, d2, d3, d4, d5, d6, d7], _ => rfl)
    (ChangeSpec.witness6 (enc := enc) (C := Try.checked) false ⟨#[], #[.agg #[.slice none 0 0, .slice none 0 0, .slice none 0 0], .int .i64 0, .int .i64 0, .agg #[.int .i64 0, .int .i64 0, .int .i64 0, .int .i64 0, .int .i64 0, .int .i64 0, .int .i64 0, .int .i64 0, .int .i64 0, .int .i64 0, .int .i64 0, .int .i64 0], .agg #[.int .i64 0, .int .i64 0, .int .i64 0, .int .i64 0], .int .i64 0, .int .i64 0, .int .i64 0], []⟩ 8 (by kernel_rfl) (by kernel_rfl) (by kernel_rfl) (by kernel_rfl))
    walk

theorem over : Rows.rollExactRow.holds Try.pinned (OpenSpec.ofChange Rows.rollExactSpec) :=
  OpenClaim.holds_of_wide 4 Try.f4 rfl rfl rfl rfl rfl rfl rfl ⟨rfl, rfl, rfl, rfl, rfl⟩ rfl rfl rfl rfl rfl (by kernel_rfl) Try.func4 (by kernel_rfl)
    (of_decide_eq_true (by kernel_rfl)) (by unfold Func.isWrapper; first | (rw [if_pos (by decide +kernel)]; kernel_rfl) | (rw [if_neg (by decide +kernel)]; exact ⟨rfl, rfl⟩))
    (fun os started H enc _ => lifted os started H enc)

theorem proved : Rows.RollExactSaid := over
end Go.Proofs.Ytilbijekmmkiaaa.rollExact
