/- WideOrder: for every input the call returns true, and each argument reads as it read. No condition. -/
import Derived.Test.YtgjiphgehohooaaRows
import Derived.Test.YtgjiphgehohooaaOpen
import Derived.Test.YtgjiphgehohooaaWdLaw6
import Derived.Test.YtgjiphgehohooaaWdO
namespace Go.Proofs.Ytgjiphgehohooaa.wideOrder
open Go Go.RowKit Go.ChangeShapes Go.WideShapes Go.ChangeAt Cam

theorem own : ownKnob Try.prog.godebug = none := by kernel_rfl
theorem laidOut : laidOutB Try.prog = true := by kernel_rfl
theorem reads : ∀ t ∈ Try.f9.params.toList, Try.prog.readableRec t = true ∧ t < Try.prog.types.size := by
  intro t ht
  rw [Try.params9] at ht
  simp only [List.mem_cons, List.not_mem_nil, or_false] at ht
  rcases ht with rfl | rfl | rfl | rfl | rfl
  all_goals exact ⟨by kernel_rfl, of_decide_eq_true (by kernel_rfl)⟩

theorem walk (W : World) (args : Array Value) (hs : args.size = Try.f9.params.size) (ha : ∀ (j : Nat) t v, Try.f9.params[j]? = some t → args[j]? = some v → ArgOk Try.prog W t v) :
    Calls Try.prog 9 args W fun e w' => e = .returned (.bool true) ∧ Below W.heap.size W w' := by
  rw [Try.params9] at hs ha
  obtain ⟨v0, v1, v2, v3, v4, rfl⟩ : ∃ v0 v1 v2 v3 v4, args = #[v0, v1, v2, v3, v4] := by
    match args, hs with
    | ⟨[v0, v1, v2, v3, v4]⟩, _ => exact ⟨v0, v1, v2, v3, v4, rfl⟩
  obtain ⟨n0, rfl, w0⟩ := (ha 0 3 v0 rfl rfl).int Try.underlying3
  obtain ⟨n1, rfl, w1⟩ := (ha 1 3 v1 rfl rfl).int Try.underlying3
  obtain ⟨hi2, lo2, x2, rfl, h2⟩ := open_wide (ha 2 29 v2 rfl rfl)
  obtain ⟨hi3, lo3, x3, rfl, h3⟩ := open_wide (ha 3 29 v3 rfl rfl)
  obtain ⟨hi4, lo4, x4, rfl, h4⟩ := open_wide (ha 4 29 v4 rfl rfl)
  exact WideOrder_walk W n0 n1 hi2 lo2 x2 hi3 lo3 x3 hi4 lo4 x4 (i64_of_wf w0) (i64_of_wf w1) h2 h3 h4

set_option maxRecDepth 100000 in
theorem lifted (os : Os) (started : os.Started) (H : Type) (enc : TypeId × Value → H) :
    ReturnsInHanded {} Try.checked os 9 .any (Rows.wideOrderSpec.pre6 enc Try.prog Try.f9 Rows.wideOrderRow.domain false) (Rows.wideOrderSpec.post enc Try.prog Try.f9 false true false false) :=
  law_lifted (C := Try.checked) own started (by kernel_rfl) Try.func9 laidOut reads rfl rfl Try.underlying4
    (fun ds h => by
      rw [Try.params9] at h
      match ds, h with
      | [d0, d1, d2, d3, d4], _ => rfl)
    (ChangeSpec.witness6 (enc := enc) (C := Try.checked) false ⟨#[], #[.int .i64 0, .int .i64 0, .agg #[.int .i64 0, .int .u64 0], .agg #[.int .i64 0, .int .u64 0], .agg #[.int .i64 0, .int .u64 0]], []⟩ 8 (by kernel_rfl) (by kernel_rfl) (by kernel_rfl) (by kernel_rfl))
    walk

theorem over : Rows.wideOrderRow.holds Try.pinned (OpenSpec.ofChange Rows.wideOrderSpec) :=
  OpenClaim.holds_of_wide 9 Try.f9 rfl rfl rfl rfl rfl rfl rfl ⟨rfl, rfl, rfl, rfl, rfl⟩ rfl rfl rfl rfl rfl (by kernel_rfl) Try.func9 (by kernel_rfl)
    (of_decide_eq_true (by kernel_rfl)) (by unfold Func.isWrapper; first | (rw [if_pos (by decide +kernel)]; kernel_rfl) | (rw [if_neg (by decide +kernel)]; exact ⟨rfl, rfl⟩))
    (fun os started H enc _ => lifted os started H enc)

theorem proved : Rows.WideOrderSaid := over
end Go.Proofs.Ytgjiphgehohooaa.wideOrder
