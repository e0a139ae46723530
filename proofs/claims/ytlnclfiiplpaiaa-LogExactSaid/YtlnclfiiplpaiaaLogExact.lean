/- LogExact: for every input the call returns true, and each argument reads as it read. No condition. -/
import Derived.Test.YtlnclfiiplpaiaaRows
import Derived.Test.YtlnclfiiplpaiaaOpen
import Derived.Test.YtlnclfiiplpaiaaLeL
namespace Go.Proofs.Ytlnclfiiplpaiaa.logExact
open Go Go.RowKit Go.ChangeShapes Go.WideShapes Go.ChangeAt Cam

theorem own : ownKnob Try.prog.godebug = none := by kernel_rfl
theorem laidOut : laidOutB Try.prog = true := by kernel_rfl
theorem reads : ∀ t ∈ Try.f10.params.toList, Try.prog.readableRec t = true ∧ t < Try.prog.types.size := by
  intro t ht
  rw [Try.params10] at ht
  simp only [List.mem_cons, List.not_mem_nil, or_false] at ht
  rcases ht with rfl | rfl
  all_goals exact ⟨by kernel_rfl, of_decide_eq_true (by kernel_rfl)⟩

theorem walk (W : World) (args : Array Value) (hs : args.size = Try.f10.params.size) (ha : ∀ (j : Nat) t v, Try.f10.params[j]? = some t → args[j]? = some v → ArgOk Try.prog W t v) :
    Calls Try.prog 10 args W fun e w' => e = .returned (.bool true) ∧ Below W.heap.size W w' := by
  rw [Try.params10] at hs ha
  obtain ⟨v0, v1, rfl⟩ : ∃ v0 v1, args = #[v0, v1] := by
    match args, hs with
    | ⟨[v0, v1]⟩, _ => exact ⟨v0, v1, rfl⟩
  obtain ⟨n0, rfl, w0⟩ := (ha 0 3 v0 rfl rfl).int Try.underlying3
  obtain ⟨l1, h1⟩ := open_lacts (ha 1 64 v1 rfl rfl)
  exact LogExact_walk W n0 v1 l1 h1

set_option maxRecDepth 100000 in
theorem lifted (os : Os) (started : os.Started) (H : Type) (enc : TypeId × Value → H) :
    ReturnsInHanded {} Try.checked os 10 .any (Rows.logExactSpec.pre6 enc Try.prog Try.f10 Rows.logExactRow.domain false) (Rows.logExactSpec.post enc Try.prog Try.f10 false true false false) :=
  law_lifted (C := Try.checked) own started (by kernel_rfl) Try.func10 laidOut reads rfl rfl Try.underlying4
    (fun ds h => by
      rw [Try.params10] at h
      match ds, h with
      | [d0, d1], _ => rfl)
    (ChangeSpec.witness6 (enc := enc) (C := Try.checked) false ⟨#[], #[.int .i64 0, .slice none 0 0], []⟩ 8 (by kernel_rfl) (by kernel_rfl) (by kernel_rfl) (by kernel_rfl))
    walk

theorem over : Rows.logExactRow.holds Try.pinned (OpenSpec.ofChange Rows.logExactSpec) :=
  OpenClaim.holds_of_wide 10 Try.f10 rfl rfl rfl rfl rfl rfl rfl ⟨rfl, rfl, rfl, rfl, rfl⟩ rfl rfl rfl rfl rfl (by kernel_rfl) Try.func10 (by kernel_rfl)
    (of_decide_eq_true (by kernel_rfl)) (by unfold Func.isWrapper; first | (rw [if_pos (by decide +kernel)]; kernel_rfl) | (rw [if_neg (by decide +kernel)]; exact ⟨rfl, rfl⟩))
    (fun os started H enc _ => lifted os started H enc)

theorem proved : Rows.LogExactSaid := over
end Go.Proofs.Ytlnclfiiplpaiaa.logExact
