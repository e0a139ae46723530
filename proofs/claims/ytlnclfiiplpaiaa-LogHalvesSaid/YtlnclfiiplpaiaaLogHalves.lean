/- LogHalves: for every input the call returns true, and each argument reads as it read. No condition. -/
import Derived.Test.YtlnclfiiplpaiaaRows
import Derived.Test.YtlnclfiiplpaiaaOpen
import Derived.Test.YtlnclfiiplpaiaaJnL4
namespace Go.Proofs.Ytlnclfiiplpaiaa.logHalves
open Go Go.RowKit Go.ChangeShapes Go.WideShapes Go.ChangeAt Cam

theorem own : ownKnob Try.prog.godebug = none := by kernel_rfl
theorem laidOut : laidOutB Try.prog = true := by kernel_rfl
theorem reads : ∀ t ∈ Try.f4.params.toList, Try.prog.readableRec t = true ∧ t < Try.prog.types.size := by
  intro t ht
  rw [Try.params4] at ht
  simp only [List.mem_cons, List.not_mem_nil, or_false] at ht
  rcases ht with rfl | rfl
  all_goals exact ⟨by kernel_rfl, of_decide_eq_true (by kernel_rfl)⟩

theorem walk (W : World) (args : Array Value) (hs : args.size = Try.f4.params.size) (ha : ∀ (j : Nat) t v, Try.f4.params[j]? = some t → args[j]? = some v → ArgOk Try.prog W t v) :
    Calls Try.prog 4 args W fun e w' => e = .returned (.bool true) ∧ Below W.heap.size W w' := by
  rw [Try.params4] at hs ha
  obtain ⟨v0, v1, rfl⟩ : ∃ v0 v1, args = #[v0, v1] := by
    match args, hs with
    | ⟨[v0, v1]⟩, _ => exact ⟨v0, v1, rfl⟩
  obtain ⟨l0, h0, k0, r0⟩ := (ha 0 23 v0 rfl rfl).rows (bytes := 24) Try.underlying23 Try.underlying22 Try.underlying5 (by kernel_rfl) (by kernel_rfl) (by kernel_rfl) (by kernel_rfl)
  obtain ⟨l1, h1, r1⟩ := (ha 1 22 v1 rfl rfl).bytes Try.underlying22 Try.underlying5 (by kernel_rfl) (by kernel_rfl)
  exact LogHalves_walk W v0 v1 l0 l1 h0 h1

set_option maxRecDepth 100000 in
theorem lifted (os : Os) (started : os.Started) (H : Type) (enc : TypeId × Value → H) :
    ReturnsInHanded {} Try.checked os 4 .any (Rows.logHalvesSpec.pre6 enc Try.prog Try.f4 Rows.logHalvesRow.domain false) (Rows.logHalvesSpec.post enc Try.prog Try.f4 false true false false) :=
  law_lifted (C := Try.checked) own started (by kernel_rfl) Try.func4 laidOut reads rfl rfl Try.underlying4
    (fun ds h => by
      rw [Try.params4] at h
      match ds, h with
      | [d0, d1], _ => rfl)
    (ChangeSpec.witness6 (enc := enc) (C := Try.checked) false ⟨#[], #[.slice none 0 0, .slice none 0 0], []⟩ 8 (by kernel_rfl) (by kernel_rfl) (by kernel_rfl) (by kernel_rfl))
    walk

theorem over : Rows.logHalvesRow.holds Try.pinned (OpenSpec.ofChange Rows.logHalvesSpec) :=
  OpenClaim.holds_of_wide 4 Try.f4 rfl rfl rfl rfl rfl rfl rfl ⟨rfl, rfl, rfl, rfl, rfl⟩ rfl rfl rfl rfl rfl (by kernel_rfl) Try.func4 (by kernel_rfl)
    (of_decide_eq_true (by kernel_rfl)) (by unfold Func.isWrapper; first | (rw [if_pos (by decide +kernel)]; kernel_rfl) | (rw [if_neg (by decide +kernel)]; exact ⟨rfl, rfl⟩))
    (fun os started H enc _ => lifted os started H enc)

theorem proved : Rows.LogHalvesSaid := over
end Go.Proofs.Ytlnclfiiplpaiaa.logHalves
