/- LogLasts: for every input the call returns true, and each argument reads as it read. No condition. -/
import Derived.Test.YtlnclfiiplpaiaaRows
import Derived.Test.YtlnclfiiplpaiaaOpen
import Derived.Test.YtlnclfiiplpaiaaJnL7
namespace Go.Proofs.Ytlnclfiiplpaiaa.logLasts
open Go Go.RowKit Go.ChangeShapes Go.WideShapes Go.ChangeAt Cam

theorem own : ownKnob Try.prog.godebug = none := by kernel_rfl
theorem laidOut : laidOutB Try.prog = true := by kernel_rfl
theorem reads : ∀ t ∈ Try.f9.params.toList, Try.prog.readableRec t = true ∧ t < Try.prog.types.size := by
  intro t ht
  rw [Try.params9] at ht
  simp only [List.mem_cons, List.not_mem_nil, or_false] at ht
  subst ht
  all_goals exact ⟨by kernel_rfl, of_decide_eq_true (by kernel_rfl)⟩

theorem walk (W : World) (args : Array Value) (hs : args.size = Try.f9.params.size) (ha : ∀ (j : Nat) t v, Try.f9.params[j]? = some t → args[j]? = some v → ArgOk Try.prog W t v) :
    Calls Try.prog 9 args W fun e w' => e = .returned (.bool true) ∧ Below W.heap.size W w' := by
  rw [Try.params9] at hs ha
  obtain ⟨v0, rfl⟩ : ∃ v0, args = #[v0] := by
    match args, hs with
    | ⟨[v0]⟩, _ => exact ⟨v0, rfl⟩
  obtain ⟨l0, h0⟩ := open_lives (ha 0 57 v0 rfl rfl)
  exact LogLasts_walk W v0 l0 h0

set_option maxRecDepth 100000 in
theorem lifted (os : Os) (started : os.Started) (H : Type) (enc : TypeId × Value → H) :
    ReturnsInHanded {} Try.checked os 9 .any (Rows.logLastsSpec.pre6 enc Try.prog Try.f9 Rows.logLastsRow.domain false) (Rows.logLastsSpec.post enc Try.prog Try.f9 false true false false) :=
  law_lifted (C := Try.checked) own started (by kernel_rfl) Try.func9 laidOut reads rfl rfl Try.underlying4
    (fun ds h => by
      rw [Try.params9] at h
      match ds, h with
      | [d0], _ => rfl)
    (ChangeSpec.witness6 (enc := enc) (C := Try.checked) false ⟨#[], #[.slice none 0 0], []⟩ 8 (by kernel_rfl) (by kernel_rfl) (by kernel_rfl) (by kernel_rfl))
    walk

theorem over : Rows.logLastsRow.holds Try.pinned (OpenSpec.ofChange Rows.logLastsSpec) :=
  OpenClaim.holds_of_wide 9 Try.f9 rfl rfl rfl rfl rfl rfl rfl ⟨rfl, rfl, rfl, rfl, rfl⟩ rfl rfl rfl rfl rfl (by kernel_rfl) Try.func9 (by kernel_rfl)
    (of_decide_eq_true (by kernel_rfl)) (by unfold Func.isWrapper; first | (rw [if_pos (by decide +kernel)]; kernel_rfl) | (rw [if_neg (by decide +kernel)]; exact ⟨rfl, rfl⟩))
    (fun os started H enc _ => lifted os started H enc)

theorem proved : Rows.LogLastsSaid := over
end Go.Proofs.Ytlnclfiiplpaiaa.logLasts
