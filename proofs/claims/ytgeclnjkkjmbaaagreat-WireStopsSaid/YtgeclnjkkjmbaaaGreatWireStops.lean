/- WireStops: for every input the call returns true, and each argument reads as it read. No condition. -/
import Derived.Test.YtgeclnjkkjmbaaaGreatRows
import Derived.Test.YtgeclnjkkjmbaaaGreatOpen
import Derived.Test.YtgeclnjkkjmbaaaGreatWst
namespace Go.Proofs.YtgeclnjkkjmbaaaGreat.wireStops
open Go Go.RowKit Go.ChangeShapes Go.WideShapes Go.ChangeAt Cam

theorem own : ownKnob Tryz.prog.godebug = none := by kernel_rfl
theorem laidOut : laidOutB Tryz.prog = true := by kernel_rfl
theorem reads : ∀ t ∈ Tryz.f5.params.toList, Tryz.prog.readableRec t = true ∧ t < Tryz.prog.types.size := by
  intro t ht
  rw [Tryz.params5] at ht
  simp only [List.mem_cons, List.not_mem_nil, or_false] at ht
  subst ht
  all_goals exact ⟨by kernel_rfl, of_decide_eq_true (by kernel_rfl)⟩

theorem walk (W : World) (args : Array Value) (hs : args.size = Tryz.f5.params.size) (ha : ∀ (j : Nat) t v, Tryz.f5.params[j]? = some t → args[j]? = some v → ArgOk Tryz.prog W t v) :
    Calls Tryz.prog 5 args W fun e w' => e = .returned (.bool true) ∧ Below W.heap.size W w' := by
  rw [Tryz.params5] at hs ha
  obtain ⟨v0, rfl⟩ : ∃ v0, args = #[v0] := by
    match args, hs with
    | ⟨[v0]⟩, _ => exact ⟨v0, rfl⟩
  obtain ⟨n0, rfl, w0⟩ := (ha 0 3 v0 rfl rfl).int Tryz.underlying3
  exact WireStops_walk W n0

set_option maxRecDepth 100000 in
theorem lifted (os : Os) (started : os.Started) (H : Type) (enc : TypeId × Value → H) :
    ReturnsInHanded {} Tryz.checked os 5 .any (Rows.wireStopsSpec.pre6 enc Tryz.prog Tryz.f5 Rows.wireStopsRow.domain false) (Rows.wireStopsSpec.post enc Tryz.prog Tryz.f5 false true false false) :=
  law_lifted (C := Tryz.checked) own started (by kernel_rfl) Tryz.func5 laidOut reads rfl rfl Tryz.underlying4
    (fun ds h => by
      rw [Tryz.params5] at h
      match ds, h with
      | [d0], _ => rfl)
    (ChangeSpec.witness6 (enc := enc) (C := Tryz.checked) false ⟨#[], #[.int .i64 0], []⟩ 8 (by kernel_rfl) (by kernel_rfl) (by kernel_rfl) (by kernel_rfl))
    walk

theorem over : Rows.wireStopsRow.holds Tryz.pinned (OpenSpec.ofChange Rows.wireStopsSpec) :=
  OpenClaim.holds_of_wide 5 Tryz.f5 rfl rfl rfl rfl rfl rfl rfl ⟨rfl, rfl, rfl, rfl, rfl⟩ rfl rfl rfl rfl rfl (by kernel_rfl) Tryz.func5 (by kernel_rfl)
    (of_decide_eq_true (by kernel_rfl)) (by unfold Func.isWrapper; first | (rw [if_pos (by decide +kernel)]; kernel_rfl) | (rw [if_neg (by decide +kernel)]; exact ⟨rfl, rfl⟩))
    (fun os started H enc _ => lifted os started H enc)

theorem proved : Rows.WireStopsSaid := over
end Go.Proofs.YtgeclnjkkjmbaaaGreat.wireStops
