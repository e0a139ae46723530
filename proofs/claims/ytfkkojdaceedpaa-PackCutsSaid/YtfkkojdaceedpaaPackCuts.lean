/- PackCuts: for every input the call returns true, and each argument reads as it read. No condition. -/
import Derived.Test.YtfkkojdaceedpaaRows
import Derived.Test.YtfkkojdaceedpaaOpen
import Derived.Test.YtfkkojdaceedpaaPkLc
import Derived.Test.YtfkkojdaceedpaaPkO
namespace Go.Proofs.Ytfkkojdaceedpaa.packCuts
open Go Go.RowKit Go.ChangeShapes Go.WideShapes Go.ChangeAt Cam

theorem own : ownKnob Try.prog.godebug = none := by kernel_rfl
theorem laidOut : laidOutB Try.prog = true := by kernel_rfl
theorem reads : ∀ t ∈ Try.f9.params.toList, Try.prog.readableRec t = true ∧ t < Try.prog.types.size := by
  intro t ht
  rw [Try.params9] at ht
  simp only [List.mem_cons, List.not_mem_nil, or_false] at ht
  rcases ht with rfl | rfl | rfl
  all_goals exact ⟨by kernel_rfl, of_decide_eq_true (by kernel_rfl)⟩

theorem walk (W : World) (args : Array Value) (hs : args.size = Try.f9.params.size) (ha : ∀ (j : Nat) t v, Try.f9.params[j]? = some t → args[j]? = some v → ArgOk Try.prog W t v) :
    Calls Try.prog 9 args W fun e w' => e = .returned (.bool true) ∧ Below W.heap.size W w' := by
  rw [Try.params9] at hs ha
  obtain ⟨v0, v1, v2, rfl⟩ : ∃ v0 v1 v2, args = #[v0, v1, v2] := by
    match args, hs with
    | ⟨[v0, v1, v2]⟩, _ => exact ⟨v0, v1, v2, rfl⟩
  obtain ⟨l0, h0, k0⟩ := open_items (ha 0 22 v0 rfl rfl)
  obtain ⟨n1, rfl, w1⟩ := (ha 1 3 v1 rfl rfl).int Try.underlying3
  obtain ⟨n2, rfl, w2⟩ := (ha 2 5 v2 rfl rfl).int Try.underlying5
  exact (by obtain ⟨c, rfl⟩ := u8_of_wf w2; exact PackCuts_walk W v0 l0 n1 c h0 k0)

set_option maxRecDepth 100000 in
theorem lifted (os : Os) (started : os.Started) (H : Type) (enc : TypeId × Value → H) :
    ReturnsInHanded {} Try.checked os 9 .any (Rows.packCutsSpec.pre6 enc Try.prog Try.f9 Rows.packCutsRow.domain false) (Rows.packCutsSpec.post enc Try.prog Try.f9 false true false false) :=
  law_lifted (C := Try.checked) own started (by kernel_rfl) Try.func9 laidOut reads rfl rfl Try.underlying4
    (fun ds h => by
      rw [Try.params9] at h
      match ds, h with
      | [d0, d1, d2], _ => rfl)
    (ChangeSpec.witness6 (enc := enc) (C := Try.checked) false ⟨#[], #[.slice none 0 0, .int .i64 0, .int .u8 0], []⟩ 8 (by kernel_rfl) (by kernel_rfl) (by kernel_rfl) (by kernel_rfl))
    walk

theorem over : Rows.packCutsRow.holds Try.pinned (OpenSpec.ofChange Rows.packCutsSpec) :=
  OpenClaim.holds_of_wide 9 Try.f9 rfl rfl rfl rfl rfl rfl rfl ⟨rfl, rfl, rfl, rfl, rfl⟩ rfl rfl rfl rfl rfl (by kernel_rfl) Try.func9 (by kernel_rfl)
    (of_decide_eq_true (by kernel_rfl)) (by unfold Func.isWrapper; first | (rw [if_pos (by decide +kernel)]; kernel_rfl) | (rw [if_neg (by decide +kernel)]; exact ⟨rfl, rfl⟩))
    (fun os started H enc _ => lifted os started H enc)

theorem proved : Rows.PackCutsSaid := over
end Go.Proofs.Ytfkkojdaceedpaa.packCuts
