/- WireStates: for every input the call returns true, and each argument reads as it read. No condition. -/
import Derived.Test.YtgeclnjkkjmbaaaGreatRows
import Derived.Test.YtgeclnjkkjmbaaaGreatOpen
import Derived.Test.YtgeclnjkkjmbaaaGreatWqV
import Derived.Test.YtgeclnjkkjmbaaaGreatWtL
namespace Go.Proofs.YtgeclnjkkjmbaaaGreat.wireStates
open Go Go.RowKit Go.ChangeShapes Go.WideShapes Go.ChangeAt Cam

theorem own : ownKnob Tryz.prog.godebug = none := by kernel_rfl
theorem laidOut : laidOutB Tryz.prog = true := by kernel_rfl
theorem reads : ∀ t ∈ Tryz.f3.params.toList, Tryz.prog.readableRec t = true ∧ t < Tryz.prog.types.size := by
  intro t ht
  rw [Tryz.params3] at ht
  simp only [List.mem_cons, List.not_mem_nil, or_false] at ht
  rcases ht with rfl | rfl
  all_goals exact ⟨by kernel_rfl, of_decide_eq_true (by kernel_rfl)⟩

theorem walk (W : World) (args : Array Value) (hs : args.size = Tryz.f3.params.size) (ha : ∀ (j : Nat) t v, Tryz.f3.params[j]? = some t → args[j]? = some v → ArgOk Tryz.prog W t v) :
    Calls Tryz.prog 3 args W fun e w' => e = .returned (.bool true) ∧ Below W.heap.size W w' := by
  rw [Tryz.params3] at hs ha
  obtain ⟨v0, v1, rfl⟩ : ∃ v0 v1, args = #[v0, v1] := by
    match args, hs with
    | ⟨[v0, v1]⟩, _ => exact ⟨v0, v1, rfl⟩
  obtain ⟨a1, m1, c1, a2, m2, c2, a3, m3, c3, a4, m4, c4, a5, m5, c5, a6, m6, c6, a7, m7, c7, a8, m8, c8, a9, m9, c9, a10, m10, c10, L, s, rfl, hst, hok⟩ := open_state (ha 0 41 v0 rfl rfl)
  obtain ⟨l1, h1, r1⟩ := (ha 1 42 v1 rfl rfl).bytes Tryz.underlying42 Tryz.underlying5 (by kernel_rfl) (by kernel_rfl)
  exact WireStates_walk W a1 m1 c1 a2 m2 c2 a3 m3 c3 a4 m4 c4 a5 m5 c5 a6 m6 c6 a7 m7 c7 a8 m8 c8 a9 m9 c9 a10 m10 c10 L s hst hok v1 l1 h1

set_option maxRecDepth 100000 in
theorem lifted (os : Os) (started : os.Started) (H : Type) (enc : TypeId × Value → H) :
    ReturnsInHanded {} Tryz.checked os 3 .any (Rows.wireStatesSpec.pre6 enc Tryz.prog Tryz.f3 Rows.wireStatesRow.domain false) (Rows.wireStatesSpec.post enc Tryz.prog Tryz.f3 false true false false) :=
  law_lifted (C := Tryz.checked) own started (by kernel_rfl) Tryz.func3 laidOut reads rfl rfl Tryz.underlying4
    (fun ds h => by
      rw [Tryz.params3] at h
      match ds, h with
      | [d0, d1], _ => rfl)
    (ChangeSpec.witness6 (enc := enc) (C := Tryz.checked) false ⟨#[], #[.agg #[.int .i64 0, .int .i64 0, .int .i64 0, .slice none 0 0, .slice none 0 0, .slice none 0 0, .int .i64 0, .slice none 0 0, .slice none 0 0, .int .i64 0, .slice none 0 0, .slice none 0 0, .slice none 0 0, .slice none 0 0, .slice none 0 0], .slice none 0 0], []⟩ 8 (by kernel_rfl) (by kernel_rfl) (by kernel_rfl) (by kernel_rfl))
    walk

theorem over : Rows.wireStatesRow.holds Tryz.pinned (OpenSpec.ofChange Rows.wireStatesSpec) :=
  OpenClaim.holds_of_wide 3 Tryz.f3 rfl rfl rfl rfl rfl rfl rfl ⟨rfl, rfl, rfl, rfl, rfl⟩ rfl rfl rfl rfl rfl (by kernel_rfl) Tryz.func3 (by kernel_rfl)
    (of_decide_eq_true (by kernel_rfl)) (by unfold Func.isWrapper; first | (rw [if_pos (by decide +kernel)]; kernel_rfl) | (rw [if_neg (by decide +kernel)]; exact ⟨rfl, rfl⟩))
    (fun os started H enc _ => lifted os started H enc)

theorem proved : Rows.WireStatesSaid := over
end Go.Proofs.YtgeclnjkkjmbaaaGreat.wireStates
