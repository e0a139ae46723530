/- WireReplies: for every input the call returns true, and each argument reads as it read. No condition. -/
import Derived.Test.YtgeclnjkkjmbaaaRows
import Derived.Test.YtgeclnjkkjmbaaaOpen
import Derived.Test.YtgeclnjkkjmbaaaWsN
import Derived.Test.YtgeclnjkkjmbaaaOpenF
import Derived.Test.YtgeclnjkkjmbaaaOpenR
namespace Go.Proofs.Ytgeclnjkkjmbaaa.wireReplies
open Go Go.RowKit Go.ChangeShapes Go.WideShapes Go.ChangeAt Cam

theorem own : ownKnob Try.prog.godebug = none := by kernel_rfl
theorem laidOut : laidOutB Try.prog = true := by kernel_rfl
theorem reads : ∀ t ∈ Try.f5.params.toList, Try.prog.readableRec t = true ∧ t < Try.prog.types.size := by
  intro t ht
  rw [Try.params5] at ht
  simp only [List.mem_cons, List.not_mem_nil, or_false] at ht
  rcases ht with rfl | rfl
  all_goals exact ⟨by kernel_rfl, of_decide_eq_true (by kernel_rfl)⟩

theorem walk (W : World) (args : Array Value) (hs : args.size = Try.f5.params.size) (ha : ∀ (j : Nat) t v, Try.f5.params[j]? = some t → args[j]? = some v → ArgOk Try.prog W t v) :
    Calls Try.prog 5 args W fun e w' => e = .returned (.bool true) ∧ Below W.heap.size W w' := by
  rw [Try.params5] at hs ha
  obtain ⟨v0, v1, rfl⟩ : ∃ v0 v1, args = #[v0, v1] := by
    match args, hs with
    | ⟨[v0, v1]⟩, _ => exact ⟨v0, v1, rfl⟩
  obtain ⟨xc, xn, xa, vd, vf, D, F, rfl, hr, hd, hf, kd, kf⟩ := open_reply (ha 0 41 v0 rfl rfl)
  obtain ⟨l1, h1, r1⟩ := (ha 1 25 v1 rfl rfl).bytes Try.underlying25 Try.underlying5 (by kernel_rfl) (by kernel_rfl)
  exact WireReplies_walk W xc xn xa vd vf D F v1 l1 hr hd hf kd kf h1

set_option maxRecDepth 100000 in
theorem lifted (os : Os) (started : os.Started) (H : Type) (enc : TypeId × Value → H) :
    ReturnsInHanded {} Try.checked os 5 .any (Rows.wireRepliesSpec.pre6 enc Try.prog Try.f5 Rows.wireRepliesRow.domain false) (Rows.wireRepliesSpec.post enc Try.prog Try.f5 false true false false) :=
  law_lifted (C := Try.checked) own started (by kernel_rfl) Try.func5 laidOut reads rfl rfl Try.underlying4
    (fun ds h => by
      rw [Try.params5] at h
      match ds, h with
      | [d0, d1], _ => rfl)
    (ChangeSpec.witness6 (enc := enc) (C := Try.checked) false ⟨#[], #[.agg #[.int .i64 0, .int .i64 0, .int .i64 0, .slice none 0 0, .slice none 0 0], .slice none 0 0], []⟩ 8 (by kernel_rfl) (by kernel_rfl) (by kernel_rfl) (by kernel_rfl))
    walk

theorem over : Rows.wireRepliesRow.holds Try.pinned (OpenSpec.ofChange Rows.wireRepliesSpec) :=
  OpenClaim.holds_of_wide 5 Try.f5 rfl rfl rfl rfl rfl rfl rfl ⟨rfl, rfl, rfl, rfl, rfl⟩ rfl rfl rfl rfl rfl (by kernel_rfl) Try.func5 (by kernel_rfl)
    (of_decide_eq_true (by kernel_rfl)) (by unfold Func.isWrapper; first | (rw [if_pos (by decide +kernel)]; kernel_rfl) | (rw [if_neg (by decide +kernel)]; exact ⟨rfl, rfl⟩))
    (fun os started H enc _ => lifted os started H enc)

theorem proved : Rows.WireRepliesSaid := over
end Go.Proofs.Ytgeclnjkkjmbaaa.wireReplies
