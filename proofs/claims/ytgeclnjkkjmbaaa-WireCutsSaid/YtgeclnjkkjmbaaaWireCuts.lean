/- WireCuts: for every input the call returns true, and each argument reads as it read. No condition. -/
import Derived.Test.YtgeclnjkkjmbaaaRows
import Derived.Test.YtgeclnjkkjmbaaaOpen
import Derived.Test.YtgeclnjkkjmbaaaWtN
import Derived.Test.YtgeclnjkkjmbaaaWtL
import Derived.Test.YtgeclnjkkjmbaaaOpenF
namespace Go.Proofs.Ytgeclnjkkjmbaaa.wireCuts
open Go Go.RowKit Go.ChangeShapes Go.WideShapes Go.ChangeAt Cam

theorem own : ownKnob Try.prog.godebug = none := by kernel_rfl
theorem laidOut : laidOutB Try.prog = true := by kernel_rfl
theorem reads : ∀ t ∈ Try.f6.params.toList, Try.prog.readableRec t = true ∧ t < Try.prog.types.size := by
  intro t ht
  rw [Try.params6] at ht
  simp only [List.mem_cons, List.not_mem_nil, or_false] at ht
  rcases ht with rfl | rfl | rfl | rfl
  all_goals exact ⟨by kernel_rfl, of_decide_eq_true (by kernel_rfl)⟩

theorem walk (W : World) (args : Array Value) (hs : args.size = Try.f6.params.size) (ha : ∀ (j : Nat) t v, Try.f6.params[j]? = some t → args[j]? = some v → ArgOk Try.prog W t v) :
    Calls Try.prog 6 args W fun e w' => e = .returned (.bool true) ∧ Below W.heap.size W w' := by
  rw [Try.params6] at hs ha
  obtain ⟨v0, v1, v2, v3, rfl⟩ : ∃ v0 v1 v2 v3, args = #[v0, v1, v2, v3] := by
    match args, hs with
    | ⟨[v0, v1, v2, v3]⟩, _ => exact ⟨v0, v1, v2, v3, rfl⟩
  obtain ⟨x0, x1, x2, x3, x4, x5, x6, x7, x8, x9, x10, x11, x12, x13, x14, x15, x16, rfl, hrx⟩ := open_cmd (ha 0 24 v0 rfl rfl)
  obtain ⟨a1, m1, c1, a2, m2, c2, a3, m3, c3, a4, m4, c4, a5, m5, c5, a6, m6, c6, a7, m7, c7, a8, m8, c8, a9, m9, c9, a10, m10, c10, L, s, rfl, hst, hok⟩ := open_state (ha 1 72 v1 rfl rfl)
  obtain ⟨n2, rfl, w2⟩ := (ha 2 3 v2 rfl rfl).int Try.underlying3
  obtain ⟨n3, rfl, w3⟩ := (ha 3 5 v3 rfl rfl).int Try.underlying5
  exact (by obtain ⟨c, rfl⟩ := u8_of_wf w3; exact WireCuts_walk W x0 x1 x2 x3 x4 x5 x6 x7 x8 x9 x10 x11 x12 x13 x14 x15 x16 hrx a1 m1 c1 a2 m2 c2 a3 m3 c3 a4 m4 c4 a5 m5 c5 a6 m6 c6 a7 m7 c7 a8 m8 c8 a9 m9 c9 a10 m10 c10 L s hst hok n2 c)

set_option maxRecDepth 100000 in
theorem lifted (os : Os) (started : os.Started) (H : Type) (enc : TypeId × Value → H) :
    ReturnsInHanded {} Try.checked os 6 .any (Rows.wireCutsSpec.pre6 enc Try.prog Try.f6 Rows.wireCutsRow.domain false) (Rows.wireCutsSpec.post enc Try.prog Try.f6 false true false false) :=
  law_lifted (C := Try.checked) own started (by kernel_rfl) Try.func6 laidOut reads rfl rfl Try.underlying4
    (fun ds h => by
      rw [Try.params6] at h
      match ds, h with
      | [d0, d1, d2, d3], _ => rfl)
    (ChangeSpec.witness6 (enc := enc) (C := Try.checked) false ⟨#[], #[.agg #[.int .i64 0, .int .i64 0, .int .i64 0, .int .i64 0, .int .i64 0, .int .i64 0, .int .i64 0, .int .i64 0, .int .i64 0, .int .i64 0, .int .i64 0, .int .i64 0, .int .i64 0, .int .i64 0, .int .i64 0, .int .i64 0, .int .i64 0], .agg #[.int .i64 0, .int .i64 0, .int .i64 0, .slice none 0 0, .slice none 0 0, .slice none 0 0, .int .i64 0, .slice none 0 0, .slice none 0 0, .int .i64 0, .slice none 0 0, .slice none 0 0, .slice none 0 0, .slice none 0 0, .slice none 0 0], .int .i64 0, .int .u8 0], []⟩ 8 (by kernel_rfl) (by kernel_rfl) (by kernel_rfl) (by kernel_rfl))
    walk

theorem over : Rows.wireCutsRow.holds Try.pinned (OpenSpec.ofChange Rows.wireCutsSpec) :=
  OpenClaim.holds_of_wide 6 Try.f6 rfl rfl rfl rfl rfl rfl rfl ⟨rfl, rfl, rfl, rfl, rfl⟩ rfl rfl rfl rfl rfl (by kernel_rfl) Try.func6 (by kernel_rfl)
    (of_decide_eq_true (by kernel_rfl)) (by unfold Func.isWrapper; first | (rw [if_pos (by decide +kernel)]; kernel_rfl) | (rw [if_neg (by decide +kernel)]; exact ⟨rfl, rfl⟩))
    (fun os started H enc _ => lifted os started H enc)

theorem proved : Rows.WireCutsSaid := over
end Go.Proofs.Ytgeclnjkkjmbaaa.wireCuts
