/- WireBack: for every input the call returns true, and each argument reads as it read. No condition. -/
import Derived.Test.YtgeclnjkkjmbaaaGreatRows
import Derived.Test.YtgeclnjkkjmbaaaGreatOpen
import Derived.Test.YtgeclnjkkjmbaaaGreatWb
import Derived.Test.YtgeclnjkkjmbaaaGreatWtL
import Derived.Test.YtgeclnjkkjmbaaaGreatOpenF
import Derived.Test.YtgeclnjkkjmbaaaGreatOpenR
namespace Go.Proofs.YtgeclnjkkjmbaaaGreat.wireBack
open Go Go.RowKit Go.ChangeShapes Go.WideShapes Go.ChangeAt Cam

theorem own : ownKnob Tryz.prog.godebug = none := by kernel_rfl
theorem laidOut : laidOutB Tryz.prog = true := by kernel_rfl
theorem reads : ∀ t ∈ Tryz.f4.params.toList, Tryz.prog.readableRec t = true ∧ t < Tryz.prog.types.size := by
  intro t ht
  rw [Tryz.params4] at ht
  simp only [List.mem_cons, List.not_mem_nil, or_false] at ht
  rcases ht with rfl | rfl | rfl
  all_goals exact ⟨by kernel_rfl, of_decide_eq_true (by kernel_rfl)⟩

theorem walk (W : World) (args : Array Value) (hs : args.size = Tryz.f4.params.size) (ha : ∀ (j : Nat) t v, Tryz.f4.params[j]? = some t → args[j]? = some v → ArgOk Tryz.prog W t v) :
    Calls Tryz.prog 4 args W fun e w' => e = .returned (.bool true) ∧ Below W.heap.size W w' := by
  rw [Tryz.params4] at hs ha
  obtain ⟨v0, v1, v2, rfl⟩ : ∃ v0 v1 v2, args = #[v0, v1, v2] := by
    match args, hs with
    | ⟨[v0, v1, v2]⟩, _ => exact ⟨v0, v1, v2, rfl⟩
  obtain ⟨x0, x1, x2, x3, x4, x5, x6, x7, x8, x9, x10, x11, x12, x13, x14, x15, x16, rfl, hrx⟩ := open_cmd (ha 0 59 v0 rfl rfl)
  obtain ⟨xc, xn, xa, vd, vf, D, F, rfl, hr, hd, hf, kd, kf⟩ := open_reply (ha 1 63 v1 rfl rfl)
  obtain ⟨a1, m1, c1, a2, m2, c2, a3, m3, c3, a4, m4, c4, a5, m5, c5, a6, m6, c6, a7, m7, c7, a8, m8, c8, a9, m9, c9, a10, m10, c10, L, s, rfl, hst, hok⟩ := open_state (ha 2 41 v2 rfl rfl)
  exact WireBack_walk W x0 x1 x2 x3 x4 x5 x6 x7 x8 x9 x10 x11 x12 x13 x14 x15 x16 hrx xc xn xa vd vf D F hr hd hf kd kf a1 m1 c1 a2 m2 c2 a3 m3 c3 a4 m4 c4 a5 m5 c5 a6 m6 c6 a7 m7 c7 a8 m8 c8 a9 m9 c9 a10 m10 c10 L s hst hok

set_option maxRecDepth 100000 in
theorem lifted (os : Os) (started : os.Started) (H : Type) (enc : TypeId × Value → H) :
    ReturnsInHanded {} Tryz.checked os 4 .any (Rows.wireBackSpec.pre6 enc Tryz.prog Tryz.f4 Rows.wireBackRow.domain false) (Rows.wireBackSpec.post enc Tryz.prog Tryz.f4 false true false false) :=
  law_lifted (C := Tryz.checked) own started (by kernel_rfl) Tryz.func4 laidOut reads rfl rfl Tryz.underlying4
    (fun ds h => by
      rw [Tryz.params4] at h
      match ds, h with
      | [d0, d1, d2], _ => rfl)
    (ChangeSpec.witness6 (enc := enc) (C := Tryz.checked) false ⟨#[], #[.agg #[.int .i64 0, .int .i64 0, .int .i64 0, .int .i64 0, .int .i64 0, .int .i64 0, .int .i64 0, .int .i64 0, .int .i64 0, .int .i64 0, .int .i64 0, .int .i64 0, .int .i64 0, .int .i64 0, .int .i64 0, .int .i64 0, .int .i64 0], .agg #[.int .i64 0, .int .i64 0, .int .i64 0, .slice none 0 0, .slice none 0 0], .agg #[.int .i64 0, .int .i64 0, .int .i64 0, .slice none 0 0, .slice none 0 0, .slice none 0 0, .int .i64 0, .slice none 0 0, .slice none 0 0, .int .i64 0, .slice none 0 0, .slice none 0 0, .slice none 0 0, .slice none 0 0, .slice none 0 0]], []⟩ 8 (by kernel_rfl) (by kernel_rfl) (by kernel_rfl) (by kernel_rfl))
    walk

theorem over : Rows.wireBackRow.holds Tryz.pinned (OpenSpec.ofChange Rows.wireBackSpec) :=
  OpenClaim.holds_of_wide 4 Tryz.f4 rfl rfl rfl rfl rfl rfl rfl ⟨rfl, rfl, rfl, rfl, rfl⟩ rfl rfl rfl rfl rfl (by kernel_rfl) Tryz.func4 (by kernel_rfl)
    (of_decide_eq_true (by kernel_rfl)) (by unfold Func.isWrapper; first | (rw [if_pos (by decide +kernel)]; kernel_rfl) | (rw [if_neg (by decide +kernel)]; exact ⟨rfl, rfl⟩))
    (fun os started H enc _ => lifted os started H enc)

theorem proved : Rows.WireBackSaid := over
end Go.Proofs.YtgeclnjkkjmbaaaGreat.wireBack
