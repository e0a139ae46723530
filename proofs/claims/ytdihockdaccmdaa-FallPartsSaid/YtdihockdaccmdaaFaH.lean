import Derived.Test.YtdihockdaccmdaaFaWake
import Derived.Test.YtdihockdaccmdaaShQ
import Derived.Test.YtdihockdaccmdaaOpenA
import Derived.StillTailTactics
/- falls and caps in blocks; a loss's shares. -/
namespace Cam
open Go Go.RowKit Go.Proofs

/-- a fall at block g, five caps at block h -/
def FH (h g : Nat) (w : World) (cur loss q0 q1 q2 q3 q4 r c0 c1 c2 c3 c4 : Int) : Prop :=
  w.heap[g]? = some (.cells #[.int .i64 cur, .int .i64 loss, .int .i64 q0, .int .i64 q1, .int .i64 q2, .int .i64 q3, .int .i64 q4, .int .i64 r] 24 (0, 0)) ∧
  w.heap[h]? = some (.cells #[.int .i64 c0, .int .i64 c1, .int .i64 c2, .int .i64 c3, .int .i64 c4] 22 (0, 0))

theorem FH.g {h g : Nat} {w : World} {cur loss q0 q1 q2 q3 q4 r c0 c1 c2 c3 c4 : Int} (H : FH h g w cur loss q0 q1 q2 q3 q4 r c0 c1 c2 c3 c4) (j : Nat) (u : Value)
    (hu : #[Value.int .i64 cur, .int .i64 loss, .int .i64 q0, .int .i64 q1, .int .i64 q2, .int .i64 q3, .int .i64 q4, .int .i64 r][j]? = some u) : w.cell? ⟨g, j, none⟩ = some u := by
  unfold World.cell?
  rw [H.1]
  exact hu
theorem FH.q {h g : Nat} {w : World} {cur loss q0 q1 q2 q3 q4 r c0 c1 c2 c3 c4 : Int} (H : FH h g w cur loss q0 q1 q2 q3 q4 r c0 c1 c2 c3 c4) (k : Nat) (hk : k < 5) :
    w.cell? ⟨g, 2 + k, none⟩ = some (.int .i64 ([q0, q1, q2, q3, q4].getD k 0)) ∧ w.cell? ⟨h, k, none⟩ = some (.int .i64 ([c0, c1, c2, c3, c4].getD k 0)) := by
  unfold World.cell?
  rw [H.1, H.2]
  match k, hk with
  | 0, _ => exact ⟨rfl, rfl⟩
  | 1, _ => exact ⟨rfl, rfl⟩
  | 2, _ => exact ⟨rfl, rfl⟩
  | 3, _ => exact ⟨rfl, rfl⟩
  | 4, _ => exact ⟨rfl, rfl⟩
theorem FH.is {h g : Nat} {w : World} {cur loss q0 q1 q2 q3 q4 r c0 c1 c2 c3 c4 : Int} (H : FH h g w cur loss q0 q1 q2 q3 q4 r c0 c1 c2 c3 c4) :
    Is w (.slice (some ⟨h, 0, none⟩) 5 5) [c0, c1, c2, c3, c4] := Is.block (l := [c0, c1, c2, c3, c4]) H.2 (Nat.le_refl _) (by simp [maxLen])
theorem FH.drew {h g : Nat} {w : World} {cur loss q0 q1 q2 q3 q4 r c0 c1 c2 c3 c4 : Int} (H : FH h g w cur loss q0 q1 q2 q3 q4 r c0 c1 c2 c3 c4) (n : Nat) :
    FH h g (w.drewN n) cur loss q0 q1 q2 q3 q4 r c0 c1 c2 c3 c4 := by
  exact H
theorem FH.below {h g B : Nat} {w w' : World} {cur loss q0 q1 q2 q3 q4 r c0 c1 c2 c3 c4 : Int} (H : FH h g w cur loss q0 q1 q2 q3 q4 r c0 c1 c2 c3 c4) (hb : Below B w w') (hg : g < B) (hh : h < B) :
    FH h g w' cur loss q0 q1 q2 q3 q4 r c0 c1 c2 c3 c4 := ⟨(hb.block _ hg).trans H.1, (hb.block _ hh).trans H.2⟩

/-- five caps as an argument -/
theorem open_five {W : World} {v : Value} (h : ArgOk Try.prog W 22 v) :
    ∃ a b c d f, v = .agg #[.int .i64 a, .int .i64 b, .int .i64 c, .int .i64 d, .int .i64 f] ∧ (Lit.int .i64 a).wf = true ∧ (Lit.int .i64 b).wf = true ∧ (Lit.int .i64 c).wf = true ∧ (Lit.int .i64 d).wf = true ∧ (Lit.int .i64 f).wf = true :=
  h.five Try.underlying22 Try.underlying3 (by kernel_rfl) (by kernel_rfl)

end Cam
