import Derived.Test.YtgjiphgehohooaaRefS
import Derived.Test.YtgjiphgehohooaaWdW
import Derived.Deep.DeepCutAuto
/- WideSums. -/
namespace Cam
open Go Go.RowKit Go.Proofs

set_option maxRecDepth 100000 in
set_option maxHeartbeats 1600000 in
theorem WideSums_walk (w : World) (v : Value) (l : List Int) (h : Ws w v l) (hW : ∀ x ∈ l, isWide x = true) :
    Calls Try.prog 5 #[v] w fun e w' => e = .returned (.bool true) ∧ Below w.heap.size w w' := by
  have ws := fun w h => wSum_any w v l h hW
  have rs := fun w h => rSum_any w v l h hW
  obtain ⟨p, q, hpq, epq⟩ := wideV_form (v := wSum l) (by unfold wSum; split; assumption; decide)
  rw [epq] at ws rs
  have Hpq := Lib.hid hpq
  obtain ⟨a, cap, rfl, hcap, hm⟩ := h.shape
  clear hpq epq hW
  by_cases hlen : 2000 < l.length
  · clear ws rs
    go_enter Try.func5, Try.ntmps5
    go_wp2_with fail
    go_ret
    exact ⟨rfl, Below.refl _ _⟩
  have sm := fun w => same_run w _ _ p q p q Hpq.out Hpq.out
  rw [decide_eq_true (rfl : wSum l = wSum l)] at sm
  have hE : (isWide (sumI l) = true ∧ wSumE l = 0) ∨ (isWide (sumI l) = false ∧ wSumE l = 1) := by
    unfold wSumE
    cases isWide (sumI l) <;> simp
  generalize wSumE l = E at *
  generalize isWide (sumI l) = B at *
  rcases hE with ⟨rfl, rfl⟩ | ⟨rfl, rfl⟩
  all_goals
    go_enter Try.func5, Try.ntmps5
    go_wp2_with fail
    refine (ws _ h).mono ?_
    rintro e w1 ⟨rfl, hb1⟩
    go_wp2_with fail
    refine (rs _ ((h.mono hb1).alloc _)).mono ?_
    rintro e w2 ⟨rfl, hb2⟩
    have hc0 : w2.cell? ⟨w1.heap.size, 0, none⟩ = some (.int .i64 p) := by rw [hb2.cell (by simp), World.cell?_alloc_new]; rfl
    have hc1 : w2.cell? ⟨w1.heap.size, 1, none⟩ = some (.int .u64 q) := by rw [hb2.cell (by simp), World.cell?_alloc_new]; rfl
    have hcc := (keepL ((Below.refl _ w2).alloc (Nat.le_refl _) (.cells #[.int .i64 p, .int .u64 q] 29)) hc0)
    have hcd := (keepL ((Below.refl _ w2).alloc (Nat.le_refl _) (.cells #[.int .i64 p, .int .u64 q] 29)) hc1)
    have hce : (w2.alloc (.cells #[.int .i64 p, .int .u64 q] 29)).cell? ⟨w2.heap.size, 0, none⟩ = some (.int .i64 p) := by rw [World.cell?_alloc_new]; rfl
    have hcf : (w2.alloc (.cells #[.int .i64 p, .int .u64 q] 29)).cell? ⟨w2.heap.size, 1, none⟩ = some (.int .u64 q) := by rw [World.cell?_alloc_new]; rfl
    have hb3 : Below w.heap.size w (w2.alloc (.cells #[.int .i64 p, .int .u64 q] 29)) := (hb1.next hb2.un).alloc (Nat.le_trans hb1.size hb2.un.size) _
    clear hc0 hc1
    go_wp2_with fail
    refine (sm _).mono ?_
    rintro e w3 ⟨rfl, hb4⟩
    go_wp2_with fail
    refine (wakes_any _).mono ?_
    rintro e w4 ⟨rfl, hb5⟩
    go_wp2_with fail
    go_ret
    exact ⟨rfl, (hb3.next hb4).next hb5⟩

end Cam
