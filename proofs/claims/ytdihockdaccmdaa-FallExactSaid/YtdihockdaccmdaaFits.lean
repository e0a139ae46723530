import Derived.Test.YtdihockdaccmdaaFallEq
/- fall.Fits. (under way) -/
namespace Cam
open Go Go.RowKit Go.Proofs

/-- does it fit? -/
def fitsB (cur loss : Int) (p : List Int) (r : Int) (l : List Int) : Bool := decide (shareE cur loss l = 0 ∧ p = greedyP loss l ∧ r = greedyR loss l)

set_option maxHeartbeats 800000 in
theorem Fits_any (w : World) (cur loss p0 p1 p2 p3 p4 r : Int) (v : Value) (l : List Int) (h : Is w v l) :
    Calls Try.prog 10 #[fallV cur loss p0 p1 p2 p3 p4 r, v] w fun e w' => e = .returned (.bool (fitsB cur loss [p0, p1, p2, p3, p4] r l)) ∧ Below w.heap.size w w' := by
  obtain ⟨a, cap, rfl, hcap, hm⟩ := h.shape
  unfold fallV
  rcases shareE_cases cur loss l with he | he
  · have sh := fun w h => Share_no w cur loss (.slice a l.length cap) l h he
    have Hf : Hid (fitsB cur loss [p0, p1, p2, p3, p4] r l = false) := by show _ = _; unfold fitsB; rw [he]; simp
    clear he
    go_enter Try.func10, Try.ntmps10
    go_wp2_with fail
    refine (sh _ (h.alloc _)).mono ?_
    rintro e w1 ⟨rfl, hb⟩
    unfold fallV
    go_wp2_with fail
    go_ret
    exact ⟨by rw [Hf.out]; rfl, hb.un.alloc hb.un.size _⟩
  · have sh := fun w h => Share_ok w cur loss (.slice a l.length cap) l h he
    have He := Lib.hid he
    clear he
    go_enter Try.func10, Try.ntmps10
    go_wp2_with fail
    refine (sh _ (h.alloc _)).mono ?_
    rintro e w1 ⟨q0, q1, q2, q3, q4, hq, rfl, hb⟩
    have Hq := Lib.hid hq
    clear hq
    unfold fallV
    generalize hrr : greedyR loss l = s
    have Hs := Lib.hid hrr
    clear hrr
    have hx : ∀ (j : Nat) (u : Value), #[Value.int .i64 cur, .int .i64 loss, .int .i64 p0, .int .i64 p1, .int .i64 p2, .int .i64 p3, .int .i64 p4, .int .i64 r][j]? = some u → (w1.alloc (.cells #[.int .i64 cur, .int .i64 loss, .int .i64 q0, .int .i64 q1, .int .i64 q2, .int .i64 q3, .int .i64 q4, .int .i64 s] 24)).cell? ⟨w.heap.size, j, none⟩ = some u := by
      intro j u hu
      have hs := hb.size
      rw [((Below.refl _ w1).alloc (Nat.le_refl _) _).cell (by simp at hs; simp; omega), hb.cell (by simp)]
      rw [World.cell?_alloc_new]
      simpa using hu
    have hc0 := hx 0 _ rfl
    have hc1 := hx 1 _ rfl
    have hc2 := hx 2 _ rfl
    have hc3 := hx 3 _ rfl
    have hc4 := hx 4 _ rfl
    have hc5 := hx 5 _ rfl
    have hc6 := hx 6 _ rfl
    have hc7 := hx 7 _ rfl
    clear hx
    have h5 : (Op.equalIn 9999 22 (.agg #[.int .i64 p0, .int .i64 p1, .int .i64 p2, .int .i64 p3, .int .i64 p4]) (.agg #[.int .i64 q0, .int .i64 q1, .int .i64 q2, .int .i64 q3, .int .i64 q4])).run Try.prog (w1.alloc (.cells #[.int .i64 cur, .int .i64 loss, .int .i64 q0, .int .i64 q1, .int .i64 q2, .int .i64 q3, .int .i64 q4, .int .i64 s] 24)) = .ok (decide ([p0, p1, p2, p3, p4] = [q0, q1, q2, q3, q4])) (w1.alloc (.cells #[.int .i64 cur, .int .i64 loss, .int .i64 q0, .int .i64 q1, .int .i64 q2, .int .i64 q3, .int .i64 q4, .int .i64 s] 24)) := five_eql _ 9997 _ _ _ _ _ _ _ _ _ _
    have hf : Hid (fitsB cur loss [p0, p1, p2, p3, p4] r l = (decide ([p0, p1, p2, p3, p4] = [q0, q1, q2, q3, q4]) && decide (r = s))) := by
      show _ = _
      unfold fitsB
      rw [He.out, Hq.out, Hs.out]
      simp
    generalize decide ([p0, p1, p2, p3, p4] = [q0, q1, q2, q3, q4]) = z at *
    cases z with
    | false =>
      go_wp2_with fail
      all_goals (go_ret; exact ⟨by rw [hf.out]; rfl, hb.un.alloc hb.un.size _⟩)
    | true =>
      by_cases hr : r = s
      · subst hr
        go_wp2_with fail
        go_ret
        exact ⟨by rw [hf.out]; simp, hb.un.alloc hb.un.size _⟩
      · have hf2 : Hid (decide (r = s) = false) := by show _ = _; simp [hr]
        go_wp2_with fail
        go_ret
        exact ⟨by rw [hf.out, hf2.out]; rfl, hb.un.alloc hb.un.size _⟩

end Cam
