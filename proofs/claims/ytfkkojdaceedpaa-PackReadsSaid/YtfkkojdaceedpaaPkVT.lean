import Derived.Test.YtfkkojdaceedpaaPkVM
/- cambistref04.Reader: Text. -/
namespace Cam
open Go Go.RowKit Go.Proofs

def QTPost (w : World) (g : Nat) (B : List UInt8) (v : Value) (s : RS) (r : Ending) (w' : World) : Prop := ∃ u, r = .returned u ∧ OwnB 5 w' w.heap.size u (rT s).1 ∧ QPost w g B v (rT s).2 w'

theorem QT_own {w2 : World} {B0 B1 g : Nat} {v : Value} {m : List UInt8} {x : Value} (ho : OwnB 5 w2 B1 v ([] ++ m)) (hg : g < B1) (hB : B0 ≤ B1) : OwnB 5 (w2.setCell ⟨g, 1, none⟩ x) B0 v m :=
  OwnB.base (base := B1) (ownsRow_setCell_other ho (a := ⟨g, 1, none⟩) (fun e => by have := (World.ownsRow.lt ho g e).1; omega) _) hB

set_option maxRecDepth 100000 in
set_option maxHeartbeats 1600000 in
theorem QText_any (w : World) (g : Nat) (B : List UInt8) (v : Value) (at_ : Nat) (e : Int) (h : QR w g B v at_ e) (hlen : B.length ≤ 70368744177664) : Calls Try.prog 27 #[.pointer (some ⟨g, 0, none⟩)] w (QTPost w g B v (B.drop at_, e)) := by
  have hi := QInt_any w g B v at_ e h hlen
  obtain ⟨a, c, rfl, hca, hcm⟩ := h.2.1.shape
  obtain ⟨s, hs⟩ : ∃ s, s = (B.drop at_, e) := ⟨_, rfl⟩
  rw [← hs] at hi
  rw [← hs]
  have HT : Hid (rT s = rT' (rI s).1 (rI s).2) := rfl
  obtain ⟨n, hn⟩ : ∃ n, n = (rI s).1 := ⟨_, rfl⟩
  obtain ⟨s1, hs1⟩ : ∃ s1, s1 = (rI s).2 := ⟨_, rfl⟩
  rw [← hn, ← hs1] at hi HT
  clear hn hs1 hs h
  obtain ⟨l, e1⟩ := s1
  unfold QPost at hi
  simp only at hi
  go_enter Try.func27, Try.ntmps27
  go_wp2_with fail
  refine hi.mono ?_
  rintro r w1 ⟨rfl, p, h1, hl, hk1⟩
  clear hi
  obtain ⟨hc0, hc1, hc2, hf1, hf2⟩ := h1.cells
  have hp := h1.2.2.2
  have hll : l.length = B.length - p := by rw [← hl, List.length_drop]
  have HL := Lib.hid hl
  clear hl
  by_cases he : e1 = 0
  · subst he
    by_cases hn0 : n < 0
    · have E1 : Hid (rT s = ([], (l, 4))) := by show _ = _; rw [HT.out, rT']; simp only [ne_eq, not_true_eq_false, if_false]; rw [if_neg (by omega), if_pos (Or.inl hn0)]
      go_wp2_with fail
      refine (qnone_any _ g B _ p h1 4).mono ?_
      rintro r w2 ⟨rfl, h2, hk2⟩
      go_wp2_with fail
      go_ret
      unfold QTPost
      rw [E1.out]
      exact ⟨_, rfl, OwnB.empty _ _ _, p, h2, HL.out, hk1.then hk2⟩
    · have hn0i : decide (n < 0) = false := by simp; omega
      by_cases hbig : 65536 < n
      · have E1 : Hid (rT s = ([], (l, 5))) := by show _ = _; rw [HT.out, rT']; simp [hbig]
        go_wp2_with fail
        refine (qnone_any _ g B _ p h1 5).mono ?_
        rintro r w2 ⟨rfl, h2, hk2⟩
        go_wp2_with fail
        go_ret
        unfold QTPost
        rw [E1.out]
        exact ⟨_, rfl, OwnB.empty _ _ _, p, h2, HL.out, hk1.then hk2⟩
      · have hbig' : decide (65536 < n) = false := by simp; omega
        by_cases hbad : (l.length : Int) < n
        · have E1 : Hid (rT s = ([], (l, 4))) := by
            show _ = _
            rw [HT.out, rT']
            simp only [ne_eq, not_true_eq_false, if_false, if_neg hbig, if_pos (Or.inr hbad : n < 0 ∨ (l.length : Int) < n)]
          have hsub : wrap64 ((B.length : Int) - (p : Int)) = (l.length : Int) := by unfold wrap64; omega
          have hsub2 : (B.length : Int) - (p : Int) = (l.length : Int) := by omega
          have hbi : decide ((l.length : Int) < n) = true := by simp; omega
          go_wp2_with fail
          go_quiet (fail)
          go_wp2_with fail
          refine (qnone_any _ g B _ p (h1.drewN _) 4).mono ?_
          rintro r w2 ⟨rfl, h2, hk2⟩
          go_wp2_with fail
          go_ret
          unfold QTPost
          rw [E1.out]
          exact ⟨_, rfl, OwnB.empty _ _ _, p, h2, HL.out, (hk1.drewN _).then hk2⟩
        · obtain ⟨m, rfl⟩ : ∃ m : Nat, n = (m : Int) := ⟨n.toNat, by omega⟩
          have hml : m ≤ l.length := by omega
          have hsub2 : (B.length : Int) - (p : Int) = (l.length : Int) := by omega
          have hbi : decide ((l.length : Int) < (m : Int)) = false := by simp; omega
          have E1 : Hid (rT s = (l.take m, (l.drop m, 0))) := by
            show _ = _
            rw [HT.out, rT']
            simp only [ne_eq, not_true_eq_false, if_false, if_neg hbig, if_neg (by omega : ¬ ((m : Int) < 0 ∨ (l.length : Int) < (m : Int))), Int.toNat_natCast]
          have hcut := h1.2.1.cut p (p + m) (by omega) (by omega)
          rw [show p + m - p = m by omega, HL.out] at hcut
          clear hbad hbig hn0
          by_cases hce : c = p
          · rw [if_pos hce] at hcut
            obtain rfl : m = 0 := by omega
            have hw : IntKind.i64.wrap (p : Int) = (p : Int) := Go.IntWalk.i64_in _ (by omega)
            rw [hce, Nat.sub_self] at hcut
            have hC := Lib.hid hcut
            clear hcut
            go_wp2_with fail
            go_quiet (fail)
            go_wp2_with fail
            have hlm : ([] : List UInt8).length + (l.take 0).length ≤ 140737488355328 := by simp
            go_region_law (first
              | (refine step_append_bytes (l := []) (m := l.take 0) (vx := .slice a 0 0) (v := .slice none 0 0) (base := w1.heap.size) rfl (.tmp 34) (.tmp 49) 25 rfl elem_byte (by simp [Act.eval, Act.put]) (by simp [Act.eval, Act.put]) (OwnB.empty _ _ _) ?_ ?_ ?_ ?_; (repeat (first | with_reducible exact hC.out | with_reducible refine Bs.drewN ?_ _ | with_reducible refine Bs.drew ?_)); (simp); (exact Nat.le_refl _); intro a' n' c' w2 Hn' ho' hb' hg'; have hq2 := (h1.drewN _).below hb'; obtain ⟨k0, k1, k2, kf1, kf2⟩ := hq2.cells))
            all_goals
              go_wp2_with fail
              go_ret
              unfold QTPost
              rw [E1.out]
              have hb2 : Below w1.heap.size w1 w2 := ⟨hb'.os, hb'.tape, hb'.output, hb'.size, hb'.block⟩
              exact ⟨_, rfl, QT_own ho' h1.lt hk1.size, p + 0, (hq2.put1' (p + 0) (by omega) _ (by first | rfl | (push_cast; rfl) | (have := HM.out; omega) | simp)).1, by rw [← HL.out, List.drop_drop], (hk1.belowG hb2 hk1.size).then (hq2.put1' (p + 0) (by omega) _ (by first | rfl | (push_cast; rfl) | (have := HM.out; omega) | simp)).2⟩
          · rw [if_neg hce] at hcut
            obtain ⟨M, hM⟩ : ∃ M, M = p + m := ⟨_, rfl⟩
            have hw : IntKind.i64.wrap ((p : Int) + (m : Int)) = (M : Int) := by rw [Go.IntWalk.i64_in _ (by omega)]; omega
            have hMc : M ≤ c := by omega
            have hpM : p ≤ M := by omega
            have hMm : M - p = m := by omega
            have HM := Lib.hid hM
            rw [Nat.mul_one] at hcut
            clear hM
            have hC := Lib.hid hcut
            clear hcut
            go_wp2_with fail
            go_quiet (fail)
            go_wp2_with fail
            have hlm : ([] : List UInt8).length + (l.take m).length ≤ 140737488355328 := by rw [List.length_take]; simp; omega
            go_region_law (first
              | (refine step_append_bytes (l := []) (m := l.take m) (vx := .slice (a.map (·.add p)) m (c - p)) (v := .slice none 0 0) (base := w1.heap.size) rfl (.tmp 34) (.tmp 49) 25 rfl elem_byte (by simp [Act.eval, Act.put]) (by simp [Act.eval, Act.put]) (OwnB.empty _ _ _) ?_ ?_ ?_ ?_; (repeat (first | with_reducible exact hC.out | with_reducible refine Bs.drewN ?_ _ | with_reducible refine Bs.drew ?_)); (exact hlm); (exact Nat.le_refl _); intro a' n' c' w2 Hn' ho' hb' hg'; have hq2 := (h1.drewN _).below hb'; obtain ⟨k0, k1, k2, kf1, kf2⟩ := hq2.cells))
            all_goals
              go_wp2_with fail
              go_ret
              unfold QTPost
              rw [E1.out]
              have hb2 : Below w1.heap.size w1 w2 := ⟨hb'.os, hb'.tape, hb'.output, hb'.size, hb'.block⟩
              exact ⟨_, rfl, QT_own ho' h1.lt hk1.size, p + m, (hq2.put1' (p + m) (by omega) _ (by first | rfl | (push_cast; rfl) | (have := HM.out; omega) | simp)).1, by rw [← HL.out, List.drop_drop], (hk1.belowG hb2 hk1.size).then (hq2.put1' (p + m) (by omega) _ (by first | rfl | (push_cast; rfl) | (have := HM.out; omega) | simp)).2⟩
  · have hb : ((e1 : Int) == 0) = false := by simp [he]
    have E1 : Hid (rT s = ([], (l, e1))) := by show _ = _; rw [HT.out, rT']; simp [he]
    go_wp2_with fail
    go_ret
    unfold QTPost
    rw [E1.out]
    exact ⟨_, rfl, OwnB.empty _ _ _, p, h1, HL.out, hk1⟩

end Cam
