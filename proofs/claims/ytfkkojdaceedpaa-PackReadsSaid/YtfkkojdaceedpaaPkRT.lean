import Derived.Test.YtfkkojdaceedpaaPkRM
/- pack.Reader: Text. -/
namespace Cam
open Go Go.RowKit Go.Proofs

theorem rI_len (s : RS) : (rI s).2.1.length ≤ s.1.length := by
  unfold rI
  split
  · exact Nat.le_refl _
  · split
    · simp
    · exact Nat.le_refl _

theorem Kept.then {w w1 w2 : World} {g : Nat} (h : Kept (fun k => k = g) w w1) (h2 : Kept (fun k => k = g) w1 w2) : Kept (fun k => k = g) w w2 := h.trans h2 (fun _ _ h => h)
theorem Kept.belowG {w w1 w2 : World} {B g : Nat} (h : Kept (fun k => k = g) w w1) (h2 : Below B w1 w2) (hB : w.heap.size ≤ B) : Kept (fun k => k = g) w w2 :=
  h.trans (T := fun k => B ≤ k) ⟨h2.os, h2.tape, h2.output, h2.size, fun k _ hn => h2.block k (Nat.lt_of_not_le hn)⟩ (fun i hi ht => absurd hi (by omega))

/-- a text that is read: its bytes, copied -/
def RTPost (w : World) (g : Nat) (s : RS) (r : Ending) (w' : World) : Prop := ∃ v, r = .returned v ∧ OwnB 5 w' w.heap.size v (rT s).1 ∧ RD w' g (rT s).2 ∧ Kept (fun k => k = g) w w'

theorem RTPost.fin {w w1 w2 : World} {g : Nat} {s : RS} {l m : List UInt8} {e : Int} {v v3 vl : Value} (E : rT s = (m, (l, e))) (ho : OwnB 5 w2 w1.heap.size v ([] ++ m)) (hg : g < w1.heap.size) (hk1 : Kept (fun k => k = g) w w1) (hb : Below w1.heap.size w1 w2)
    (hh : w2.heap[g]? = some (.cells #[vl, .int .i64 e] 59 (0, 0))) (hl : Bs w2 v3 l) (hi : ∀ k, inBlock v3 k → k < g) : RTPost w g s (.returned v) (w2.setCell ⟨g, 0, none⟩ v3) := by
  obtain ⟨h1, h2⟩ := RD.setLeft hh hl hi
  refine ⟨v, rfl, ?_, ?_, (hk1.belowG hb hk1.size).then h2⟩
  · rw [E]
    refine OwnB.base (base := w1.heap.size) ?_ hk1.size
    refine ownsRow_setCell_other ho (a := ⟨g, 0, none⟩) (fun e => ?_) _
    have := (World.ownsRow.lt ho g e).1
    omega
  · rw [E]
    exact h1

set_option maxHeartbeats 1600000 in
theorem RText_any (w : World) (g : Nat) (s : RS) (h : RD w g s) (hlen : s.1.length ≤ 70368744177664) : Calls Try.prog 20 #[.pointer (some ⟨g, 0, none⟩)] w (RTPost w g s) := by
  have hi := RInt_any w g s h hlen
  have hil := rI_len s
  have HT : Hid (rT s = rT' (rI s).1 (rI s).2) := rfl
  obtain ⟨n, hn⟩ : ∃ n, n = (rI s).1 := ⟨_, rfl⟩
  obtain ⟨s1, hs1⟩ : ∃ s1, s1 = (rI s).2 := ⟨_, rfl⟩
  rw [← hn, ← hs1] at hi HT
  rw [← hs1] at hil
  clear hn hs1
  obtain ⟨l, e⟩ := s1
  simp only at hil
  go_enter Try.func20, Try.ntmps20
  go_wp2_with fail
  refine hi.mono ?_
  rintro r w1 ⟨rfl, h1, hk1⟩
  obtain ⟨a, c, hc0, hc1, hf0, hf1, hl, ha, hlc, hcm, hh⟩ := h1.cell
  simp only at hc0 hc1 hl ha hlc hh
  clear hi
  by_cases he : e = 0
  · subst he
    have hf4 := fail_any w1 g (l, 0) 4 h1
    have hf5 := fail_any w1 g (l, 0) 5 h1
    rw [show rFail (l, 0) 4 = (l, 4) by simp [rFail]] at hf4
    rw [show rFail (l, 0) 5 = (l, 5) by simp [rFail]] at hf5
    by_cases hbig : 65536 < n
    · have E1 : Hid (rT s = ([], (l, 5))) := by show _ = _; rw [HT.out, rT']; simp [hbig]
      clear hf4
      go_wp2_with fail
      refine hf5.mono ?_
      rintro r w2 ⟨rfl, h2, hk2⟩
      go_wp2_with fail
      go_ret
      unfold RTPost
      rw [E1.out]
      exact ⟨_, rfl, OwnB.empty _ _ _, h2, hk1.then hk2⟩
    · have hbig' : decide (65536 < n) = false := by simp; omega
      by_cases hbad : n < 0 ∨ (l.length : Int) < n
      · have E1 : Hid (rT s = ([], (l, 4))) := by
          show _ = _
          rw [HT.out, rT']
          simp only [ne_eq, not_true_eq_false, if_false, if_neg hbig, if_pos hbad]
        have hsp : n < 0 ∨ (decide (n < 0) = false ∧ (l.length : Int) < n) := by
          by_cases hn0 : n < 0
          · exact .inl hn0
          · refine .inr ⟨by simp; omega, by omega⟩
        clear hf5 hbad hbig
        rcases hsp with hn0 | ⟨hn0, hnl⟩
        all_goals
          go_wp2_with fail
          refine hf4.mono ?_
          rintro r w2 ⟨rfl, h2, hk2⟩
          go_wp2_with fail
          go_ret
          unfold RTPost
          rw [E1.out]
          exact ⟨_, rfl, OwnB.empty _ _ _, h2, hk1.then hk2⟩
      · have hn0 : decide (n < 0) = false := by simp; omega
        obtain ⟨m, rfl⟩ : ∃ m : Nat, n = (m : Int) := ⟨n.toNat, by omega⟩
        have hml : m ≤ l.length := by omega
        have hnl : decide ((l.length : Int) < (m : Int)) = false := by simp; omega
        have E1 : Hid (rT s = (l.take m, (l.drop m, 0))) := by
          show _ = _
          rw [HT.out, rT']
          simp only [ne_eq, not_true_eq_false, if_false, if_neg hbig, if_neg hbad, Int.toNat_natCast]
        have hcut := hl.cut 0 m (by omega) hml
        have hA : Below w1.heap.size w1 (w1.alloc (.cells #[] 5)) := (Below.refl _ _).alloc (Nat.le_refl _) _
        rw [List.drop_zero, Nat.sub_zero, Nat.sub_zero] at hcut
        have hcut' : Bs w1 (.slice a m c) (l.take m) := by
          by_cases hc0 : c = 0
          · rw [if_pos hc0] at hcut
            exact hcut
          · rw [if_neg hc0] at hcut
            cases a with
            | none => exact hcut
            | some ad => simpa [Addr.add] using hcut
        have hd0 : (w1.alloc (.cells #[] 5)).cell? ⟨g, 0, none⟩ = some (.slice a l.length c) := (hA.cell h1.lt).trans hc0
        have hcl : (l.take m).length = m := by rw [List.length_take]; omega
        have HG := Lib.hid h1.lt
        have hll : l.length ≤ 70368744177664 := by omega
        clear hf4 hf5 hbad hcut hil hbig
        by_cases hm0 : m = 0
        · subst hm0
          rw [List.take_zero] at hcut'
          go_wp2_with (first | (at_builtin; refine wpList_append_bytes rfl (.tmp 32) (.tmp 38) 25 rfl (l := []) (m := []) (base := w1.heap.size) elem_byte rfl rfl (OwnB.lit0 rfl) (hcut'.alloc _) (by simp) (by simp) ?_; intro a' n' c' w2 Hn' ho' hb' hg'; have hb2 : Below w1.heap.size w1 w2 := hA.trans hb'; have hd2 : w2.cell? ⟨g, 0, none⟩ = some (.slice a l.length c) := (hb2.cell HG.out).trans hc0; have hh2 := (hb2.block g HG.out).trans hh; have hf2 : w2.frozen? ⟨g, 0, none⟩ = false := (by unfold World.frozen?; rw [hh2]; rfl)))
          go_ret
          refine RTPost.fin E1.out ho' HG.out hk1 hb2 hh2 ?_ ?_
          · simpa using hl.mono hb2
          · exact ha
        · have hcu := hl.cut m l.length hml (Nat.le_refl _)
          rw [show (l.drop m).take (l.length - m) = l.drop m from List.take_of_length_le (by simp)] at hcu
          have hcn := fun n' c' => inBlock_cut (lo := m) (n' := n') (c' := c') ha
          have hcn := hcn (l.length - m) (c - m)
          by_cases hce : c = m
          all_goals
            have hcS := hcut'
            try rw [hce] at hcS
            clear hcut'
            go_wp2_with (first | (at_builtin; refine wpList_append_bytes rfl (.tmp 32) (.tmp 38) 25 rfl (l := []) (m := l.take m) (base := w1.heap.size) elem_byte rfl rfl (OwnB.lit0 rfl) (hcS.alloc _) (by simp; omega) (by simp) ?_; intro a' n' c' w2 Hn' ho' hb' hg'; have hb2 : Below w1.heap.size w1 w2 := hA.trans hb'; have hd2 : w2.cell? ⟨g, 0, none⟩ = some (.slice a l.length c) := (hb2.cell HG.out).trans hc0; have hh2 := (hb2.block g HG.out).trans hh; have hf2 : w2.frozen? ⟨g, 0, none⟩ = false := (by unfold World.frozen?; rw [hh2]; rfl)))
          all_goals
            go_ret
            refine RTPost.fin E1.out ho' HG.out hk1 hb2 hh2 ?_ ?_
          · rw [if_pos hce, hce, Nat.sub_self] at hcu
            exact hcu.mono hb2
          · rw [if_pos hce, hce, Nat.sub_self] at hcn
            exact hcn
          · rw [if_neg hce, Nat.mul_one] at hcu
            exact hcu.mono hb2
          · rw [if_neg hce, Nat.mul_one] at hcn
            exact hcn
  · have E1 : Hid (rT s = ([], (l, e))) := by show _ = _; rw [HT.out, rT']; simp [he]
    have hb : (e != 0) = true := by simp [he]
    go_wp2_with fail
    go_ret
    unfold RTPost
    rw [E1.out]
    exact ⟨_, rfl, OwnB.empty _ _ _, h1, hk1⟩

end Cam
