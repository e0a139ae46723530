import Derived.Test.YtgeclnjkkjmbaaaWrZ
/- cambistkeep.Reply; cambistlaw24.long. -/
namespace Cam
open Go Go.RowKit Go.Proofs

set_option maxRecDepth 100000 in
set_option maxHeartbeats 3200000 in
theorem KReply_any (w : World) (xc xn xa yc yn ya : Int) (vd vf ud uf : Value) (D1 D2 : List DT) (F1 F2 : List FT) (hd1 : Rs DT.vs 3 w vd D1) (hf1 : Rs FT.vs 8 w vf F1) (hd2 : Rs DT.vs 3 w ud D2) (hf2 : Rs FT.vs 8 w uf F2) :
    Calls Try.prog 19 #[.agg #[.int .i64 xc, .int .i64 xn, .int .i64 xa, vd, vf], .agg #[.int .i64 yc, .int .i64 yn, .int .i64 ya, ud, uf]] w fun e w' => e = .returned (.bool (decide (xc = yc ∧ xn = yn ∧ xa = ya ∧ D1 = D2 ∧ F1 = F2))) ∧ Below w.heap.size w w' := by
  obtain ⟨a1, c1, rfl, hc1, hm1⟩ := hd1.shape
  obtain ⟨a2, c2, rfl, hc2, hm2⟩ := hf1.shape
  obtain ⟨a3, c3, rfl, hc3, hm3⟩ := hd2.shape
  obtain ⟨a4, c4, rfl, hc4, hm4⟩ := hf2.shape
  obtain ⟨d, hd⟩ : ∃ d : Bool, d = decide (xc = yc ∧ xn = yn ∧ xa = ya ∧ D1 = D2 ∧ F1 = F2) := ⟨_, rfl⟩
  rw [← hd]
  have hb2 := two_allocs w (.cells #[.int .i64 xc, .int .i64 xn, .int .i64 xa, .slice a1 D1.length c1, .slice a2 F1.length c2] 41) (.cells #[.int .i64 yc, .int .i64 yn, .int .i64 ya, .slice a3 D2.length c3, .slice a4 F2.length c4] 41)
  have HD := Lib.hid hd
  have HD1 := Lib.hid (hd1.mono hb2)
  have HF1 := Lib.hid (hf1.mono hb2)
  have HD2 := Lib.hid (hd2.mono hb2)
  have HF2 := Lib.hid (hf2.mono hb2)
  have HB2 := Lib.hid hb2
  clear hd hb2 hd1 hf1 hd2 hf2 hc1 hm1 hc2 hm2 hc3 hm3 hc4 hm4
  by_cases h0 : xc = yc
  case neg =>
    have e0 : (xc == yc) = false := by simp [h0]
    have HF : Hid (d = false) := by show _ = _; rw [HD.out]; simp [h0]
    clear h0
    go_enter Try.func19, Try.ntmps19
    go_wp2_with fail
    go_ret
    exact ⟨by rw [HF.out]; rfl, HB2.out⟩
  by_cases h1 : xn = yn
  case neg =>
    subst h0
    have e1 : (xn == yn) = false := by simp [h1]
    have HF : Hid (d = false) := by show _ = _; rw [HD.out]; simp [h1]
    clear h1
    go_enter Try.func19, Try.ntmps19
    go_wp2_with fail
    go_ret
    exact ⟨by rw [HF.out]; rfl, HB2.out⟩
  by_cases h2 : xa = ya
  case neg =>
    subst h0 h1
    have e2 : (xa == ya) = false := by simp [h2]
    have HF : Hid (d = false) := by show _ = _; rw [HD.out]; simp [h2]
    clear h2
    go_enter Try.func19, Try.ntmps19
    go_wp2_with fail
    go_ret
    exact ⟨by rw [HF.out]; rfl, HB2.out⟩
  subst h0 h1 h2
  have kd := KDues_any _ _ _ D1 D2 HD1.out HD2.out
  by_cases h3 : D1 = D2
  · rw [decide_eq_true h3] at kd
    have HDF : Hid (d = decide (F1 = F2)) := by show _ = _; rw [HD.out]; simp [h3]
    clear h3
    go_enter Try.func19, Try.ntmps19
    go_wp2_with fail
    refine kd.mono ?_
    clear kd
    rintro e w2 ⟨rfl, hb3⟩
    have kf := KFalls_any w2 _ _ F1 F2 (HF1.out.mono hb3) (HF2.out.mono hb3)
    rw [← HDF.out] at kf
    have HB3 := Lib.hid (bgo HB2.out hb3 HB2.out.size)
    have q4 : w2.cell? ⟨w.heap.size, 4, none⟩ = some (.slice a2 F1.length c2) := (HT.below (HT.below (HT.new (w := w) (t := 41) (C := [.int .i64 xc, .int .i64 xn, .int .i64 xa, .slice a1 D1.length c1, .slice a2 F1.length c2])) ((Below.refl _ _).alloc (Nat.le_refl _) _)) hb3).cell (j := 4) rfl
    have q5 : w2.cell? ⟨w.heap.size + 1, 4, none⟩ = some (.slice a4 F2.length c4) := by
      have := HT.new (w := w.alloc (.cells #[.int .i64 xc, .int .i64 xn, .int .i64 xa, .slice a1 D1.length c1, .slice a2 F1.length c2] 41)) (t := 41) (C := [.int .i64 xc, .int .i64 xn, .int .i64 xa, .slice a3 D2.length c3, .slice a4 F2.length c4])
      have h := (HT.below this hb3).cell (j := 4) rfl
      rwa [show (w.alloc (.cells #[.int .i64 xc, .int .i64 xn, .int .i64 xa, .slice a1 D1.length c1, .slice a2 F1.length c2] 41)).heap.size = w.heap.size + 1 by simp] at h
    clear hb3
    go_wp2_with fail
    refine kf.mono ?_
    clear kf
    rintro e w3 ⟨rfl, hb4⟩
    have HB4 := Lib.hid (bgo HB3.out hb4 HB3.out.size)
    clear hb4
    go_wp2_with fail
    go_ret
    exact ⟨rfl, HB4.out⟩
  · rw [decide_eq_false h3] at kd
    have HF : Hid (d = false) := by show _ = _; rw [HD.out]; simp [h3]
    clear h3
    go_enter Try.func19, Try.ntmps19
    go_wp2_with fail
    refine kd.mono ?_
    clear kd
    rintro e w2 ⟨rfl, hb3⟩
    have HB3 := Lib.hid (bgo HB2.out hb3 HB2.out.size)
    clear hb3
    go_wp2_with fail
    go_ret
    exact ⟨by rw [HF.out]; rfl, HB3.out⟩

end Cam
