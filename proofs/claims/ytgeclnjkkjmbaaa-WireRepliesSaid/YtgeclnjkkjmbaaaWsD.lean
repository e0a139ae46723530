import Derived.Test.YtgeclnjkkjmbaaaWsB
/- cambistref24: few, sized, rightReply. -/
namespace Cam
open Go Go.RowKit Go.Proofs

theorem few_any (w : World) (n : Nat) : Calls Try.prog 61 #[.int .i64 n] w fun e w' => e = .returned (.bool (!decide (1024 < n))) ∧ Below w.heap.size w w' := by
  obtain ⟨d, hd⟩ : ∃ d, d = !decide (1024 < n) := ⟨_, rfl⟩
  rw [← hd]
  have HD := Lib.hid hd
  clear hd
  go_enter Try.func61, Try.ntmps61
  go_wp2_with fail
  go_ret
  refine ⟨?_, Below.refl _ _⟩
  rw [HD.out]
  by_cases h : 1024 < n
  · have h2 : ¬ ((n : Int) ≤ 1024) := by omega
    simp [h, h2]
  · have h2 : (n : Int) ≤ 1024 := by omega
    simp [h, h2]
theorem sized_any (w : World) (a : Option Addr) (c : Nat) (l : List UInt8) (e0 : Int) (v0 : Value) (h0 : (65536 < l.length ∧ e0 = 6 ∧ v0 = .slice none 0 0) ∨ (¬ 65536 < l.length ∧ e0 = 0 ∧ v0 = .slice a l.length c)) :
    Calls Try.prog 41 #[.slice a l.length c] w fun e w' => e = .returned (.tuple #[v0, .int .i64 e0]) ∧ w' = w := by
  rcases h0 with ⟨h, rfl, rfl⟩ | ⟨h, rfl, rfl⟩
  · go_enter Try.func41, Try.ntmps41
    go_wp2_with fail
    go_ret2
    exact ⟨rfl, rfl⟩
  · go_enter Try.func41, Try.ntmps41
    go_wp2_with fail
    go_ret2
    exact ⟨rfl, rfl⟩
set_option maxRecDepth 100000 in
theorem rightReply_any (w : World) (xc xn xa : Int) (vd vf : Value) (D : List DT) (F : List FT) (hd : Rs DT.vs 3 w vd D) (hf : Rs FT.vs 8 w vf F) :
    Calls Try.prog 40 #[.agg #[.int .i64 xc, .int .i64 xn, .int .i64 xa, vd, vf]] w fun e w' => e = .returned (.bool (!repW D F)) ∧ Below w.heap.size w w' := by
  obtain ⟨a1, c1, rfl, hc1, hm1⟩ := hd.shape
  obtain ⟨a2, c2, rfl, hc2, hm2⟩ := hf.shape
  have hb := (Below.refl w.heap.size w).alloc (Nat.le_refl _) (.cells #[.int .i64 xc, .int .i64 xn, .int .i64 xa, .slice a1 D.length c1, .slice a2 F.length c2] 41)
  have hc := HT.new (w := w) (t := 41) (C := [.int .i64 xc, .int .i64 xn, .int .i64 xa, .slice a1 D.length c1, .slice a2 F.length c2])
  have f1 := few_any (w.alloc (.cells #[.int .i64 xc, .int .i64 xn, .int .i64 xa, .slice a1 D.length c1, .slice a2 F.length c2] 41)) D.length
  obtain ⟨d, hd0⟩ : ∃ d, d = !repW D F := ⟨_, rfl⟩
  rw [← hd0]
  have HD := Lib.hid hd0
  have HB := Lib.hid hb
  have HC := Lib.hid hc
  clear hd0 hd hf hb hc
  by_cases h1 : 1024 < D.length
  · rw [decide_eq_true h1] at f1
    have HF : Hid (d = false) := by show _ = _; rw [HD.out]; simp [repW, h1]
    clear h1
    go_enter Try.func40, Try.ntmps40
    go_wp2_with fail
    refine f1.mono ?_
    clear f1
    rintro e w1 ⟨rfl, hb1⟩
    have HB1 := Lib.hid (bgo HB.out hb1 HB.out.size)
    clear hb1
    go_wp2_with fail
    go_ret
    exact ⟨by rw [HF.out]; rfl, HB1.out⟩
  · rw [decide_eq_false h1] at f1
    have HF : Hid (d = !decide (1024 < F.length)) := by show _ = _; rw [HD.out]; simp [repW, h1]
    clear h1
    go_enter Try.func40, Try.ntmps40
    go_wp2_with fail
    refine f1.mono ?_
    clear f1
    rintro e w1 ⟨rfl, hb1⟩
    have HB1 := Lib.hid (bgo HB.out hb1 HB.out.size)
    have q4 : w1.cell? ⟨w.heap.size, 4, none⟩ = some (.slice a2 F.length c2) := (HC.out.below hb1).cell (j := 4) rfl
    have f2 := few_any w1 F.length
    rw [← HF.out] at f2
    clear hb1
    go_wp2_with fail
    refine f2.mono ?_
    clear f2
    rintro e w2 ⟨rfl, hb2⟩
    have HB2 := Lib.hid (bgo HB1.out hb2 HB1.out.size)
    clear hb2
    go_wp2_with fail
    go_ret
    exact ⟨rfl, HB2.out⟩

end Cam
