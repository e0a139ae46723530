import Derived.Test.YtdihockdaccmdaaFaZ
import Derived.Test.YtdihockdaccmdaaFaWake
import Derived.Test.YtdihockdaccmdaaOpenS
import Derived.Test.YtdihockdaccmdaaOpenA
/- FallExact. -/
namespace Cam
open Go Go.RowKit Go.Proofs

theorem fallOf_ok {cur loss : Int} {l : List Int} {p0 p1 p2 p3 p4 : Int} (he : shareE cur loss l = 0) (hp : greedyP loss l = [p0, p1, p2, p3, p4]) : fallOf cur loss l = ⟨cur, loss, p0, p1, p2, p3, p4, greedyR loss l⟩ := by
  unfold fallOf
  rw [if_pos he, hp]
  rfl
theorem Share_all (w : World) (cur loss : Int) (v : Value) (l : List Int) (h : Is w v l) :
    Calls Try.prog 8 #[.int .i64 cur, .int .i64 loss, v] w fun e w' => e = .returned (.tuple #[.agg (fallOf cur loss l).vs.toArray, .int .i64 (shareE cur loss l)]) ∧ Below w.heap.size w w' := by
  rcases shareE_cases cur loss l with he | he
  · refine (Share_no w cur loss v l h he).mono ?_
    rintro e w' ⟨rfl, hb⟩
    refine ⟨?_, hb⟩
    unfold fallOf
    rw [if_neg (by omega), he]
    rfl
  · refine (Share_ok w cur loss v l h he).mono ?_
    rintro e w' ⟨p0, p1, p2, p3, p4, hp, rfl, hb⟩
    refine ⟨?_, hb⟩
    rw [fallOf_ok he hp, he]
    rfl
theorem rFall_all (w : World) (cur loss : Int) (v : Value) (l : List Int) (h : Is w v l) :
    Calls Try.prog 12 #[.int .i64 cur, .int .i64 loss, v] w fun e w' => e = .returned (.tuple #[.agg (fallOf cur loss l).vs.toArray, .int .i64 (shareE cur loss l)]) ∧ Below w.heap.size w w' := by
  rcases shareE_cases cur loss l with he | he
  · refine (rFall_no w cur loss v l h he).mono ?_
    rintro e w' ⟨rfl, hb⟩
    refine ⟨?_, hb⟩
    unfold fallOf
    rw [if_neg (by omega), he]
    rfl
  · refine (rFall_ok w cur loss v l h he).mono ?_
    rintro e w' ⟨p0, p1, p2, p3, p4, hp, rfl, hb⟩
    refine ⟨?_, hb⟩
    rw [fallOf_ok he hp, he]
    rfl
theorem fits_no {f : FT} {l : List Int} (h : shareE f.cur f.loss l ≠ 0) : fitsB f.cur f.loss [f.p0, f.p1, f.p2, f.p3, f.p4] f.r l = false := by
  unfold fitsB
  exact decide_eq_false (fun e => h e.1)
theorem fits_yes {f : FT} {l : List Int} (h : shareE f.cur f.loss l = 0) : fitsB f.cur f.loss [f.p0, f.p1, f.p2, f.p3, f.p4] f.r l = fEq f (fallOf f.cur f.loss l) := by
  obtain ⟨_, hl, _⟩ := shareE_zero _ _ _ h
  obtain ⟨p0, p1, p2, p3, p4, hp⟩ := five (l := greedyP f.loss l) (by rw [greedyP_length]; exact hl)
  rw [fallOf_ok h hp]
  unfold fitsB fEq
  rw [hp]
  simp [h, FT.ps]

theorem Fs.monoB' {w w' : World} {v : Value} {l : List FT} {B : Nat} (h : Fs w v l) (hb : Below B w w') (hB : w.heap.size = B) : Fs w' v l := h.mono (hB ▸ hb)

set_option maxRecDepth 100000 in
set_option maxHeartbeats 3200000 in
theorem FallExact_walk (w : World) (cur loss : Int) (v2 v4 : Value) (caps : List Int) (f : FT) (l : List FT) (h2 : Is w v2 caps) (h4 : Fs w v4 l) :
    Calls Try.prog 6 #[.int .i64 cur, .int .i64 loss, v2, .agg f.vs.toArray, v4] w fun e w' => e = .returned (.bool true) ∧ Below w.heap.size w w' := by
  obtain ⟨a2, c2, rfl, hc2, hm2⟩ := h2.shape
  obtain ⟨a4, c4, rfl, hc4, hm4⟩ := h4.shape
  have hb0 : Below w.heap.size w (w.alloc (.cells f.vs.toArray 24)) := (Below.refl _ _).alloc (Nat.le_refl _) _
  by_cases k0 : 300 < caps.length
  · have hi0 : (300 : Int) < (caps.length : Int) := by omega
    go_enter Try.func6, Try.ntmps6
    go_wp2_with fail
    go_ret
    exact ⟨rfl, hb0⟩
  have hi0 : decide ((300 : Int) < (caps.length : Int)) = false := by simp; omega
  by_cases k1 : 300 < l.length
  · have hi1 : (300 : Int) < (l.length : Int) := by omega
    go_enter Try.func6, Try.ntmps6
    go_wp2_with fail
    go_ret
    exact ⟨rfl, hb0⟩
  have hi1 : decide ((300 : Int) < (l.length : Int)) = false := by simp; omega
  have hf0 : FB (w.alloc (.cells f.vs.toArray 24)) w.heap.size f := heap_alloc_new w _
  have hll : caps.length ≤ 300 ∧ l.length ≤ 300 := by omega
  have H2 := Lib.hid h2
  have H4 := Lib.hid h4
  clear k0 k1 h2 h4
  go_enter Try.func6, Try.ntmps6
  go_wp2_with fail
  change Calls _ _ _ (w.alloc (.cells f.vs.toArray 24)) _
  generalize (w.alloc (.cells f.vs.toArray 24)) = W0 at *
  generalize hgf : w.heap.size = gf at *
  have HGF := Lib.hid hgf
  have HLE : Hid (gf ≤ w.heap.size) := by show _ ≤ _; omega
  clear hgf
  refine (TwinI_any W0 _ caps (H2.out.monoB hb0 (by rw [HGF.out]; exact Nat.le_refl _)) (by omega)).mono ?_
  rintro e w1 ⟨v1, rfl, ho1, hb1⟩
  obtain ⟨a1, n1, c1, rfl, Hn1, ho1⟩ := ho1.named
  have hf1 := hf0.below hb1 hf0.lt
  have hbw1 : Below gf w w1 := hb0.trans (hb1.mono (by have := hf0.lt; omega))
  clear hf0 hb0 hb1
  obtain ⟨A, hA⟩ : ∃ A, A = fallOf cur loss caps := ⟨_, rfl⟩
  obtain ⟨E, hE⟩ : ∃ E, E = shareE cur loss caps := ⟨_, rfl⟩
  have sh := Share_all w1 cur loss _ caps ho1.is
  have rf := fun W hW => rFall_all W cur loss (.slice a2 caps.length c2) caps hW
  rw [← hA, ← hE] at sh
  rw [← hA, ← hE] at rf
  clear hA hE
  go_wp2_with fail
  refine sh.mono ?_
  rintro e w2 ⟨rfl, hb2⟩
  have hf2 := hf1.below hb2 hf1.lt
  have ho2 := ho1.below hb2
  have hbw2 := Below.next' hbw1 hb2 HLE.out
  have hx2 : FB (w2.alloc (.cells A.vs.toArray 24)) w2.heap.size A := heap_alloc_new w2 _
  have hf2A := hf2.below ((Below.refl _ w2).alloc (Nat.le_refl _) (.cells A.vs.toArray 24)) hf2.lt
  have ho2A := ho2.alloc (.cells A.vs.toArray 24)
  have hbw2A := hbw2.alloc (by have := hf2.lt; omega) (.cells A.vs.toArray 24)
  clear sh hf1 ho1 hbw1 hb2 hf2 ho2 hbw2
  unfold FT.vs
  go_wp2_with fail
  change Calls _ _ _ (w2.alloc (.cells A.vs.toArray 24)) _
  generalize (w2.alloc (.cells A.vs.toArray 24)) = W2 at *
  generalize w2.heap.size = ga at *
  refine (rf W2 (H2.out.monoB hbw2A (by rw [HGF.out]; exact Nat.le_refl _))).mono ?_
  rintro e w3 ⟨rfl, hb3⟩
  have hf3 := hf2A.below hb3 hf2A.lt
  have hx3 := hx2.below hb3 hx2.lt
  have ho3 := ho2A.below hb3
  have hbw3 := Below.next' hbw2A hb3 HLE.out
  have hy3 : FB (w3.alloc (.cells A.vs.toArray 24)) w3.heap.size A := heap_alloc_new w3 _
  have hx3A := hx3.below ((Below.refl _ w3).alloc (Nat.le_refl _) (.cells A.vs.toArray 24)) hx3.lt
  have hf3A := hf3.below ((Below.refl _ w3).alloc (Nat.le_refl _) (.cells A.vs.toArray 24)) hf3.lt
  have ho3A := ho3.alloc (.cells A.vs.toArray 24)
  have hbw3A := hbw3.alloc (by have := hf3.lt; omega) (.cells A.vs.toArray 24)
  have x0 : (w3.alloc (.cells #[.int .i64 A.cur, .int .i64 A.loss, .int .i64 A.p0, .int .i64 A.p1, .int .i64 A.p2, .int .i64 A.p3, .int .i64 A.p4, .int .i64 A.r] 24)).cell? ⟨ga, 0, none⟩ = some (.int .i64 A.cur) := hx3A.cell 0 _ rfl
  have x1 : (w3.alloc (.cells #[.int .i64 A.cur, .int .i64 A.loss, .int .i64 A.p0, .int .i64 A.p1, .int .i64 A.p2, .int .i64 A.p3, .int .i64 A.p4, .int .i64 A.r] 24)).cell? ⟨ga, 1, none⟩ = some (.int .i64 A.loss) := hx3A.cell 1 _ rfl
  have x2 : (w3.alloc (.cells #[.int .i64 A.cur, .int .i64 A.loss, .int .i64 A.p0, .int .i64 A.p1, .int .i64 A.p2, .int .i64 A.p3, .int .i64 A.p4, .int .i64 A.r] 24)).cell? ⟨ga, 2, none⟩ = some (.int .i64 A.p0) := hx3A.cell 2 _ rfl
  have x3 : (w3.alloc (.cells #[.int .i64 A.cur, .int .i64 A.loss, .int .i64 A.p0, .int .i64 A.p1, .int .i64 A.p2, .int .i64 A.p3, .int .i64 A.p4, .int .i64 A.r] 24)).cell? ⟨ga, 3, none⟩ = some (.int .i64 A.p1) := hx3A.cell 3 _ rfl
  have x4 : (w3.alloc (.cells #[.int .i64 A.cur, .int .i64 A.loss, .int .i64 A.p0, .int .i64 A.p1, .int .i64 A.p2, .int .i64 A.p3, .int .i64 A.p4, .int .i64 A.r] 24)).cell? ⟨ga, 4, none⟩ = some (.int .i64 A.p2) := hx3A.cell 4 _ rfl
  have x5 : (w3.alloc (.cells #[.int .i64 A.cur, .int .i64 A.loss, .int .i64 A.p0, .int .i64 A.p1, .int .i64 A.p2, .int .i64 A.p3, .int .i64 A.p4, .int .i64 A.r] 24)).cell? ⟨ga, 5, none⟩ = some (.int .i64 A.p3) := hx3A.cell 5 _ rfl
  have x6 : (w3.alloc (.cells #[.int .i64 A.cur, .int .i64 A.loss, .int .i64 A.p0, .int .i64 A.p1, .int .i64 A.p2, .int .i64 A.p3, .int .i64 A.p4, .int .i64 A.r] 24)).cell? ⟨ga, 6, none⟩ = some (.int .i64 A.p4) := hx3A.cell 6 _ rfl
  have x7 : (w3.alloc (.cells #[.int .i64 A.cur, .int .i64 A.loss, .int .i64 A.p0, .int .i64 A.p1, .int .i64 A.p2, .int .i64 A.p3, .int .i64 A.p4, .int .i64 A.r] 24)).cell? ⟨ga, 7, none⟩ = some (.int .i64 A.r) := hx3A.cell 7 _ rfl
  have y0 : (w3.alloc (.cells #[.int .i64 A.cur, .int .i64 A.loss, .int .i64 A.p0, .int .i64 A.p1, .int .i64 A.p2, .int .i64 A.p3, .int .i64 A.p4, .int .i64 A.r] 24)).cell? ⟨w3.heap.size, 0, none⟩ = some (.int .i64 A.cur) := hy3.cell 0 _ rfl
  have y1 : (w3.alloc (.cells #[.int .i64 A.cur, .int .i64 A.loss, .int .i64 A.p0, .int .i64 A.p1, .int .i64 A.p2, .int .i64 A.p3, .int .i64 A.p4, .int .i64 A.r] 24)).cell? ⟨w3.heap.size, 1, none⟩ = some (.int .i64 A.loss) := hy3.cell 1 _ rfl
  have y2 : (w3.alloc (.cells #[.int .i64 A.cur, .int .i64 A.loss, .int .i64 A.p0, .int .i64 A.p1, .int .i64 A.p2, .int .i64 A.p3, .int .i64 A.p4, .int .i64 A.r] 24)).cell? ⟨w3.heap.size, 2, none⟩ = some (.int .i64 A.p0) := hy3.cell 2 _ rfl
  have y3 : (w3.alloc (.cells #[.int .i64 A.cur, .int .i64 A.loss, .int .i64 A.p0, .int .i64 A.p1, .int .i64 A.p2, .int .i64 A.p3, .int .i64 A.p4, .int .i64 A.r] 24)).cell? ⟨w3.heap.size, 3, none⟩ = some (.int .i64 A.p1) := hy3.cell 3 _ rfl
  have y4 : (w3.alloc (.cells #[.int .i64 A.cur, .int .i64 A.loss, .int .i64 A.p0, .int .i64 A.p1, .int .i64 A.p2, .int .i64 A.p3, .int .i64 A.p4, .int .i64 A.r] 24)).cell? ⟨w3.heap.size, 4, none⟩ = some (.int .i64 A.p2) := hy3.cell 4 _ rfl
  have y5 : (w3.alloc (.cells #[.int .i64 A.cur, .int .i64 A.loss, .int .i64 A.p0, .int .i64 A.p1, .int .i64 A.p2, .int .i64 A.p3, .int .i64 A.p4, .int .i64 A.r] 24)).cell? ⟨w3.heap.size, 5, none⟩ = some (.int .i64 A.p3) := hy3.cell 5 _ rfl
  have y6 : (w3.alloc (.cells #[.int .i64 A.cur, .int .i64 A.loss, .int .i64 A.p0, .int .i64 A.p1, .int .i64 A.p2, .int .i64 A.p3, .int .i64 A.p4, .int .i64 A.r] 24)).cell? ⟨w3.heap.size, 6, none⟩ = some (.int .i64 A.p4) := hy3.cell 6 _ rfl
  have y7 : (w3.alloc (.cells #[.int .i64 A.cur, .int .i64 A.loss, .int .i64 A.p0, .int .i64 A.p1, .int .i64 A.p2, .int .i64 A.p3, .int .i64 A.p4, .int .i64 A.r] 24)).cell? ⟨w3.heap.size, 7, none⟩ = some (.int .i64 A.r) := hy3.cell 7 _ rfl
  clear rf hf2A hx2 ho2A hbw2A hb3 hf3 hx3 ho3 hbw3
  unfold FT.vs
  go_wp2_with fail
  have kf := keepFall_any (w3.alloc (.cells A.vs.toArray 24)) A A
  rw [fEq_refl] at kf
  refine kf.mono ?_
  rintro e w4 ⟨rfl, hb4⟩
  have hf4 := hf3A.below hb4 hf3A.lt
  have ho4 := ho3A.below hb4
  have hbw4 := Below.next' hbw3A hb4 HLE.out
  have ki := Ints_any w4 _ _ caps caps ho4.is (H2.out.monoB hbw4 (by rw [HGF.out]; exact Nat.le_refl _))
  rw [decide_eq_true rfl] at ki
  clear kf hf3A ho3A hbw3A hb4 hx3A hy3 x0 x1 x2 x3 x4 x5 x6 x7 y0 y1 y2 y3 y4 y5 y6 y7
  go_wp2_with fail
  refine ki.mono ?_
  rintro e w5 ⟨rfl, hb5⟩
  have hf5 := hf4.below hb5 hf4.lt
  have hbw5 := Below.next' hbw4 hb5 HLE.out
  have f0 := hf5.cell 0 _ rfl
  have f1 := hf5.cell 1 _ rfl
  obtain ⟨C, hC⟩ : ∃ C, C = fallOf f.cur f.loss caps := ⟨_, rfl⟩
  obtain ⟨E2, hE2⟩ : ∃ E, E = shareE f.cur f.loss caps := ⟨_, rfl⟩
  have rf := rFall_all w5 f.cur f.loss (.slice a2 caps.length c2) caps (H2.out.monoB hbw5 (by rw [HGF.out]; exact Nat.le_refl _))
  rw [← hC, ← hE2] at rf
  have HC := Lib.hid hC
  have HE2 := Lib.hid hE2
  clear ki hf4 ho4 hbw4 hb5 hC hE2
  go_wp2_with fail
  refine rf.mono ?_
  rintro e w6 ⟨rfl, hb6⟩
  have hf6 := hf5.below hb6 hf5.lt
  have hbw6 := Below.next' hbw5 hb6 HLE.out
  have hc6 : FB (w6.alloc (.cells C.vs.toArray 24)) w6.heap.size C := heap_alloc_new w6 _
  have hf6A := hf6.below ((Below.refl _ w6).alloc (Nat.le_refl _) (.cells C.vs.toArray 24)) hf6.lt
  have hbw6A := hbw6.alloc (by have := hf6.lt; omega) (.cells C.vs.toArray 24)
  have q0 : (w6.alloc (.cells #[.int .i64 C.cur, .int .i64 C.loss, .int .i64 C.p0, .int .i64 C.p1, .int .i64 C.p2, .int .i64 C.p3, .int .i64 C.p4, .int .i64 C.r] 24)).cell? ⟨gf, 0, none⟩ = some (.int .i64 f.cur) := hf6A.cell 0 _ rfl
  have q1 : (w6.alloc (.cells #[.int .i64 C.cur, .int .i64 C.loss, .int .i64 C.p0, .int .i64 C.p1, .int .i64 C.p2, .int .i64 C.p3, .int .i64 C.p4, .int .i64 C.r] 24)).cell? ⟨gf, 1, none⟩ = some (.int .i64 f.loss) := hf6A.cell 1 _ rfl
  have q2 : (w6.alloc (.cells #[.int .i64 C.cur, .int .i64 C.loss, .int .i64 C.p0, .int .i64 C.p1, .int .i64 C.p2, .int .i64 C.p3, .int .i64 C.p4, .int .i64 C.r] 24)).cell? ⟨gf, 2, none⟩ = some (.int .i64 f.p0) := hf6A.cell 2 _ rfl
  have q3 : (w6.alloc (.cells #[.int .i64 C.cur, .int .i64 C.loss, .int .i64 C.p0, .int .i64 C.p1, .int .i64 C.p2, .int .i64 C.p3, .int .i64 C.p4, .int .i64 C.r] 24)).cell? ⟨gf, 3, none⟩ = some (.int .i64 f.p1) := hf6A.cell 3 _ rfl
  have q4 : (w6.alloc (.cells #[.int .i64 C.cur, .int .i64 C.loss, .int .i64 C.p0, .int .i64 C.p1, .int .i64 C.p2, .int .i64 C.p3, .int .i64 C.p4, .int .i64 C.r] 24)).cell? ⟨gf, 4, none⟩ = some (.int .i64 f.p2) := hf6A.cell 4 _ rfl
  have q5 : (w6.alloc (.cells #[.int .i64 C.cur, .int .i64 C.loss, .int .i64 C.p0, .int .i64 C.p1, .int .i64 C.p2, .int .i64 C.p3, .int .i64 C.p4, .int .i64 C.r] 24)).cell? ⟨gf, 5, none⟩ = some (.int .i64 f.p3) := hf6A.cell 5 _ rfl
  have q6 : (w6.alloc (.cells #[.int .i64 C.cur, .int .i64 C.loss, .int .i64 C.p0, .int .i64 C.p1, .int .i64 C.p2, .int .i64 C.p3, .int .i64 C.p4, .int .i64 C.r] 24)).cell? ⟨gf, 6, none⟩ = some (.int .i64 f.p4) := hf6A.cell 6 _ rfl
  have q7 : (w6.alloc (.cells #[.int .i64 C.cur, .int .i64 C.loss, .int .i64 C.p0, .int .i64 C.p1, .int .i64 C.p2, .int .i64 C.p3, .int .i64 C.p4, .int .i64 C.r] 24)).cell? ⟨gf, 7, none⟩ = some (.int .i64 f.r) := hf6A.cell 7 _ rfl
  have fi := Fits_any (w6.alloc (.cells C.vs.toArray 24)) f.cur f.loss f.p0 f.p1 f.p2 f.p3 f.p4 f.r _ caps (H2.out.monoB hbw6A (by rw [HGF.out]; exact Nat.le_refl _))
  clear rf hf5 f0 f1 hbw5 hb6 hf6 hbw6
  unfold FT.vs
  go_wp2_with fail
  obtain ⟨z, hz⟩ : ∃ z, z = fitsB f.cur f.loss [f.p0, f.p1, f.p2, f.p3, f.p4] f.r caps := ⟨_, rfl⟩
  rw [← hz] at fi
  have HZ := Lib.hid hz
  clear hz q0 q1 q2 q3 q4 q5 q6 q7
  refine fi.mono ?_
  rintro e w7 ⟨rfl, hb7⟩
  have hf7 := hf6A.below hb7 hf6A.lt
  have hc7 := hc6.below hb7 hc6.lt
  have hbw7 := Below.next' hbw6A hb7 HLE.out
  clear fi hf6A hc6 hbw6A hb7
  have su := fun W hW => fallSum_any W (.slice a4 l.length c4) l hW (by omega)
  have rs := fun W hW => rFallSum_any W (.slice a4 l.length c4) l hW (by omega)
  generalize fsC l = X at *
  generalize fsR l = Y at *
  generalize fsE l = Z at *
  by_cases hz : E2 = 0
  · have hzz : z = fEq f C := by rw [HZ.out, fits_yes (by rw [← HE2.out]; exact hz), ← HC.out]
    have kf := fun W => keepFall_any W f C
    rw [← hzz] at kf
    subst hz
    have q0 := hf7.cell 0 _ rfl
    have q1 := hf7.cell 1 _ rfl
    have q2 := hf7.cell 2 _ rfl
    have q3 := hf7.cell 3 _ rfl
    have q4 := hf7.cell 4 _ rfl
    have q5 := hf7.cell 5 _ rfl
    have q6 := hf7.cell 6 _ rfl
    have q7 := hf7.cell 7 _ rfl
    have t0 := hc7.cell 0 _ rfl
    have t1 := hc7.cell 1 _ rfl
    have t2 := hc7.cell 2 _ rfl
    have t3 := hc7.cell 3 _ rfl
    have t4 := hc7.cell 4 _ rfl
    have t5 := hc7.cell 5 _ rfl
    have t6 := hc7.cell 6 _ rfl
    have t7 := hc7.cell 7 _ rfl
    clear hzz hc7
    go_wp2_with fail
    refine (kf _).mono ?_
    rintro e w8 ⟨rfl, hb8⟩
    have hbw8 := Below.next' hbw7 hb8 HLE.out
    have su8 := su w8 (Fs.monoB' H4.out hbw8 HGF.out)
    clear kf hb8 hbw7 q0 q1 q2 q3 q4 q5 q6 q7 t0 t1 t2 t3 t4 t5 t6 t7 hf7
    go_wp2_with fail
    refine su8.mono ?_
    rintro e w9 ⟨rfl, hb9⟩
    have hbw9 := Below.next' hbw8 hb9 HLE.out
    have rs9 := rs w9 (Fs.monoB' H4.out hbw9 HGF.out)
    clear su su8 rs hbw8 hb9
    go_wp2_with fail
    refine rs9.mono ?_
    rintro e w10 ⟨rfl, hb10⟩
    have hbw10 := Below.next' hbw9 hb10 HLE.out
    clear rs9 hbw9 hb10
    go_wp2_with fail
    refine (wakes_any _).mono ?_
    rintro e w11 ⟨rfl, hb11⟩
    go_wp2_with fail
    go_ret
    exact ⟨rfl, by rw [HGF.out]; exact Below.next' hbw10 hb11 HLE.out⟩
  · have hzz : z = false := by rw [HZ.out, fits_no (by rw [← HE2.out]; exact hz)]
    have hzb : (E2 == 0) = false := by simpa using hz
    subst hzz
    have su8 := su w7 (Fs.monoB' H4.out hbw7 HGF.out)
    clear hf7 hc7
    go_wp2_with fail
    refine su8.mono ?_
    rintro e w9 ⟨rfl, hb9⟩
    have hbw9 := Below.next' hbw7 hb9 HLE.out
    have rs9 := rs w9 (Fs.monoB' H4.out hbw9 HGF.out)
    clear su su8 rs hbw7 hb9
    go_wp2_with fail
    refine rs9.mono ?_
    rintro e w10 ⟨rfl, hb10⟩
    have hbw10 := Below.next' hbw9 hb10 HLE.out
    clear rs9 hbw9 hb10
    go_wp2_with fail
    refine (wakes_any _).mono ?_
    rintro e w11 ⟨rfl, hb11⟩
    go_wp2_with fail
    go_ret
    exact ⟨rfl, by rw [HGF.out]; exact Below.next' hbw10 hb11 HLE.out⟩

end Cam
