import Derived.Test.YtgeclnjkkjmbaaaWrN
import Derived.Test.YtgeclnjkkjmbaaaWsB
/- cambistlaw24.WireUnlike. -/
namespace Cam
open Go Go.RowKit Go.Proofs

def UnW (w wX : World) (g0 g1 g2 g3 : Nat) (CX CY CR CQ : List Value) (vd vf ud uf : Value) (D1 D2 : List DT) (F1 F2 : List FT) : Prop :=
  HT wX g0 24 CX ∧ HT wX g1 24 CY ∧ HT wX g2 41 CR ∧ HT wX g3 41 CQ ∧ Rs DT.vs 3 wX vd D1 ∧ Rs FT.vs 8 wX vf F1 ∧ Rs DT.vs 3 wX ud D2 ∧ Rs FT.vs 8 wX uf F2 ∧ Below w.heap.size w wX
theorem UnW.next {w wX w' : World} {g0 g1 g2 g3 : Nat} {CX CY CR CQ : List Value} {vd vf ud uf : Value} {D1 D2 : List DT} {F1 F2 : List FT} (h : UnW w wX g0 g1 g2 g3 CX CY CR CQ vd vf ud uf D1 D2 F1 F2) (hb : Below wX.heap.size wX w') : UnW w w' g0 g1 g2 g3 CX CY CR CQ vd vf ud uf D1 D2 F1 F2 := by
  obtain ⟨h1, h2, h3, h4, h5, h6, h7, h8, h9⟩ := h
  exact ⟨h1.below hb, h2.below hb, h3.below hb, h4.below hb, h5.mono hb, h6.mono hb, h7.mono hb, h8.mono hb, bgo h9 hb h9.size⟩
theorem four_boxes (w : World) (CX CY CR CQ : List Value) {vd vf ud uf : Value} {D1 D2 : List DT} {F1 F2 : List FT} (h5 : Rs DT.vs 3 w vd D1) (h6 : Rs FT.vs 8 w vf F1) (h7 : Rs DT.vs 3 w ud D2) (h8 : Rs FT.vs 8 w uf F2) :
    UnW w ((((w.alloc (.cells CX.toArray 24)).alloc (.cells CY.toArray 24)).alloc (.cells CR.toArray 41)).alloc (.cells CQ.toArray 41)) w.heap.size (w.heap.size + 1) (w.heap.size + 1 + 1) (w.heap.size + 1 + 1 + 1) CX CY CR CQ vd vf ud uf D1 D2 F1 F2 := by
  have al : ∀ (u : World) (o : Obj), Below u.heap.size u (u.alloc o) := fun u o => (Below.refl _ _).alloc (Nat.le_refl _) _
  have b1 := al w (.cells CX.toArray 24)
  have b2 := al (w.alloc (.cells CX.toArray 24)) (.cells CY.toArray 24)
  have b3 := al ((w.alloc (.cells CX.toArray 24)).alloc (.cells CY.toArray 24)) (.cells CR.toArray 41)
  have b4 := al (((w.alloc (.cells CX.toArray 24)).alloc (.cells CY.toArray 24)).alloc (.cells CR.toArray 41)) (.cells CQ.toArray 41)
  have hb := bgo (bgo (bgo b1 b2 b1.size) b3 (bgo b1 b2 b1.size).size) b4 (bgo (bgo b1 b2 b1.size) b3 (bgo b1 b2 b1.size).size).size
  have n0 := HT.new (w := w) (t := 24) (C := CX)
  have n1 := HT.new (w := w.alloc (.cells CX.toArray 24)) (t := 24) (C := CY)
  have n2 := HT.new (w := (w.alloc (.cells CX.toArray 24)).alloc (.cells CY.toArray 24)) (t := 41) (C := CR)
  have n3 := HT.new (w := ((w.alloc (.cells CX.toArray 24)).alloc (.cells CY.toArray 24)).alloc (.cells CR.toArray 41)) (t := 41) (C := CQ)
  rw [show (w.alloc (.cells CX.toArray 24)).heap.size = w.heap.size + 1 by simp] at n1
  rw [show ((w.alloc (.cells CX.toArray 24)).alloc (.cells CY.toArray 24)).heap.size = w.heap.size + 1 + 1 by simp] at n2
  rw [show (((w.alloc (.cells CX.toArray 24)).alloc (.cells CY.toArray 24)).alloc (.cells CR.toArray 41)).heap.size = w.heap.size + 1 + 1 + 1 by simp] at n3
  exact ⟨((n0.below b2).below b3).below b4, (n1.below b3).below b4, n2.below b4, n3, h5.mono hb, h6.mono hb, h7.mono hb, h8.mono hb, hb⟩
theorem repSize : (Try.prog.info? 41).map (·.size) = some 5 := by kernel_rfl
theorem bL_false {l : List UInt8} (h : l.length ≤ 65536) : bL false l = l ∧ bE false l = 0 := by unfold bL bE; simp; omega
theorem bE_two (b : Bool) (l : List UInt8) : (bE b l = 0 ∧ bL b l = l ∧ b = false) ∨ bE b l = 6 := by
  unfold bE bL
  split
  · exact .inr rfl
  · rename_i h
    exact .inl ⟨rfl, rfl, by simpa using fun e => h (.inl e)⟩
set_option maxRecDepth 100000 in
set_option maxHeartbeats 6400000 in
theorem WireUnlike_walk (w : World) (x0 x1 x2 x3 x4 x5 x6 x7 x8 x9 x10 x11 x12 x13 x14 x15 x16 y0 y1 y2 y3 y4 y5 y6 y7 y8 y9 y10 y11 y12 y13 y14 y15 y16 : Int) (xc xn xa yc yn ya : Int) (vd vf ud uf : Value) (D1 D2 : List DT) (F1 F2 : List FT) (hrx : okI [x0, x1, x2, x3, x4, x5, x6, x7, x8, x9, x10, x11, x12, x13, x14, x15, x16]) (hry : okI [y0, y1, y2, y3, y4, y5, y6, y7, y8, y9, y10, y11, y12, y13, y14, y15, y16]) (hrr : okI [xc, xn, xa]) (hrq : okI [yc, yn, ya])
    (hd1 : Rs DT.vs 3 w vd D1) (hf1 : Rs FT.vs 8 w vf F1) (hd2 : Rs DT.vs 3 w ud D2) (hf2 : Rs FT.vs 8 w uf F2) (kd1 : ∀ x ∈ D1, okI x.ints) (kd2 : ∀ x ∈ D2, okI x.ints) (kf1 : ∀ x ∈ F1, okI x.ints) (kf2 : ∀ x ∈ F2, okI x.ints) :
    Calls Try.prog 4 #[.agg #[.int .i64 x0, .int .i64 x1, .int .i64 x2, .int .i64 x3, .int .i64 x4, .int .i64 x5, .int .i64 x6, .int .i64 x7, .int .i64 x8, .int .i64 x9, .int .i64 x10, .int .i64 x11, .int .i64 x12, .int .i64 x13, .int .i64 x14, .int .i64 x15, .int .i64 x16], .agg #[.int .i64 y0, .int .i64 y1, .int .i64 y2, .int .i64 y3, .int .i64 y4, .int .i64 y5, .int .i64 y6, .int .i64 y7, .int .i64 y8, .int .i64 y9, .int .i64 y10, .int .i64 y11, .int .i64 y12, .int .i64 y13, .int .i64 y14, .int .i64 y15, .int .i64 y16], .agg #[.int .i64 xc, .int .i64 xn, .int .i64 xa, vd, vf], .agg #[.int .i64 yc, .int .i64 yn, .int .i64 ya, ud, uf]] w fun e w' => e = .returned (.bool true) ∧ Below w.heap.size w w' := by
  obtain ⟨a1, c1, rfl, _, _⟩ := hd1.shape
  obtain ⟨a2, c2, rfl, _, _⟩ := hf1.shape
  obtain ⟨a3, c3, rfl, _, _⟩ := hd2.shape
  obtain ⟨a4, c4, rfl, _, _⟩ := hf2.shape
  have hu := four_boxes w [.int .i64 x0, .int .i64 x1, .int .i64 x2, .int .i64 x3, .int .i64 x4, .int .i64 x5, .int .i64 x6, .int .i64 x7, .int .i64 x8, .int .i64 x9, .int .i64 x10, .int .i64 x11, .int .i64 x12, .int .i64 x13, .int .i64 x14, .int .i64 x15, .int .i64 x16] [.int .i64 y0, .int .i64 y1, .int .i64 y2, .int .i64 y3, .int .i64 y4, .int .i64 y5, .int .i64 y6, .int .i64 y7, .int .i64 y8, .int .i64 y9, .int .i64 y10, .int .i64 y11, .int .i64 y12, .int .i64 y13, .int .i64 y14, .int .i64 y15, .int .i64 y16] [.int .i64 xc, .int .i64 xn, .int .i64 xa, .slice a1 D1.length c1, .slice a2 F1.length c2] [.int .i64 yc, .int .i64 yn, .int .i64 ya, .slice a3 D2.length c3, .slice a4 F2.length c4] hd1 hf1 hd2 hf2
  have lr := long_any _ xc xn xa _ _ D1 F1 hu.2.2.2.2.1 hu.2.2.2.2.2.1
  have HRX := Lib.hid hrx
  have HRY := Lib.hid hry
  have HRR := Lib.hid (⟨hrr, hrq, kd1, kd2, kf1, kf2⟩ : _ ∧ _ ∧ _ ∧ _ ∧ _ ∧ _)
  obtain ⟨dxy, hdxy⟩ : ∃ d : Bool, decide ([x0, x1, x2, x3, x4, x5, x6, x7, x8, x9, x10, x11, x12, x13, x14, x15, x16] = [y0, y1, y2, y3, y4, y5, y6, y7, y8, y9, y10, y11, y12, y13, y14, y15, y16]) = d := ⟨_, rfl⟩
  have HXY : Hid (decide ([x0, x1, x2, x3, x4, x5, x6, x7, x8, x9, x10, x11, x12, x13, x14, x15, x16] = [y0, y1, y2, y3, y4, y5, y6, y7, y8, y9, y10, y11, y12, y13, y14, y15, y16]) = dxy ∧ decide (encIs [x0, x1, x2, x3, x4, x5, x6, x7, x8, x9, x10, x11, x12, x13, x14, x15, x16] = encIs [y0, y1, y2, y3, y4, y5, y6, y7, y8, y9, y10, y11, y12, y13, y14, y15, y16]) = dxy) := ⟨hdxy, by rw [← hdxy, decide_eq_decide]; exact encIs_inj hrx hry rfl⟩
  have HG2 : Hid (((((w.alloc (.cells #[.int .i64 x0, .int .i64 x1, .int .i64 x2, .int .i64 x3, .int .i64 x4, .int .i64 x5, .int .i64 x6, .int .i64 x7, .int .i64 x8, .int .i64 x9, .int .i64 x10, .int .i64 x11, .int .i64 x12, .int .i64 x13, .int .i64 x14, .int .i64 x15, .int .i64 x16] 24)).alloc (.cells #[.int .i64 y0, .int .i64 y1, .int .i64 y2, .int .i64 y3, .int .i64 y4, .int .i64 y5, .int .i64 y6, .int .i64 y7, .int .i64 y8, .int .i64 y9, .int .i64 y10, .int .i64 y11, .int .i64 y12, .int .i64 y13, .int .i64 y14, .int .i64 y15, .int .i64 y16] 24)).alloc (.cells #[.int .i64 xc, .int .i64 xn, .int .i64 xa, .slice a1 D1.length c1, .slice a2 F1.length c2] 41)).alloc (.cells #[.int .i64 yc, .int .i64 yn, .int .i64 ya, .slice a3 D2.length c3, .slice a4 F2.length c4] 41)).heap[w.heap.size + 1 + 1]? = some (.cells #[.int .i64 xc, .int .i64 xn, .int .i64 xa, .slice a1 D1.length c1, .slice a2 F1.length c2] 41 (0, 0))) := hu.2.2.1
  have HSR : Hid ((Try.prog.info? 41).map (·.size) = some (#[.int .i64 xc, .int .i64 xn, .int .i64 xa, .slice a1 D1.length c1, .slice a2 F1.length c2] : Array Value).size) := by show _ = _; rw [repSize]; rfl
  have HSQ : Hid ((Try.prog.info? 41).map (·.size) = some (#[.int .i64 yc, .int .i64 yn, .int .i64 ya, .slice a3 D2.length c3, .slice a4 F2.length c4] : Array Value).size) := by show _ = _; rw [repSize]; rfl
  have HU0 := Lib.hid hu
  clear hu hrx hry hrr hrq hd1 hf1 hd2 hf2 kd1 kd2 kf1 kf2 hdxy
  go_enter Try.func4, Try.ntmps4
  go_wp2_with (first
    | (refine wpList_load_row rfl 41 (.tmp 6) rfl (w.heap.size + 1 + 1) rfl 41 #[.int .i64 xc, .int .i64 xn, .int .i64 xa, .slice a1 D1.length c1, .slice a2 F1.length c2] (0, 0) _ HG2.out Try.underlying41 rfl HSR.out ?_)
    | fail)
  refine lr.mono ?_
  clear lr
  rintro e w1 ⟨rfl, hb1⟩
  have HU1 := Lib.hid (HU0.out.next hb1)
  clear hb1 HU0 HG2
  obtain ⟨r1, hr1⟩ : ∃ b, b = repL D1 F1 := ⟨_, rfl⟩
  rw [← hr1]
  clear hr1
  cases r1 with
  | true =>
    go_wp2_with fail
    go_ret
    exact ⟨rfl, HU1.out.2.2.2.2.2.2.2.2⟩
  | false =>
  have q0 : w1.cell? ⟨w.heap.size + 1 + 1 + 1, 0, none⟩ = some (.int .i64 yc) := HU1.out.2.2.2.1.cell (j := 0) rfl
  have q1 : w1.cell? ⟨w.heap.size + 1 + 1 + 1, 1, none⟩ = some (.int .i64 yn) := HU1.out.2.2.2.1.cell (j := 1) rfl
  have q2 : w1.cell? ⟨w.heap.size + 1 + 1 + 1, 2, none⟩ = some (.int .i64 ya) := HU1.out.2.2.2.1.cell (j := 2) rfl
  have q3 : w1.cell? ⟨w.heap.size + 1 + 1 + 1, 3, none⟩ = some (.slice a3 D2.length c3) := HU1.out.2.2.2.1.cell (j := 3) rfl
  have q4 : w1.cell? ⟨w.heap.size + 1 + 1 + 1, 4, none⟩ = some (.slice a4 F2.length c4) := HU1.out.2.2.2.1.cell (j := 4) rfl
  have lq := long_any w1 yc yn ya _ _ D2 F2 HU1.out.2.2.2.2.2.2.1 HU1.out.2.2.2.2.2.2.2.1
  go_wp2_with fail
  refine lq.mono ?_
  clear lq q0 q1 q2 q3 q4
  rintro e w2 ⟨rfl, hb2⟩
  have HU2 := Lib.hid (HU1.out.next hb2)
  clear hb2 HU1
  obtain ⟨r2, hr2⟩ : ∃ b, b = repL D2 F2 := ⟨_, rfl⟩
  rw [← hr2]
  clear hr2
  cases r2 with
  | true =>
    go_wp2_with fail
    go_ret
    exact ⟨rfl, HU2.out.2.2.2.2.2.2.2.2⟩
  | false =>
  generalize hg3 : w.heap.size + 1 + 1 + 1 = g3 at HU2 ⊢
  generalize hg2 : w.heap.size + 1 + 1 = g2 at HU2 ⊢
  generalize hg1 : w.heap.size + 1 = g1 at HU2 ⊢
  generalize hg0 : w.heap.size = g0 at HU2 ⊢
  clear hg0 hg1 hg2 hg3
  generalize w2 = W at HU2 ⊢
  have HU := HU2
  go_upto_region 3 with fail
  go_cut [27] (fun v27 wx => ∃ u : Unit, v27 = .bool false ∧ Below W.heap.size W wx)
  case first =>
    refine wp_region_bl 9 (by kernel_rfl) ?_
    refine wpAnyU_take (i := 0) (oi := { dst := some 19, op := Op.load 24 (Operand.tmp 4), type := 24, pos := "more.go:14", after := #[], guard := none }) (v := (.agg #[.int .i64 x0, .int .i64 x1, .int .i64 x2, .int .i64 x3, .int .i64 x4, .int .i64 x5, .int .i64 x6, .int .i64 x7, .int .i64 x8, .int .i64 x9, .int .i64 x10, .int .i64 x11, .int .i64 x12, .int .i64 x13, .int .i64 x14, .int .i64 x15, .int .i64 x16])) rfl (by kernel_rfl) (by kernel_rfl) (by kernel_rfl) (by kernel_rfl) (by kernel_rfl) (fun _ _ _ h => h) (BL.cls W) ?_ ?_
    · refine Or.inl ⟨rfl, fun w hSw => ?_⟩
      exact eff_load_mid 24 (.tmp 4) rfl g0 0 rfl [.int .i64 x0, .int .i64 x1, .int .i64 x2, .int .i64 x3, .int .i64 x4, .int .i64 x5, .int .i64 x6, .int .i64 x7, .int .i64 x8, .int .i64 x9, .int .i64 x10, .int .i64 x11, .int .i64 x12, .int .i64 x13, .int .i64 x14, .int .i64 x15, .int .i64 x16] _ (fun j v h => by rw [Nat.zero_add]; exact BL.cell hSw (HU.out.1.cell h)) Try.underlying24 rfl (by rw [cmdSize]; rfl)
    try simp only [Act.put, List.setIfInBounds_toArray, List.set_cons_zero, List.set_cons_succ]
    refine wpAnyU_take (i := 2) (oi := { dst := some 21, op := Op.load 24 (Operand.tmp 5), type := 24, pos := "more.go:14", after := #[], guard := none }) (v := (.agg #[.int .i64 y0, .int .i64 y1, .int .i64 y2, .int .i64 y3, .int .i64 y4, .int .i64 y5, .int .i64 y6, .int .i64 y7, .int .i64 y8, .int .i64 y9, .int .i64 y10, .int .i64 y11, .int .i64 y12, .int .i64 y13, .int .i64 y14, .int .i64 y15, .int .i64 y16])) rfl (by kernel_rfl) (by kernel_rfl) (by kernel_rfl) (by kernel_rfl) (by kernel_rfl) (fun _ _ _ h => h) (BL.cls W) ?_ ?_
    · refine Or.inl ⟨rfl, fun w hSw => ?_⟩
      exact eff_load_mid 24 (.tmp 5) rfl g1 0 rfl [.int .i64 y0, .int .i64 y1, .int .i64 y2, .int .i64 y3, .int .i64 y4, .int .i64 y5, .int .i64 y6, .int .i64 y7, .int .i64 y8, .int .i64 y9, .int .i64 y10, .int .i64 y11, .int .i64 y12, .int .i64 y13, .int .i64 y14, .int .i64 y15, .int .i64 y16] _ (fun j v h => by rw [Nat.zero_add]; exact BL.cell hSw (HU.out.2.1.cell h)) Try.underlying24 rfl (by rw [cmdSize]; rfl)
    try simp only [Act.put, List.setIfInBounds_toArray, List.set_cons_zero, List.set_cons_succ]
    refine wpAnyU_take (i := 5) (oi := { dst := some 24, op := Op.load 24 (Operand.tmp 4), type := 24, pos := "more.go:14", after := #[], guard := none }) (v := (.agg #[.int .i64 x0, .int .i64 x1, .int .i64 x2, .int .i64 x3, .int .i64 x4, .int .i64 x5, .int .i64 x6, .int .i64 x7, .int .i64 x8, .int .i64 x9, .int .i64 x10, .int .i64 x11, .int .i64 x12, .int .i64 x13, .int .i64 x14, .int .i64 x15, .int .i64 x16])) rfl (by kernel_rfl) (by kernel_rfl) (by kernel_rfl) (by kernel_rfl) (by kernel_rfl) (fun _ _ _ h => h) (BL.cls W) ?_ ?_
    · refine Or.inl ⟨rfl, fun w hSw => ?_⟩
      exact eff_load_mid 24 (.tmp 4) rfl g0 0 rfl [.int .i64 x0, .int .i64 x1, .int .i64 x2, .int .i64 x3, .int .i64 x4, .int .i64 x5, .int .i64 x6, .int .i64 x7, .int .i64 x8, .int .i64 x9, .int .i64 x10, .int .i64 x11, .int .i64 x12, .int .i64 x13, .int .i64 x14, .int .i64 x15, .int .i64 x16] _ (fun j v h => by rw [Nat.zero_add]; exact BL.cell hSw (HU.out.1.cell h)) Try.underlying24 rfl (by rw [cmdSize]; rfl)
    try simp only [Act.put, List.setIfInBounds_toArray, List.set_cons_zero, List.set_cons_succ]
    refine wpAnyU_take (i := 6) (oi := { dst := some 25, op := Op.load 24 (Operand.tmp 5), type := 24, pos := "more.go:14", after := #[], guard := none }) (v := (.agg #[.int .i64 y0, .int .i64 y1, .int .i64 y2, .int .i64 y3, .int .i64 y4, .int .i64 y5, .int .i64 y6, .int .i64 y7, .int .i64 y8, .int .i64 y9, .int .i64 y10, .int .i64 y11, .int .i64 y12, .int .i64 y13, .int .i64 y14, .int .i64 y15, .int .i64 y16])) rfl (by kernel_rfl) (by kernel_rfl) (by kernel_rfl) (by kernel_rfl) (by kernel_rfl) (fun _ _ _ h => h) (BL.cls W) ?_ ?_
    · refine Or.inl ⟨rfl, fun w hSw => ?_⟩
      exact eff_load_mid 24 (.tmp 5) rfl g1 0 rfl [.int .i64 y0, .int .i64 y1, .int .i64 y2, .int .i64 y3, .int .i64 y4, .int .i64 y5, .int .i64 y6, .int .i64 y7, .int .i64 y8, .int .i64 y9, .int .i64 y10, .int .i64 y11, .int .i64 y12, .int .i64 y13, .int .i64 y14, .int .i64 y15, .int .i64 y16] _ (fun j v h => by rw [Nat.zero_add]; exact BL.cell hSw (HU.out.2.1.cell h)) Try.underlying24 rfl (by rw [cmdSize]; rfl)
    try simp only [Act.put, List.setIfInBounds_toArray, List.set_cons_zero, List.set_cons_succ]
    refine wpAnyU_ready (rs := [1]) (by kernel_rfl) (by simp) ?_
    refine AllReadyU.cons (o := { dst := some 20, op := Op.call { callee := Callee.value (Operand.func 9), args := #[Operand.tmp 19], argTypes := #[24] }, type := 25, pos := "more.go:14", after := #[{ on := 0, ground := Ground.data }], guard := none }) rfl (fun wA1 hA1 K hK => ?_) AllReadyU.nil
    go_simp
    refine (Cmd_any wA1 x0 x1 x2 x3 x4 x5 x6 x7 x8 x9 x10 x11 x12 x13 x14 x15 x16 HRX.out).mono ?_
    rintro e w9 ⟨v9, rfl, ho9, hb9⟩
    obtain ⟨ax, nx, cx, rfl, hn9, ho9⟩ := ho9.named
    have HX := Lib.hid ho9.bs
    have HB1 := Lib.hid (Below.next hA1 hb9)
    clear ho9 hb9 hn9
    refine hK.out _ _ (BL w9) (BL.cls' HB1.out) (Below.refl _ _) ?_
    obtain ⟨wf, hwf⟩ : ∃ wx, wx = w9 := ⟨_, rfl⟩
    rw [← hwf] at HX HB1 ⊢
    clear hwf
    clear hK K
    try simp only [Act.put, List.setIfInBounds_toArray, List.set_cons_zero, List.set_cons_succ]
    refine wpAnyU_ready (rs := [3]) (by kernel_rfl) (by simp) ?_
    refine AllReadyU.cons (o := { dst := some 22, op := Op.call { callee := Callee.value (Operand.func 9), args := #[Operand.tmp 21], argTypes := #[24] }, type := 25, pos := "more.go:14", after := #[{ on := 2, ground := Ground.data }, { on := 1, ground := Ground.chain }], guard := none }) rfl (fun wA3 hA3 K hK => ?_) AllReadyU.nil
    go_simp
    refine (Cmd_any wA3 y0 y1 y2 y3 y4 y5 y6 y7 y8 y9 y10 y11 y12 y13 y14 y15 y16 HRY.out).mono ?_
    rintro e w9 ⟨v9, rfl, ho9, hb9⟩
    obtain ⟨ay, ny, cy, rfl, hn9, ho9⟩ := ho9.named
    have HY := Lib.hid ho9.bs
    have HX2 := Lib.hid ((HX.out.mono hA3).mono hb9)
    have HB2 := Lib.hid (Below.next (Below.next HB1.out hA3) hb9)
    clear ho9 hb9 hn9
    refine hK.out _ _ (BL w9) (BL.cls' HB2.out) (Below.refl _ _) ?_
    clear hK K
    try simp only [Act.put, List.setIfInBounds_toArray, List.set_cons_zero, List.set_cons_succ]
    refine wpAnyU_ready (rs := [4]) (by kernel_rfl) (by simp) ?_
    refine AllReadyU.cons (o := { dst := some 23, op := Op.call { callee := Callee.value (Operand.func 8), args := #[Operand.tmp 20, Operand.tmp 22], argTypes := #[25, 25] }, type := 4, pos := "more.go:14", after := #[{ on := 1, ground := Ground.data }, { on := 3, ground := Ground.data }, { on := 3, ground := Ground.chain }], guard := none }) rfl (fun wA4 hA4 K hK => ?_) AllReadyU.nil
    go_simp
    refine (Bytes_any wA4 _ _ _ _ (HX2.out.mono hA4) (HY.out.mono hA4)).mono ?_
    rintro e w8 ⟨rfl, hb8⟩
    rw [show decide (encIs [x0, x1, x2, x3, x4, x5, x6, x7, x8, x9, x10, x11, x12, x13, x14, x15, x16] = encIs [y0, y1, y2, y3, y4, y5, y6, y7, y8, y9, y10, y11, y12, y13, y14, y15, y16]) = dxy from HXY.out.2]
    have HB8 := Lib.hid (Below.next (Below.next HB2.out hA4) hb8)
    clear hb8
    refine hK.out _ _ (BL w8) (BL.cls' HB8.out) (Below.refl _ _) ?_
    clear hK K
    try simp only [Act.put, List.setIfInBounds_toArray, List.set_cons_zero, List.set_cons_succ]
    refine wpAnyU_take (i := 7) (oi := { dst := some 26, op := Op.call { callee := Callee.value (Operand.func 14), args := #[Operand.tmp 24, Operand.tmp 25], argTypes := #[24, 24] }, type := 4, pos := "more.go:14", after := #[{ on := 5, ground := Ground.data }, { on := 6, ground := Ground.data }, { on := 4, ground := Ground.chain }], guard := none }) (v := (.bool dxy)) rfl (by kernel_rfl) (by kernel_rfl) (by kernel_rfl) (by kernel_rfl) (by kernel_rfl) (fun _ _ _ h => h) (BL.cls' HB8.out) ?_ ?_
    · refine Or.inl ⟨rfl, fun w hSw => ?_⟩
      go_simp
      show Calls _ _ _ _ _
      refine (KCmd_any _ x0 x1 x2 x3 x4 x5 x6 x7 x8 x9 x10 x11 x12 x13 x14 x15 x16 y0 y1 y2 y3 y4 y5 y6 y7 y8 y9 y10 y11 y12 y13 y14 y15 y16).mono ?_
      rintro e w1 ⟨rfl, hb⟩
      exact ⟨by rw [HXY.out.1], hb⟩
    try simp only [Act.put, List.setIfInBounds_toArray, List.set_cons_zero, List.set_cons_succ]
    refine wpAnyU_take (i := 8) (oi := { dst := some 27, op := Op.binOp BinOp.neq 4 (Operand.tmp 23) (Operand.tmp 26) 4, type := 4, pos := "more.go:14", after := #[{ on := 4, ground := Ground.data }, { on := 7, ground := Ground.data }], guard := none }) (v := (.bool false)) rfl (by kernel_rfl) (by kernel_rfl) (by kernel_rfl) (by kernel_rfl) (by kernel_rfl) (fun _ _ _ h => h) (BL.cls' HB8.out) ?_ ?_
    · refine Or.inl ⟨rfl, fun w hSw => ?_⟩
      exact EffR.same (by cases dxy <;> go_simp)
    try simp only [Act.put, List.setIfInBounds_toArray, List.set_cons_zero, List.set_cons_succ]
    refine wpAnyU_done (by kernel_rfl) (fun w1 hb1 => ?_) _
    go_wp2_with fail
    go_meet
    exact ⟨(), rfl, Below.next HB8.out hb1⟩
  case rest =>
    obtain ⟨_, rfl, hb3⟩ := hcut
    have HU3 := Lib.hid (HU.out.next hb3)
    clear hb3 HU HU2 HXY dxy
    have HG2 : Hid (wc.heap[g2]? = some (.cells #[.int .i64 xc, .int .i64 xn, .int .i64 xa, .slice a1 D1.length c1, .slice a2 F1.length c2] 41 (0, 0))) := HU3.out.2.2.1
    have rp := Reply_any wc xc xn xa _ _ D1 F1 HRR.out.1 HU3.out.2.2.2.2.1 HU3.out.2.2.2.2.2.1 HRR.out.2.2.1 HRR.out.2.2.2.2.1
    unfold BytesPost at rp
    obtain ⟨e1, he1⟩ : ∃ e, e = bE (repW D1 F1) (encRep xc xn xa D1 F1) := ⟨_, rfl⟩
    obtain ⟨lx, hlx⟩ : ∃ l, l = bL (repW D1 F1) (encRep xc xn xa D1 F1) := ⟨_, rfl⟩
    rw [← he1, ← hlx] at rp
    have HE1 := Lib.hid (⟨he1, hlx⟩ : _ ∧ _)
    clear he1 hlx
    go_wp2_with (first
      | (refine wpList_load_row rfl 41 (.tmp 6) rfl g2 rfl 41 #[.int .i64 xc, .int .i64 xn, .int .i64 xa, .slice a1 D1.length c1, .slice a2 F1.length c2] (0, 0) _ HG2.out Try.underlying41 rfl HSR.out ?_)
      | fail)
    refine rp.mono ?_
    clear rp HG2
    rintro e w4 ⟨ax, nx, cx, rfl, hox, hb4⟩
    have HU4 := Lib.hid (HU3.out.next hb4)
    have HBX4 := Lib.hid hox.bs
    clear hb4 hox HU3
    have HG3 : Hid (w4.heap[g3]? = some (.cells #[.int .i64 yc, .int .i64 yn, .int .i64 ya, .slice a3 D2.length c3, .slice a4 F2.length c4] 41 (0, 0))) := HU4.out.2.2.2.1
    have rq := Reply_any w4 yc yn ya _ _ D2 F2 HRR.out.2.1 HU4.out.2.2.2.2.2.2.1 HU4.out.2.2.2.2.2.2.2.1 HRR.out.2.2.2.1 HRR.out.2.2.2.2.2
    unfold BytesPost at rq
    obtain ⟨e2, he2⟩ : ∃ e, e = bE (repW D2 F2) (encRep yc yn ya D2 F2) := ⟨_, rfl⟩
    obtain ⟨ly, hly⟩ : ∃ l, l = bL (repW D2 F2) (encRep yc yn ya D2 F2) := ⟨_, rfl⟩
    rw [← he2, ← hly] at rq
    have HE2 := Lib.hid (⟨he2, hly⟩ : _ ∧ _)
    clear he2 hly
    go_wp2_with (first
      | (refine wpList_load_row rfl 41 (.tmp 7) rfl g3 rfl 41 #[.int .i64 yc, .int .i64 yn, .int .i64 ya, .slice a3 D2.length c3, .slice a4 F2.length c4] (0, 0) _ HG3.out Try.underlying41 rfl HSQ.out ?_)
      | fail)
    refine rq.mono ?_
    clear rq HG3
    rintro e w6 ⟨ay, ny, cy, rfl, hoy, hb6⟩
    have HV := Lib.hid (HU4.out.next hb6)
    have HBX := Lib.hid (HBX4.out.mono hb6)
    have HBY := Lib.hid hoy.bs
    clear hb6 hoy HU4 HBX4
    go_upto_region 7 with fail
    have h1 := bE_two (repW D1 F1) (encRep xc xn xa D1 F1)
    rw [← HE1.out.1, ← HE1.out.2] at h1
    have h2 := bE_two (repW D2 F2) (encRep yc yn ya D2 F2)
    rw [← HE2.out.1, ← HE2.out.2] at h2
    obtain ⟨dd, hdd⟩ : ∃ d : Bool, decide (xc = yc ∧ xn = yn ∧ xa = ya ∧ D1 = D2 ∧ F1 = F2) = d := ⟨_, rfl⟩
    rcases h1 with ⟨rfl, hlx, hw1⟩ | rfl
    · rcases h2 with ⟨rfl, hly, hw2⟩ | rfl
      · have HDD : Hid (decide (xc = yc ∧ xn = yn ∧ xa = ya ∧ D1 = D2 ∧ F1 = F2) = dd ∧ decide (lx = ly) = dd) := ⟨hdd, by
          rw [← hdd, decide_eq_decide, hlx, hly]
          exact encRep_inj HRR.out.1 HRR.out.2.1 HRR.out.2.2.1 HRR.out.2.2.2.1 HRR.out.2.2.2.2.1 HRR.out.2.2.2.2.2 hw1 hw2⟩
        clear hdd hlx hly hw1 hw2
        refine wp_region_bl 19 (by kernel_rfl) ?_
        refine wpAnyU_take (i := 0) (oi := { dst := some 38, op := Op.move (Operand.tmp 10), type := 29, pos := "more.go:19", after := #[], guard := none }) (v := (.int .i64 0)) rfl (by kernel_rfl) (by kernel_rfl) (by kernel_rfl) (by kernel_rfl) (by kernel_rfl) (fun _ _ _ h => h) (BL.cls w6) ?_ ?_
        · refine Or.inl ⟨rfl, fun w hSw => ?_⟩
          exact EffR.same (by go_simp)
        try simp only [Act.put, List.setIfInBounds_toArray, List.set_cons_zero, List.set_cons_succ]
        refine wpAnyU_take (i := 1) (oi := { dst := some 39, op := Op.binOp BinOp.neq 29 (Operand.tmp 38) (Operand.const (Value.int IntKind.i64 0)) 29, type := 4, pos := "more.go:19", after := #[{ on := 0, ground := Ground.data }], guard := none }) (v := (.bool false)) rfl (by kernel_rfl) (by kernel_rfl) (by kernel_rfl) (by kernel_rfl) (by kernel_rfl) (fun _ _ _ h => h) (BL.cls w6) ?_ ?_
        · refine Or.inl ⟨rfl, fun w hSw => ?_⟩
          exact EffR.same (by go_simp)
        try simp only [Act.put, List.setIfInBounds_toArray, List.set_cons_zero, List.set_cons_succ]
        refine wpAnyU_take (i := 2) (oi := { dst := some 40, op := Op.move (Operand.tmp 39), type := 4, pos := "more.go:19", after := #[{ on := 1, ground := Ground.data }], guard := none }) (v := (.bool false)) rfl (by kernel_rfl) (by kernel_rfl) (by kernel_rfl) (by kernel_rfl) (by kernel_rfl) (fun _ _ _ h => h) (BL.cls w6) ?_ ?_
        · refine Or.inl ⟨rfl, fun w hSw => ?_⟩
          exact EffR.same (by go_simp)
        try simp only [Act.put, List.setIfInBounds_toArray, List.set_cons_zero, List.set_cons_succ]
        refine wpAnyU_take (i := 3) (oi := { dst := some 41, op := Op.move (Operand.tmp 12), type := 29, pos := "more.go:19", after := #[{ on := 2, ground := Ground.guard }], guard := some (2, false) }) (v := (.int .i64 0)) rfl (by kernel_rfl) (by kernel_rfl) (by kernel_rfl) (by kernel_rfl) (by kernel_rfl) (fun _ _ _ h => h) (BL.cls w6) ?_ ?_
        · refine Or.inl ⟨rfl, fun w hSw => ?_⟩
          exact EffR.same (by go_simp)
        try simp only [Act.put, List.setIfInBounds_toArray, List.set_cons_zero, List.set_cons_succ]
        refine wpAnyU_take (i := 4) (oi := { dst := some 42, op := Op.binOp BinOp.neq 29 (Operand.tmp 41) (Operand.const (Value.int IntKind.i64 0)) 29, type := 4, pos := "more.go:19", after := #[{ on := 3, ground := Ground.data }, { on := 2, ground := Ground.guard }], guard := some (2, false) }) (v := (.bool false)) rfl (by kernel_rfl) (by kernel_rfl) (by kernel_rfl) (by kernel_rfl) (by kernel_rfl) (fun _ _ _ h => h) (BL.cls w6) ?_ ?_
        · refine Or.inl ⟨rfl, fun w hSw => ?_⟩
          exact EffR.same (by go_simp)
        try simp only [Act.put, List.setIfInBounds_toArray, List.set_cons_zero, List.set_cons_succ]
        refine wpAnyU_take (i := 5) (oi := { dst := some 43, op := Op.pick (Operand.tmp 40) (Operand.const (Value.bool true)) (Operand.tmp 42), type := 4, pos := "more.go:19", after := #[{ on := 2, ground := Ground.data }, { on := 4, ground := Ground.data }], guard := none }) (v := (.bool false)) rfl (by kernel_rfl) (by kernel_rfl) (by kernel_rfl) (by kernel_rfl) (by kernel_rfl) (fun _ _ _ h => h) (BL.cls w6) ?_ ?_
        · refine Or.inl ⟨rfl, fun w hSw => ?_⟩
          exact EffR.same (by go_simp)
        try simp only [Act.put, List.setIfInBounds_toArray, List.set_cons_zero, List.set_cons_succ]
        refine wpAnyU_take (i := 6) (oi := { dst := some 44, op := Op.move (Operand.tmp 43), type := 4, pos := "more.go:19", after := #[{ on := 5, ground := Ground.data }, { on := 2, ground := Ground.chain }], guard := none }) (v := (.bool false)) rfl (by kernel_rfl) (by kernel_rfl) (by kernel_rfl) (by kernel_rfl) (by kernel_rfl) (fun _ _ _ h => h) (BL.cls w6) ?_ ?_
        · refine Or.inl ⟨rfl, fun w hSw => ?_⟩
          exact EffR.same (by go_simp)
        try simp only [Act.put, List.setIfInBounds_toArray, List.set_cons_zero, List.set_cons_succ]
        refine wpAnyU_take (i := 7) (oi := { dst := some 45, op := Op.move (Operand.tmp 9), type := 25, pos := "more.go:19", after := #[{ on := 6, ground := Ground.guard }], guard := some (6, false) }) (v := (.slice ax nx cx)) rfl (by kernel_rfl) (by kernel_rfl) (by kernel_rfl) (by kernel_rfl) (by kernel_rfl) (fun _ _ _ h => h) (BL.cls w6) ?_ ?_
        · refine Or.inl ⟨rfl, fun w hSw => ?_⟩
          exact EffR.same (by go_simp)
        try simp only [Act.put, List.setIfInBounds_toArray, List.set_cons_zero, List.set_cons_succ]
        refine wpAnyU_take (i := 8) (oi := { dst := some 46, op := Op.move (Operand.tmp 11), type := 25, pos := "more.go:19", after := #[{ on := 6, ground := Ground.guard }], guard := some (6, false) }) (v := (.slice ay ny cy)) rfl (by kernel_rfl) (by kernel_rfl) (by kernel_rfl) (by kernel_rfl) (by kernel_rfl) (fun _ _ _ h => h) (BL.cls w6) ?_ ?_
        · refine Or.inl ⟨rfl, fun w hSw => ?_⟩
          exact EffR.same (by go_simp)
        try simp only [Act.put, List.setIfInBounds_toArray, List.set_cons_zero, List.set_cons_succ]
        refine wpAnyU_take (i := 9) (oi := { dst := some 47, op := Op.call { callee := Callee.value (Operand.func 8), args := #[Operand.tmp 45, Operand.tmp 46], argTypes := #[25, 25] }, type := 4, pos := "more.go:19", after := #[{ on := 7, ground := Ground.data }, { on := 8, ground := Ground.data }, { on := 6, ground := Ground.chain }, { on := 6, ground := Ground.guard }], guard := some (6, false) }) (v := (.bool dd)) rfl (by kernel_rfl) (by kernel_rfl) (by kernel_rfl) (by kernel_rfl) (by kernel_rfl) (fun _ _ _ h => h) (BL.cls w6) ?_ ?_
        · refine Or.inl ⟨rfl, fun w hSw => ?_⟩
          go_simp
          show Calls _ _ _ _ _
          refine (Bytes_any _ _ _ lx ly (HBX.out.mono hSw) (HBY.out.mono hSw)).mono ?_
          rintro e w1 ⟨rfl, hb⟩
          exact ⟨by rw [HDD.out.2], hb⟩
        try simp only [Act.put, List.setIfInBounds_toArray, List.set_cons_zero, List.set_cons_succ]
        refine wpAnyU_take (i := 10) (oi := { dst := some 48, op := Op.load 41 (Operand.tmp 6), type := 41, pos := "more.go:19", after := #[{ on := 6, ground := Ground.guard }], guard := some (6, false) }) (v := (.agg #[.int .i64 xc, .int .i64 xn, .int .i64 xa, .slice a1 D1.length c1, .slice a2 F1.length c2])) rfl (by kernel_rfl) (by kernel_rfl) (by kernel_rfl) (by kernel_rfl) (by kernel_rfl) (fun _ _ _ h => h) (BL.cls w6) ?_ ?_
        · refine Or.inl ⟨rfl, fun w hSw => ?_⟩
          exact eff_load_mid 41 (.tmp 6) rfl g2 0 rfl [.int .i64 xc, .int .i64 xn, .int .i64 xa, .slice a1 D1.length c1, .slice a2 F1.length c2] _ (fun j v h => by rw [Nat.zero_add]; exact BL.cell hSw (HV.out.2.2.1.cell h)) Try.underlying41 rfl repSize
        try simp only [Act.put, List.setIfInBounds_toArray, List.set_cons_zero, List.set_cons_succ]
        refine wpAnyU_take (i := 11) (oi := { dst := some 49, op := Op.load 41 (Operand.tmp 7), type := 41, pos := "more.go:19", after := #[{ on := 6, ground := Ground.guard }], guard := some (6, false) }) (v := (.agg #[.int .i64 yc, .int .i64 yn, .int .i64 ya, .slice a3 D2.length c3, .slice a4 F2.length c4])) rfl (by kernel_rfl) (by kernel_rfl) (by kernel_rfl) (by kernel_rfl) (by kernel_rfl) (fun _ _ _ h => h) (BL.cls w6) ?_ ?_
        · refine Or.inl ⟨rfl, fun w hSw => ?_⟩
          exact eff_load_mid 41 (.tmp 7) rfl g3 0 rfl [.int .i64 yc, .int .i64 yn, .int .i64 ya, .slice a3 D2.length c3, .slice a4 F2.length c4] _ (fun j v h => by rw [Nat.zero_add]; exact BL.cell hSw (HV.out.2.2.2.1.cell h)) Try.underlying41 rfl repSize
        try simp only [Act.put, List.setIfInBounds_toArray, List.set_cons_zero, List.set_cons_succ]
        refine wpAnyU_take (i := 12) (oi := { dst := some 50, op := Op.call { callee := Callee.value (Operand.func 19), args := #[Operand.tmp 48, Operand.tmp 49], argTypes := #[41, 41] }, type := 4, pos := "more.go:19", after := #[{ on := 10, ground := Ground.data }, { on := 11, ground := Ground.data }, { on := 9, ground := Ground.chain }, { on := 6, ground := Ground.guard }], guard := some (6, false) }) (v := (.bool dd)) rfl (by kernel_rfl) (by kernel_rfl) (by kernel_rfl) (by kernel_rfl) (by kernel_rfl) (fun _ _ _ h => h) (BL.cls w6) ?_ ?_
        · refine Or.inl ⟨rfl, fun w hSw => ?_⟩
          go_simp
          show Calls _ _ _ _ _
          refine (KReply_any _ xc xn xa yc yn ya _ _ _ _ D1 D2 F1 F2 (HV.out.2.2.2.2.1.mono hSw) (HV.out.2.2.2.2.2.1.mono hSw) (HV.out.2.2.2.2.2.2.1.mono hSw) (HV.out.2.2.2.2.2.2.2.1.mono hSw)).mono ?_
          rintro e w1 ⟨rfl, hb⟩
          exact ⟨by rw [HDD.out.1], hb⟩
        try simp only [Act.put, List.setIfInBounds_toArray, List.set_cons_zero, List.set_cons_succ]
        refine wpAnyU_take (i := 13) (oi := { dst := some 51, op := Op.binOp BinOp.eql 4 (Operand.tmp 47) (Operand.tmp 50) 4, type := 4, pos := "more.go:19", after := #[{ on := 9, ground := Ground.data }, { on := 12, ground := Ground.data }, { on := 6, ground := Ground.guard }], guard := some (6, false) }) (v := (.bool true)) rfl (by kernel_rfl) (by kernel_rfl) (by kernel_rfl) (by kernel_rfl) (by kernel_rfl) (fun _ _ _ h => h) (BL.cls w6) ?_ ?_
        · refine Or.inl ⟨rfl, fun w hSw => ?_⟩
          exact EffR.same (by cases dd <;> go_simp)
        try simp only [Act.put, List.setIfInBounds_toArray, List.set_cons_zero, List.set_cons_succ]
        refine wpAnyU_take (i := 14) (oi := { dst := some 52, op := Op.pick (Operand.tmp 44) (Operand.const (Value.bool true)) (Operand.tmp 51), type := 4, pos := "more.go:19", after := #[{ on := 6, ground := Ground.data }, { on := 13, ground := Ground.data }], guard := none }) (v := (.bool true)) rfl (by kernel_rfl) (by kernel_rfl) (by kernel_rfl) (by kernel_rfl) (by kernel_rfl) (fun _ _ _ h => h) (BL.cls w6) ?_ ?_
        · refine Or.inl ⟨rfl, fun w hSw => ?_⟩
          exact EffR.same (by go_simp)
        try simp only [Act.put, List.setIfInBounds_toArray, List.set_cons_zero, List.set_cons_succ]
        refine wpAnyU_take (i := 15) (oi := { dst := some 53, op := Op.move (Operand.tmp 52), type := 4, pos := "more.go:19", after := #[{ on := 14, ground := Ground.data }, { on := 12, ground := Ground.chain }], guard := none }) (v := (.bool true)) rfl (by kernel_rfl) (by kernel_rfl) (by kernel_rfl) (by kernel_rfl) (by kernel_rfl) (fun _ _ _ h => h) (BL.cls w6) ?_ ?_
        · refine Or.inl ⟨rfl, fun w hSw => ?_⟩
          exact EffR.same (by go_simp)
        try simp only [Act.put, List.setIfInBounds_toArray, List.set_cons_zero, List.set_cons_succ]
        refine wpAnyU_take (i := 16) (oi := { dst := some 54, op := Op.call { callee := Callee.value (Operand.func 16), args := #[], argTypes := #[] }, type := 4, pos := "more.go:19", after := #[{ on := 15, ground := Ground.chain }, { on := 15, ground := Ground.guard }], guard := some (15, true) }) (v := (.bool true)) rfl (by kernel_rfl) (by kernel_rfl) (by kernel_rfl) (by kernel_rfl) (by kernel_rfl) (fun _ _ _ h => h) (BL.cls w6) ?_ ?_
        · refine Or.inl ⟨rfl, fun w hSw => ?_⟩
          go_simp
          show Calls _ _ _ _ _
          refine (wakes_any _).mono ?_
          rintro e w1 ⟨rfl, hb⟩
          exact ⟨rfl, hb⟩
        try simp only [Act.put, List.setIfInBounds_toArray, List.set_cons_zero, List.set_cons_succ]
        refine wpAnyU_take (i := 17) (oi := { dst := some 55, op := Op.pick (Operand.tmp 53) (Operand.tmp 54) (Operand.const (Value.bool false)), type := 4, pos := "more.go:19", after := #[{ on := 15, ground := Ground.data }, { on := 16, ground := Ground.data }], guard := none }) (v := (.bool true)) rfl (by kernel_rfl) (by kernel_rfl) (by kernel_rfl) (by kernel_rfl) (by kernel_rfl) (fun _ _ _ h => h) (BL.cls w6) ?_ ?_
        · refine Or.inl ⟨rfl, fun w hSw => ?_⟩
          exact EffR.same (by go_simp)
        try simp only [Act.put, List.setIfInBounds_toArray, List.set_cons_zero, List.set_cons_succ]
        refine wpAnyU_take (i := 18) (oi := { dst := some 8, op := Op.assign (Operand.tmp 55), type := 4, pos := "more.go:19", after := #[{ on := 17, ground := Ground.data }, { on := 16, ground := Ground.chain }, { on := 0, ground := Ground.phase }, { on := 1, ground := Ground.phase }, { on := 2, ground := Ground.phase }, { on := 3, ground := Ground.phase }, { on := 4, ground := Ground.phase }, { on := 5, ground := Ground.phase }, { on := 6, ground := Ground.phase }, { on := 7, ground := Ground.phase }, { on := 8, ground := Ground.phase }, { on := 9, ground := Ground.phase }, { on := 10, ground := Ground.phase }, { on := 11, ground := Ground.phase }, { on := 12, ground := Ground.phase }, { on := 13, ground := Ground.phase }, { on := 14, ground := Ground.phase }, { on := 15, ground := Ground.phase }, { on := 16, ground := Ground.phase }, { on := 17, ground := Ground.phase }], guard := none }) (v := (.bool true)) rfl (by kernel_rfl) (by kernel_rfl) (by kernel_rfl) (by kernel_rfl) (by kernel_rfl) (fun _ _ _ h => h) (BL.cls w6) ?_ ?_
        · refine Or.inl ⟨rfl, fun w hSw => ?_⟩
          exact EffR.same (by go_simp)
        try simp only [Act.put, List.setIfInBounds_toArray, List.set_cons_zero, List.set_cons_succ]
        refine wpAnyU_done (by kernel_rfl) (fun w1 hb1 => ?_) _
        go_wp2_with fail
        go_ret
        exact ⟨rfl, bgo HV.out.2.2.2.2.2.2.2.2 hb1 HV.out.2.2.2.2.2.2.2.2.size⟩
      · clear hdd hlx hw1
        refine wp_region_bl 19 (by kernel_rfl) ?_
        refine wpAnyU_take (i := 0) (oi := { dst := some 38, op := Op.move (Operand.tmp 10), type := 29, pos := "more.go:19", after := #[], guard := none }) (v := (.int .i64 0)) rfl (by kernel_rfl) (by kernel_rfl) (by kernel_rfl) (by kernel_rfl) (by kernel_rfl) (fun _ _ _ h => h) (BL.cls w6) ?_ ?_
        · refine Or.inl ⟨rfl, fun w hSw => ?_⟩
          exact EffR.same (by go_simp)
        try simp only [Act.put, List.setIfInBounds_toArray, List.set_cons_zero, List.set_cons_succ]
        refine wpAnyU_take (i := 1) (oi := { dst := some 39, op := Op.binOp BinOp.neq 29 (Operand.tmp 38) (Operand.const (Value.int IntKind.i64 0)) 29, type := 4, pos := "more.go:19", after := #[{ on := 0, ground := Ground.data }], guard := none }) (v := (.bool false)) rfl (by kernel_rfl) (by kernel_rfl) (by kernel_rfl) (by kernel_rfl) (by kernel_rfl) (fun _ _ _ h => h) (BL.cls w6) ?_ ?_
        · refine Or.inl ⟨rfl, fun w hSw => ?_⟩
          exact EffR.same (by go_simp)
        try simp only [Act.put, List.setIfInBounds_toArray, List.set_cons_zero, List.set_cons_succ]
        refine wpAnyU_take (i := 2) (oi := { dst := some 40, op := Op.move (Operand.tmp 39), type := 4, pos := "more.go:19", after := #[{ on := 1, ground := Ground.data }], guard := none }) (v := (.bool false)) rfl (by kernel_rfl) (by kernel_rfl) (by kernel_rfl) (by kernel_rfl) (by kernel_rfl) (fun _ _ _ h => h) (BL.cls w6) ?_ ?_
        · refine Or.inl ⟨rfl, fun w hSw => ?_⟩
          exact EffR.same (by go_simp)
        try simp only [Act.put, List.setIfInBounds_toArray, List.set_cons_zero, List.set_cons_succ]
        refine wpAnyU_take (i := 3) (oi := { dst := some 41, op := Op.move (Operand.tmp 12), type := 29, pos := "more.go:19", after := #[{ on := 2, ground := Ground.guard }], guard := some (2, false) }) (v := (.int .i64 6)) rfl (by kernel_rfl) (by kernel_rfl) (by kernel_rfl) (by kernel_rfl) (by kernel_rfl) (fun _ _ _ h => h) (BL.cls w6) ?_ ?_
        · refine Or.inl ⟨rfl, fun w hSw => ?_⟩
          exact EffR.same (by go_simp)
        try simp only [Act.put, List.setIfInBounds_toArray, List.set_cons_zero, List.set_cons_succ]
        refine wpAnyU_take (i := 4) (oi := { dst := some 42, op := Op.binOp BinOp.neq 29 (Operand.tmp 41) (Operand.const (Value.int IntKind.i64 0)) 29, type := 4, pos := "more.go:19", after := #[{ on := 3, ground := Ground.data }, { on := 2, ground := Ground.guard }], guard := some (2, false) }) (v := (.bool true)) rfl (by kernel_rfl) (by kernel_rfl) (by kernel_rfl) (by kernel_rfl) (by kernel_rfl) (fun _ _ _ h => h) (BL.cls w6) ?_ ?_
        · refine Or.inl ⟨rfl, fun w hSw => ?_⟩
          exact EffR.same (by go_simp)
        try simp only [Act.put, List.setIfInBounds_toArray, List.set_cons_zero, List.set_cons_succ]
        refine wpAnyU_take (i := 5) (oi := { dst := some 43, op := Op.pick (Operand.tmp 40) (Operand.const (Value.bool true)) (Operand.tmp 42), type := 4, pos := "more.go:19", after := #[{ on := 2, ground := Ground.data }, { on := 4, ground := Ground.data }], guard := none }) (v := (.bool true)) rfl (by kernel_rfl) (by kernel_rfl) (by kernel_rfl) (by kernel_rfl) (by kernel_rfl) (fun _ _ _ h => h) (BL.cls w6) ?_ ?_
        · refine Or.inl ⟨rfl, fun w hSw => ?_⟩
          exact EffR.same (by go_simp)
        try simp only [Act.put, List.setIfInBounds_toArray, List.set_cons_zero, List.set_cons_succ]
        refine wpAnyU_take (i := 6) (oi := { dst := some 44, op := Op.move (Operand.tmp 43), type := 4, pos := "more.go:19", after := #[{ on := 5, ground := Ground.data }, { on := 2, ground := Ground.chain }], guard := none }) (v := (.bool true)) rfl (by kernel_rfl) (by kernel_rfl) (by kernel_rfl) (by kernel_rfl) (by kernel_rfl) (fun _ _ _ h => h) (BL.cls w6) ?_ ?_
        · refine Or.inl ⟨rfl, fun w hSw => ?_⟩
          exact EffR.same (by go_simp)
        try simp only [Act.put, List.setIfInBounds_toArray, List.set_cons_zero, List.set_cons_succ]
        refine wpAnyU_take (i := 7) (oi := { dst := some 45, op := Op.move (Operand.tmp 9), type := 25, pos := "more.go:19", after := #[{ on := 6, ground := Ground.guard }], guard := some (6, false) }) (v := undef) rfl (by kernel_rfl) (by kernel_rfl) (by kernel_rfl) (by kernel_rfl) (by kernel_rfl) (fun _ _ _ h => h) (BL.cls w6) ?_ ?_
        · exact Or.inr ⟨rfl, rfl⟩
        try simp only [Act.put, List.setIfInBounds_toArray, List.set_cons_zero, List.set_cons_succ]
        refine wpAnyU_take (i := 8) (oi := { dst := some 46, op := Op.move (Operand.tmp 11), type := 25, pos := "more.go:19", after := #[{ on := 6, ground := Ground.guard }], guard := some (6, false) }) (v := undef) rfl (by kernel_rfl) (by kernel_rfl) (by kernel_rfl) (by kernel_rfl) (by kernel_rfl) (fun _ _ _ h => h) (BL.cls w6) ?_ ?_
        · exact Or.inr ⟨rfl, rfl⟩
        try simp only [Act.put, List.setIfInBounds_toArray, List.set_cons_zero, List.set_cons_succ]
        refine wpAnyU_take (i := 9) (oi := { dst := some 47, op := Op.call { callee := Callee.value (Operand.func 8), args := #[Operand.tmp 45, Operand.tmp 46], argTypes := #[25, 25] }, type := 4, pos := "more.go:19", after := #[{ on := 7, ground := Ground.data }, { on := 8, ground := Ground.data }, { on := 6, ground := Ground.chain }, { on := 6, ground := Ground.guard }], guard := some (6, false) }) (v := undef) rfl (by kernel_rfl) (by kernel_rfl) (by kernel_rfl) (by kernel_rfl) (by kernel_rfl) (fun _ _ _ h => h) (BL.cls w6) ?_ ?_
        · exact Or.inr ⟨rfl, rfl⟩
        try simp only [Act.put, List.setIfInBounds_toArray, List.set_cons_zero, List.set_cons_succ]
        refine wpAnyU_take (i := 10) (oi := { dst := some 48, op := Op.load 41 (Operand.tmp 6), type := 41, pos := "more.go:19", after := #[{ on := 6, ground := Ground.guard }], guard := some (6, false) }) (v := undef) rfl (by kernel_rfl) (by kernel_rfl) (by kernel_rfl) (by kernel_rfl) (by kernel_rfl) (fun _ _ _ h => h) (BL.cls w6) ?_ ?_
        · exact Or.inr ⟨rfl, rfl⟩
        try simp only [Act.put, List.setIfInBounds_toArray, List.set_cons_zero, List.set_cons_succ]
        refine wpAnyU_take (i := 11) (oi := { dst := some 49, op := Op.load 41 (Operand.tmp 7), type := 41, pos := "more.go:19", after := #[{ on := 6, ground := Ground.guard }], guard := some (6, false) }) (v := undef) rfl (by kernel_rfl) (by kernel_rfl) (by kernel_rfl) (by kernel_rfl) (by kernel_rfl) (fun _ _ _ h => h) (BL.cls w6) ?_ ?_
        · exact Or.inr ⟨rfl, rfl⟩
        try simp only [Act.put, List.setIfInBounds_toArray, List.set_cons_zero, List.set_cons_succ]
        refine wpAnyU_take (i := 12) (oi := { dst := some 50, op := Op.call { callee := Callee.value (Operand.func 19), args := #[Operand.tmp 48, Operand.tmp 49], argTypes := #[41, 41] }, type := 4, pos := "more.go:19", after := #[{ on := 10, ground := Ground.data }, { on := 11, ground := Ground.data }, { on := 9, ground := Ground.chain }, { on := 6, ground := Ground.guard }], guard := some (6, false) }) (v := undef) rfl (by kernel_rfl) (by kernel_rfl) (by kernel_rfl) (by kernel_rfl) (by kernel_rfl) (fun _ _ _ h => h) (BL.cls w6) ?_ ?_
        · exact Or.inr ⟨rfl, rfl⟩
        try simp only [Act.put, List.setIfInBounds_toArray, List.set_cons_zero, List.set_cons_succ]
        refine wpAnyU_take (i := 13) (oi := { dst := some 51, op := Op.binOp BinOp.eql 4 (Operand.tmp 47) (Operand.tmp 50) 4, type := 4, pos := "more.go:19", after := #[{ on := 9, ground := Ground.data }, { on := 12, ground := Ground.data }, { on := 6, ground := Ground.guard }], guard := some (6, false) }) (v := undef) rfl (by kernel_rfl) (by kernel_rfl) (by kernel_rfl) (by kernel_rfl) (by kernel_rfl) (fun _ _ _ h => h) (BL.cls w6) ?_ ?_
        · exact Or.inr ⟨rfl, rfl⟩
        try simp only [Act.put, List.setIfInBounds_toArray, List.set_cons_zero, List.set_cons_succ]
        refine wpAnyU_take (i := 14) (oi := { dst := some 52, op := Op.pick (Operand.tmp 44) (Operand.const (Value.bool true)) (Operand.tmp 51), type := 4, pos := "more.go:19", after := #[{ on := 6, ground := Ground.data }, { on := 13, ground := Ground.data }], guard := none }) (v := (.bool true)) rfl (by kernel_rfl) (by kernel_rfl) (by kernel_rfl) (by kernel_rfl) (by kernel_rfl) (fun _ _ _ h => h) (BL.cls w6) ?_ ?_
        · refine Or.inl ⟨rfl, fun w hSw => ?_⟩
          exact EffR.same (by go_simp)
        try simp only [Act.put, List.setIfInBounds_toArray, List.set_cons_zero, List.set_cons_succ]
        refine wpAnyU_take (i := 15) (oi := { dst := some 53, op := Op.move (Operand.tmp 52), type := 4, pos := "more.go:19", after := #[{ on := 14, ground := Ground.data }, { on := 12, ground := Ground.chain }], guard := none }) (v := (.bool true)) rfl (by kernel_rfl) (by kernel_rfl) (by kernel_rfl) (by kernel_rfl) (by kernel_rfl) (fun _ _ _ h => h) (BL.cls w6) ?_ ?_
        · refine Or.inl ⟨rfl, fun w hSw => ?_⟩
          exact EffR.same (by go_simp)
        try simp only [Act.put, List.setIfInBounds_toArray, List.set_cons_zero, List.set_cons_succ]
        refine wpAnyU_take (i := 16) (oi := { dst := some 54, op := Op.call { callee := Callee.value (Operand.func 16), args := #[], argTypes := #[] }, type := 4, pos := "more.go:19", after := #[{ on := 15, ground := Ground.chain }, { on := 15, ground := Ground.guard }], guard := some (15, true) }) (v := (.bool true)) rfl (by kernel_rfl) (by kernel_rfl) (by kernel_rfl) (by kernel_rfl) (by kernel_rfl) (fun _ _ _ h => h) (BL.cls w6) ?_ ?_
        · refine Or.inl ⟨rfl, fun w hSw => ?_⟩
          go_simp
          show Calls _ _ _ _ _
          refine (wakes_any _).mono ?_
          rintro e w1 ⟨rfl, hb⟩
          exact ⟨rfl, hb⟩
        try simp only [Act.put, List.setIfInBounds_toArray, List.set_cons_zero, List.set_cons_succ]
        refine wpAnyU_take (i := 17) (oi := { dst := some 55, op := Op.pick (Operand.tmp 53) (Operand.tmp 54) (Operand.const (Value.bool false)), type := 4, pos := "more.go:19", after := #[{ on := 15, ground := Ground.data }, { on := 16, ground := Ground.data }], guard := none }) (v := (.bool true)) rfl (by kernel_rfl) (by kernel_rfl) (by kernel_rfl) (by kernel_rfl) (by kernel_rfl) (fun _ _ _ h => h) (BL.cls w6) ?_ ?_
        · refine Or.inl ⟨rfl, fun w hSw => ?_⟩
          exact EffR.same (by go_simp)
        try simp only [Act.put, List.setIfInBounds_toArray, List.set_cons_zero, List.set_cons_succ]
        refine wpAnyU_take (i := 18) (oi := { dst := some 8, op := Op.assign (Operand.tmp 55), type := 4, pos := "more.go:19", after := #[{ on := 17, ground := Ground.data }, { on := 16, ground := Ground.chain }, { on := 0, ground := Ground.phase }, { on := 1, ground := Ground.phase }, { on := 2, ground := Ground.phase }, { on := 3, ground := Ground.phase }, { on := 4, ground := Ground.phase }, { on := 5, ground := Ground.phase }, { on := 6, ground := Ground.phase }, { on := 7, ground := Ground.phase }, { on := 8, ground := Ground.phase }, { on := 9, ground := Ground.phase }, { on := 10, ground := Ground.phase }, { on := 11, ground := Ground.phase }, { on := 12, ground := Ground.phase }, { on := 13, ground := Ground.phase }, { on := 14, ground := Ground.phase }, { on := 15, ground := Ground.phase }, { on := 16, ground := Ground.phase }, { on := 17, ground := Ground.phase }], guard := none }) (v := (.bool true)) rfl (by kernel_rfl) (by kernel_rfl) (by kernel_rfl) (by kernel_rfl) (by kernel_rfl) (fun _ _ _ h => h) (BL.cls w6) ?_ ?_
        · refine Or.inl ⟨rfl, fun w hSw => ?_⟩
          exact EffR.same (by go_simp)
        try simp only [Act.put, List.setIfInBounds_toArray, List.set_cons_zero, List.set_cons_succ]
        refine wpAnyU_done (by kernel_rfl) (fun w1 hb1 => ?_) _
        go_wp2_with fail
        go_ret
        exact ⟨rfl, bgo HV.out.2.2.2.2.2.2.2.2 hb1 HV.out.2.2.2.2.2.2.2.2.size⟩
    · clear hdd h2
      refine wp_region_bl 19 (by kernel_rfl) ?_
      refine wpAnyU_take (i := 0) (oi := { dst := some 38, op := Op.move (Operand.tmp 10), type := 29, pos := "more.go:19", after := #[], guard := none }) (v := (.int .i64 6)) rfl (by kernel_rfl) (by kernel_rfl) (by kernel_rfl) (by kernel_rfl) (by kernel_rfl) (fun _ _ _ h => h) (BL.cls w6) ?_ ?_
      · refine Or.inl ⟨rfl, fun w hSw => ?_⟩
        exact EffR.same (by go_simp)
      try simp only [Act.put, List.setIfInBounds_toArray, List.set_cons_zero, List.set_cons_succ]
      refine wpAnyU_take (i := 1) (oi := { dst := some 39, op := Op.binOp BinOp.neq 29 (Operand.tmp 38) (Operand.const (Value.int IntKind.i64 0)) 29, type := 4, pos := "more.go:19", after := #[{ on := 0, ground := Ground.data }], guard := none }) (v := (.bool true)) rfl (by kernel_rfl) (by kernel_rfl) (by kernel_rfl) (by kernel_rfl) (by kernel_rfl) (fun _ _ _ h => h) (BL.cls w6) ?_ ?_
      · refine Or.inl ⟨rfl, fun w hSw => ?_⟩
        exact EffR.same (by go_simp)
      try simp only [Act.put, List.setIfInBounds_toArray, List.set_cons_zero, List.set_cons_succ]
      refine wpAnyU_take (i := 2) (oi := { dst := some 40, op := Op.move (Operand.tmp 39), type := 4, pos := "more.go:19", after := #[{ on := 1, ground := Ground.data }], guard := none }) (v := (.bool true)) rfl (by kernel_rfl) (by kernel_rfl) (by kernel_rfl) (by kernel_rfl) (by kernel_rfl) (fun _ _ _ h => h) (BL.cls w6) ?_ ?_
      · refine Or.inl ⟨rfl, fun w hSw => ?_⟩
        exact EffR.same (by go_simp)
      try simp only [Act.put, List.setIfInBounds_toArray, List.set_cons_zero, List.set_cons_succ]
      refine wpAnyU_take (i := 3) (oi := { dst := some 41, op := Op.move (Operand.tmp 12), type := 29, pos := "more.go:19", after := #[{ on := 2, ground := Ground.guard }], guard := some (2, false) }) (v := undef) rfl (by kernel_rfl) (by kernel_rfl) (by kernel_rfl) (by kernel_rfl) (by kernel_rfl) (fun _ _ _ h => h) (BL.cls w6) ?_ ?_
      · exact Or.inr ⟨rfl, rfl⟩
      try simp only [Act.put, List.setIfInBounds_toArray, List.set_cons_zero, List.set_cons_succ]
      refine wpAnyU_take (i := 4) (oi := { dst := some 42, op := Op.binOp BinOp.neq 29 (Operand.tmp 41) (Operand.const (Value.int IntKind.i64 0)) 29, type := 4, pos := "more.go:19", after := #[{ on := 3, ground := Ground.data }, { on := 2, ground := Ground.guard }], guard := some (2, false) }) (v := undef) rfl (by kernel_rfl) (by kernel_rfl) (by kernel_rfl) (by kernel_rfl) (by kernel_rfl) (fun _ _ _ h => h) (BL.cls w6) ?_ ?_
      · exact Or.inr ⟨rfl, rfl⟩
      try simp only [Act.put, List.setIfInBounds_toArray, List.set_cons_zero, List.set_cons_succ]
      refine wpAnyU_take (i := 5) (oi := { dst := some 43, op := Op.pick (Operand.tmp 40) (Operand.const (Value.bool true)) (Operand.tmp 42), type := 4, pos := "more.go:19", after := #[{ on := 2, ground := Ground.data }, { on := 4, ground := Ground.data }], guard := none }) (v := (.bool true)) rfl (by kernel_rfl) (by kernel_rfl) (by kernel_rfl) (by kernel_rfl) (by kernel_rfl) (fun _ _ _ h => h) (BL.cls w6) ?_ ?_
      · refine Or.inl ⟨rfl, fun w hSw => ?_⟩
        exact EffR.same (by go_simp)
      try simp only [Act.put, List.setIfInBounds_toArray, List.set_cons_zero, List.set_cons_succ]
      refine wpAnyU_take (i := 6) (oi := { dst := some 44, op := Op.move (Operand.tmp 43), type := 4, pos := "more.go:19", after := #[{ on := 5, ground := Ground.data }, { on := 2, ground := Ground.chain }], guard := none }) (v := (.bool true)) rfl (by kernel_rfl) (by kernel_rfl) (by kernel_rfl) (by kernel_rfl) (by kernel_rfl) (fun _ _ _ h => h) (BL.cls w6) ?_ ?_
      · refine Or.inl ⟨rfl, fun w hSw => ?_⟩
        exact EffR.same (by go_simp)
      try simp only [Act.put, List.setIfInBounds_toArray, List.set_cons_zero, List.set_cons_succ]
      refine wpAnyU_take (i := 7) (oi := { dst := some 45, op := Op.move (Operand.tmp 9), type := 25, pos := "more.go:19", after := #[{ on := 6, ground := Ground.guard }], guard := some (6, false) }) (v := undef) rfl (by kernel_rfl) (by kernel_rfl) (by kernel_rfl) (by kernel_rfl) (by kernel_rfl) (fun _ _ _ h => h) (BL.cls w6) ?_ ?_
      · exact Or.inr ⟨rfl, rfl⟩
      try simp only [Act.put, List.setIfInBounds_toArray, List.set_cons_zero, List.set_cons_succ]
      refine wpAnyU_take (i := 8) (oi := { dst := some 46, op := Op.move (Operand.tmp 11), type := 25, pos := "more.go:19", after := #[{ on := 6, ground := Ground.guard }], guard := some (6, false) }) (v := undef) rfl (by kernel_rfl) (by kernel_rfl) (by kernel_rfl) (by kernel_rfl) (by kernel_rfl) (fun _ _ _ h => h) (BL.cls w6) ?_ ?_
      · exact Or.inr ⟨rfl, rfl⟩
      try simp only [Act.put, List.setIfInBounds_toArray, List.set_cons_zero, List.set_cons_succ]
      refine wpAnyU_take (i := 9) (oi := { dst := some 47, op := Op.call { callee := Callee.value (Operand.func 8), args := #[Operand.tmp 45, Operand.tmp 46], argTypes := #[25, 25] }, type := 4, pos := "more.go:19", after := #[{ on := 7, ground := Ground.data }, { on := 8, ground := Ground.data }, { on := 6, ground := Ground.chain }, { on := 6, ground := Ground.guard }], guard := some (6, false) }) (v := undef) rfl (by kernel_rfl) (by kernel_rfl) (by kernel_rfl) (by kernel_rfl) (by kernel_rfl) (fun _ _ _ h => h) (BL.cls w6) ?_ ?_
      · exact Or.inr ⟨rfl, rfl⟩
      try simp only [Act.put, List.setIfInBounds_toArray, List.set_cons_zero, List.set_cons_succ]
      refine wpAnyU_take (i := 10) (oi := { dst := some 48, op := Op.load 41 (Operand.tmp 6), type := 41, pos := "more.go:19", after := #[{ on := 6, ground := Ground.guard }], guard := some (6, false) }) (v := undef) rfl (by kernel_rfl) (by kernel_rfl) (by kernel_rfl) (by kernel_rfl) (by kernel_rfl) (fun _ _ _ h => h) (BL.cls w6) ?_ ?_
      · exact Or.inr ⟨rfl, rfl⟩
      try simp only [Act.put, List.setIfInBounds_toArray, List.set_cons_zero, List.set_cons_succ]
      refine wpAnyU_take (i := 11) (oi := { dst := some 49, op := Op.load 41 (Operand.tmp 7), type := 41, pos := "more.go:19", after := #[{ on := 6, ground := Ground.guard }], guard := some (6, false) }) (v := undef) rfl (by kernel_rfl) (by kernel_rfl) (by kernel_rfl) (by kernel_rfl) (by kernel_rfl) (fun _ _ _ h => h) (BL.cls w6) ?_ ?_
      · exact Or.inr ⟨rfl, rfl⟩
      try simp only [Act.put, List.setIfInBounds_toArray, List.set_cons_zero, List.set_cons_succ]
      refine wpAnyU_take (i := 12) (oi := { dst := some 50, op := Op.call { callee := Callee.value (Operand.func 19), args := #[Operand.tmp 48, Operand.tmp 49], argTypes := #[41, 41] }, type := 4, pos := "more.go:19", after := #[{ on := 10, ground := Ground.data }, { on := 11, ground := Ground.data }, { on := 9, ground := Ground.chain }, { on := 6, ground := Ground.guard }], guard := some (6, false) }) (v := undef) rfl (by kernel_rfl) (by kernel_rfl) (by kernel_rfl) (by kernel_rfl) (by kernel_rfl) (fun _ _ _ h => h) (BL.cls w6) ?_ ?_
      · exact Or.inr ⟨rfl, rfl⟩
      try simp only [Act.put, List.setIfInBounds_toArray, List.set_cons_zero, List.set_cons_succ]
      refine wpAnyU_take (i := 13) (oi := { dst := some 51, op := Op.binOp BinOp.eql 4 (Operand.tmp 47) (Operand.tmp 50) 4, type := 4, pos := "more.go:19", after := #[{ on := 9, ground := Ground.data }, { on := 12, ground := Ground.data }, { on := 6, ground := Ground.guard }], guard := some (6, false) }) (v := undef) rfl (by kernel_rfl) (by kernel_rfl) (by kernel_rfl) (by kernel_rfl) (by kernel_rfl) (fun _ _ _ h => h) (BL.cls w6) ?_ ?_
      · exact Or.inr ⟨rfl, rfl⟩
      try simp only [Act.put, List.setIfInBounds_toArray, List.set_cons_zero, List.set_cons_succ]
      refine wpAnyU_take (i := 14) (oi := { dst := some 52, op := Op.pick (Operand.tmp 44) (Operand.const (Value.bool true)) (Operand.tmp 51), type := 4, pos := "more.go:19", after := #[{ on := 6, ground := Ground.data }, { on := 13, ground := Ground.data }], guard := none }) (v := (.bool true)) rfl (by kernel_rfl) (by kernel_rfl) (by kernel_rfl) (by kernel_rfl) (by kernel_rfl) (fun _ _ _ h => h) (BL.cls w6) ?_ ?_
      · refine Or.inl ⟨rfl, fun w hSw => ?_⟩
        exact EffR.same (by go_simp)
      try simp only [Act.put, List.setIfInBounds_toArray, List.set_cons_zero, List.set_cons_succ]
      refine wpAnyU_take (i := 15) (oi := { dst := some 53, op := Op.move (Operand.tmp 52), type := 4, pos := "more.go:19", after := #[{ on := 14, ground := Ground.data }, { on := 12, ground := Ground.chain }], guard := none }) (v := (.bool true)) rfl (by kernel_rfl) (by kernel_rfl) (by kernel_rfl) (by kernel_rfl) (by kernel_rfl) (fun _ _ _ h => h) (BL.cls w6) ?_ ?_
      · refine Or.inl ⟨rfl, fun w hSw => ?_⟩
        exact EffR.same (by go_simp)
      try simp only [Act.put, List.setIfInBounds_toArray, List.set_cons_zero, List.set_cons_succ]
      refine wpAnyU_take (i := 16) (oi := { dst := some 54, op := Op.call { callee := Callee.value (Operand.func 16), args := #[], argTypes := #[] }, type := 4, pos := "more.go:19", after := #[{ on := 15, ground := Ground.chain }, { on := 15, ground := Ground.guard }], guard := some (15, true) }) (v := (.bool true)) rfl (by kernel_rfl) (by kernel_rfl) (by kernel_rfl) (by kernel_rfl) (by kernel_rfl) (fun _ _ _ h => h) (BL.cls w6) ?_ ?_
      · refine Or.inl ⟨rfl, fun w hSw => ?_⟩
        go_simp
        show Calls _ _ _ _ _
        refine (wakes_any _).mono ?_
        rintro e w1 ⟨rfl, hb⟩
        exact ⟨rfl, hb⟩
      try simp only [Act.put, List.setIfInBounds_toArray, List.set_cons_zero, List.set_cons_succ]
      refine wpAnyU_take (i := 17) (oi := { dst := some 55, op := Op.pick (Operand.tmp 53) (Operand.tmp 54) (Operand.const (Value.bool false)), type := 4, pos := "more.go:19", after := #[{ on := 15, ground := Ground.data }, { on := 16, ground := Ground.data }], guard := none }) (v := (.bool true)) rfl (by kernel_rfl) (by kernel_rfl) (by kernel_rfl) (by kernel_rfl) (by kernel_rfl) (fun _ _ _ h => h) (BL.cls w6) ?_ ?_
      · refine Or.inl ⟨rfl, fun w hSw => ?_⟩
        exact EffR.same (by go_simp)
      try simp only [Act.put, List.setIfInBounds_toArray, List.set_cons_zero, List.set_cons_succ]
      refine wpAnyU_take (i := 18) (oi := { dst := some 8, op := Op.assign (Operand.tmp 55), type := 4, pos := "more.go:19", after := #[{ on := 17, ground := Ground.data }, { on := 16, ground := Ground.chain }, { on := 0, ground := Ground.phase }, { on := 1, ground := Ground.phase }, { on := 2, ground := Ground.phase }, { on := 3, ground := Ground.phase }, { on := 4, ground := Ground.phase }, { on := 5, ground := Ground.phase }, { on := 6, ground := Ground.phase }, { on := 7, ground := Ground.phase }, { on := 8, ground := Ground.phase }, { on := 9, ground := Ground.phase }, { on := 10, ground := Ground.phase }, { on := 11, ground := Ground.phase }, { on := 12, ground := Ground.phase }, { on := 13, ground := Ground.phase }, { on := 14, ground := Ground.phase }, { on := 15, ground := Ground.phase }, { on := 16, ground := Ground.phase }, { on := 17, ground := Ground.phase }], guard := none }) (v := (.bool true)) rfl (by kernel_rfl) (by kernel_rfl) (by kernel_rfl) (by kernel_rfl) (by kernel_rfl) (fun _ _ _ h => h) (BL.cls w6) ?_ ?_
      · refine Or.inl ⟨rfl, fun w hSw => ?_⟩
        exact EffR.same (by go_simp)
      try simp only [Act.put, List.setIfInBounds_toArray, List.set_cons_zero, List.set_cons_succ]
      refine wpAnyU_done (by kernel_rfl) (fun w1 hb1 => ?_) _
      go_wp2_with fail
      go_ret
      exact ⟨rfl, bgo HV.out.2.2.2.2.2.2.2.2 hb1 HV.out.2.2.2.2.2.2.2.2.size⟩
end Cam
