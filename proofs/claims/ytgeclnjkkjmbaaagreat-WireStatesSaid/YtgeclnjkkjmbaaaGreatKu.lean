import Derived.Test.YtgeclnjkkjmbaaaGreatKr
import Derived.Test.YtgeclnjkkjmbaaaGreatWtE
/- cambistkeep.Roll, Book, State over values that are the same. -/
namespace Cam
open Go Go.RowKit Go.Proofs
set_option linter.unusedVariables false
set_option linter.unusedSimpArgs false
set_option maxRecDepth 100000
set_option maxHeartbeats 3200000
theorem wpList_load_mid_w {P : Program} {ops : Array Oper} {rest : List Oper} {op : Oper} {a : Act} {w : World} {Q : Exit → Act → World → Prop} (hw : Region.wanted op (yielded ops a.tmps) = true) (ty : TypeId) (x : Operand) (ho : op.op = .load ty x)
  (b o : Nat) (hx : a.eval x = .pointer (some ⟨b, o, none⟩)) (cs : List Value) (d : TypeDesc) (hc : w.rangeAt b o cs)
  (hu : P.underlying ty = some d) (hd : d.isRow = true) (hi : (P.info? ty).map (·.size) = some cs.length)
  (h : wpList P ops Q rest (a.put op.dst (.agg cs.toArray)) w) : wpList P ops Q (op :: rest) a w :=
 wpList_step fun K hK => by simp only [hw, if_true]; exact wp_load_mid ty x ho b o hx cs d hc hu hd hi (hK _ _ h)
theorem KRoll_same (w : World) (v0 v1 v2 u0 u1 u2 : Value) (L0 : List MbT) (L1 : List InT) (L2 : List AsT) (h0 : Rs MbT.vs 3 w v0 L0) (k0 : Rs MbT.vs 3 w u0 L0) (h1 : Rs InT.vs 12 w v1 L1) (k1 : Rs InT.vs 12 w u1 L1) (h2 : Rs AsT.vs 4 w v2 L2) (k2 : Rs AsT.vs 4 w u2 L2) :
  Calls Tryz.prog 41 #[.agg #[v0, v1, v2], .agg #[u0, u1, u2]] w fun e w' => e = .returned (.bool true) ∧ Below w.heap.size w w' := by
 obtain ⟨a0, c0, rfl, _, _⟩ := h0.shape
 obtain ⟨b0, d0, rfl, _, _⟩ := k0.shape
 have HA0 := Lh h0
 have HK0 := Lh k0
 clear h0 k0
 obtain ⟨a1, c1, rfl, _, _⟩ := h1.shape
 obtain ⟨b1, d1, rfl, _, _⟩ := k1.shape
 have HA1 := Lh h1
 have HK1 := Lh k1
 clear h1 k1
 obtain ⟨a2, c2, rfl, _, _⟩ := h2.shape
 obtain ⟨b2, d2, rfl, _, _⟩ := k2.shape
 have HA2 := Lh h2
 have HK2 := Lh k2
 clear h2 k2
 have hb2 := Below.alloc (Below.alloc (Below.refl w.heap.size w) (Nat.le_refl _) (.cells #[.slice a0 L0.length c0, .slice a1 L1.length c1, .slice a2 L2.length c2] 28)) (by simp) (.cells #[.slice b0 L0.length d0, .slice b1 L1.length d1, .slice b2 L2.length d2] 28)
 have hc1 : HT ((w.alloc (.cells #[.slice a0 L0.length c0, .slice a1 L1.length c1, .slice a2 L2.length c2] 28)).alloc (.cells #[.slice b0 L0.length d0, .slice b1 L1.length d1, .slice b2 L2.length d2] 28)) w.heap.size 28 [.slice a0 L0.length c0, .slice a1 L1.length c1, .slice a2 L2.length c2] := (HT.new (w := w)).below (Bn)
 have hc2 : HT ((w.alloc (.cells #[.slice a0 L0.length c0, .slice a1 L1.length c1, .slice a2 L2.length c2] 28)).alloc (.cells #[.slice b0 L0.length d0, .slice b1 L1.length d1, .slice b2 L2.length d2] 28)) (w.heap.size + 1) 28 [.slice b0 L0.length d0, .slice b1 L1.length d1, .slice b2 L2.length d2] := by
  have := HT.new (w := w.alloc (.cells #[.slice a0 L0.length c0, .slice a1 L1.length c1, .slice a2 L2.length c2] 28)) (t := 28) (C := [.slice b0 L0.length d0, .slice b1 L1.length d1, .slice b2 L2.length d2])
  rw [show (w.alloc (.cells #[.slice a0 L0.length c0, .slice a1 L1.length c1, .slice a2 L2.length c2] 28)).heap.size = w.heap.size + 1 by simp] at this
  exact this
 have HX0 := Lh hc1
 have HY0 := Lh hc2
 have HB0 := Lh hb2
 clear hb2 hc1 hc2
 go_in
 have rc := KMembers_same ((w.alloc (.cells #[.slice a0 L0.length c0, .slice a1 L1.length c1, .slice a2 L2.length c2] 28)).alloc (.cells #[.slice b0 L0.length d0, .slice b1 L1.length d1, .slice b2 L2.length d2] 28)) _ _ L0 (HA0.out.mono HB0.out) (HK0.out.mono HB0.out)
 go_wp2_with fail
 refine rc.mono ?_
 clear rc
 rintro e w1 ⟨rfl, hb⟩
 have HB1 := Lh (bgo HB0.out hb HB0.out.size)
 have HX1 := Lh (HX0.out.below hb)
 have HY1 := Lh (HY0.out.below hb)
 clear hb HX0 HY0
 have rc := KInsts_same w1 _ _ L1 (HA1.out.mono HB1.out) (HK1.out.mono HB1.out)
 have hx := HX1.out.cell (j := 1) rfl
 have hy := HY1.out.cell (j := 1) rfl
 go_wp2_with fail
 clear hx hy
 refine rc.mono ?_
 clear rc
 rintro e w2 ⟨rfl, hb⟩
 have HB2 := Lh (bgo HB1.out hb HB1.out.size)
 have HX2 := Lh (HX1.out.below hb)
 have HY2 := Lh (HY1.out.below hb)
 clear hb HB1 HX1 HY1
 have rc := KAssets_same w2 _ _ L2 (HA2.out.mono HB2.out) (HK2.out.mono HB2.out)
 have hx := HX2.out.cell (j := 2) rfl
 have hy := HY2.out.cell (j := 2) rfl
 go_wp2_with fail
 clear hx hy
 refine rc.mono ?_
 clear rc
 rintro e w3 ⟨rfl, hb⟩
 have HB3 := Lh (bgo HB2.out hb HB2.out.size)
 have HX3 := Lh (HX2.out.below hb)
 have HY3 := Lh (HY2.out.below hb)
 clear hb HB2 HX2 HY2
 go_wp2_with fail
 go_ret
 exact ⟨rfl, HB3.out⟩
theorem KBook_same (w : World) (v0 v1 u0 u1 : Value) (nx : Int) (L0 : List TrT) (L1 : List PoT) (h0 : Rs TrT.vs 7 w v0 L0) (k0 : Rs TrT.vs 7 w u0 L0) (h1 : Rs PoT.vs 4 w v1 L1) (k1 : Rs PoT.vs 4 w u1 L1) :
  Calls Tryz.prog 42 #[.agg #[nx, v0, v1], .agg #[nx, u0, u1]] w fun e w' => e = .returned (.bool true) ∧ Below w.heap.size w w' := by
 obtain ⟨a0, c0, rfl, _, _⟩ := h0.shape
 obtain ⟨b0, d0, rfl, _, _⟩ := k0.shape
 have HA0 := Lh h0
 have HK0 := Lh k0
 clear h0 k0
 obtain ⟨a1, c1, rfl, _, _⟩ := h1.shape
 obtain ⟨b1, d1, rfl, _, _⟩ := k1.shape
 have HA1 := Lh h1
 have HK1 := Lh k1
 clear h1 k1
 have hb2 := Below.alloc (Below.alloc (Below.refl w.heap.size w) (Nat.le_refl _) (.cells #[nx, .slice a0 L0.length c0, .slice a1 L1.length c1] 32)) (by simp) (.cells #[nx, .slice b0 L0.length d0, .slice b1 L1.length d1] 32)
 have hc1 : HT ((w.alloc (.cells #[nx, .slice a0 L0.length c0, .slice a1 L1.length c1] 32)).alloc (.cells #[nx, .slice b0 L0.length d0, .slice b1 L1.length d1] 32)) w.heap.size 32 [nx, .slice a0 L0.length c0, .slice a1 L1.length c1] := (HT.new (w := w)).below (Bn)
 have hc2 : HT ((w.alloc (.cells #[nx, .slice a0 L0.length c0, .slice a1 L1.length c1] 32)).alloc (.cells #[nx, .slice b0 L0.length d0, .slice b1 L1.length d1] 32)) (w.heap.size + 1) 32 [nx, .slice b0 L0.length d0, .slice b1 L1.length d1] := by
  have := HT.new (w := w.alloc (.cells #[.int .i64 nx, .slice a0 L0.length c0, .slice a1 L1.length c1] 32)) (t := 32) (C := [.int .i64 nx, .slice b0 L0.length d0, .slice b1 L1.length d1])
  rw [show (w.alloc (.cells #[nx, .slice a0 L0.length c0, .slice a1 L1.length c1] 32)).heap.size = w.heap.size + 1 by simp] at this
  exact this
 have HX0 := Lh hc1
 have HY0 := Lh hc2
 have HB0 := Lh hb2
 clear hb2 hc1 hc2
 go_in
 have rc := KTrades_same ((w.alloc (.cells #[nx, .slice a0 L0.length c0, .slice a1 L1.length c1] 32)).alloc (.cells #[nx, .slice b0 L0.length d0, .slice b1 L1.length d1] 32)) _ _ L0 (HA0.out.mono HB0.out) (HK0.out.mono HB0.out)
 go_wp2_with fail
 refine rc.mono ?_
 clear rc
 rintro e w1 ⟨rfl, hb⟩
 have HB1 := Lh (bgo HB0.out hb HB0.out.size)
 have HX1 := Lh (HX0.out.below hb)
 have HY1 := Lh (HY0.out.below hb)
 clear hb HX0 HY0
 have rc := KPoss_same w1 _ _ L1 (HA1.out.mono HB1.out) (HK1.out.mono HB1.out)
 have hx := HX1.out.cell (j := 2) rfl
 have hy := HY1.out.cell (j := 2) rfl
 go_wp2_with fail
 clear hx hy
 refine rc.mono ?_
 clear rc
 rintro e w2 ⟨rfl, hb⟩
 have HB2 := Lh (bgo HB1.out hb HB1.out.size)
 have HX2 := Lh (HX1.out.below hb)
 have HY2 := Lh (HY1.out.below hb)
 clear hb HB1 HX1 HY1
 go_wp2_with fail
 go_ret
 exact ⟨rfl, HB2.out⟩
theorem KState_same (w : World) (a1 : Option Addr) (n1 c1 : Nat) (a2 : Option Addr) (n2 c2 : Nat) (a3 : Option Addr) (n3 c3 : Nat) (a4 : Option Addr) (n4 c4 : Nat) (a5 : Option Addr) (n5 c5 : Nat) (a6 : Option Addr) (n6 c6 : Nat) (a7 : Option Addr) (n7 c7 : Nat) (a8 : Option Addr) (n8 c8 : Nat) (a9 : Option Addr) (n9 c9 : Nat) (a10 : Option Addr) (n10 c10 : Nat) (La : List SV) (b1 : Option Addr) (m1 d1 : Nat) (b2 : Option Addr) (m2 d2 : Nat) (b3 : Option Addr) (m3 d3 : Nat) (b4 : Option Addr) (m4 d4 : Nat) (b5 : Option Addr) (m5 d5 : Nat) (b6 : Option Addr) (m6 d6 : Nat) (b7 : Option Addr) (m7 d7 : Nat) (b8 : Option Addr) (m8 d8 : Nat) (b9 : Option Addr) (m9 d9 : Nat) (b10 : Option Addr) (m10 d10 : Nat) (Lb : List SV) (s : StT) (hA : StC w a1 n1 c1 a2 n2 c2 a3 n3 c3 a4 n4 c4 a5 n5 c5 a6 n6 c6 a7 n7 c7 a8 n8 c8 a9 n9 c9 a10 n10 c10 La s) (hB : StC w b1 m1 d1 b2 m2 d2 b3 m3 d3 b4 m4 d4 b5 m5 d5 b6 m6 d6 b7 m7 d7 b8 m8 d8 b9 m9 d9 b10 m10 d10 Lb s) :
  Calls Tryz.prog 14 #[.agg #[s.now, s.day, s.ph, .slice a1 n1 c1, .slice a2 n2 c2, .slice a3 n3 c3, s.nx, .slice a4 n4 c4, .slice a5 n5 c5, s.la, .slice a6 n6 c6, .slice a7 n7 c7, .slice a8 n8 c8, .slice a9 n9 c9, .slice a10 n10 c10], .agg #[s.now, s.day, s.ph, .slice b1 m1 d1, .slice b2 m2 d2, .slice b3 m3 d3, s.nx, .slice b4 m4 d4, .slice b5 m5 d5, s.la, .slice b6 m6 d6, .slice b7 m7 d7, .slice b8 m8 d8, .slice b9 m9 d9, .slice b10 m10 d10]] w fun e w' => e = .returned (.bool true) ∧ Below w.heap.size w w' := by
 obtain ⟨x1, x2, x3, x4, x5, x6, x7, x8, x9, x10, hla, hsa⟩ := hA
 obtain ⟨y1, y2, y3, y4, y5, y6, y7, y8, y9, y10, hlb, hsb⟩ := hB
 have HA1 := Lh x1
 have HK1 := Lh y1
 have HA2 := Lh x2
 have HK2 := Lh y2
 have HA3 := Lh x3
 have HK3 := Lh y3
 have HA4 := Lh x4
 have HK4 := Lh y4
 have HA5 := Lh x5
 have HK5 := Lh y5
 have HA6 := Lh x6
 have HK6 := Lh y6
 have HA7 := Lh x7
 have HK7 := Lh y7
 have HA8 := Lh x8
 have HK8 := Lh y8
 have HA9 := Lh x9
 have HK9 := Lh y9
 have HA10 := Lh x10
 have HK10 := Lh y10
 have HSA := Lh hsa
 have HSB := Lh hsb
 have HLA := Lh hla
 have HLB := Lh hlb
 clear hsa hsb hla hlb x1 x2 x3 x4 x5 x6 x7 x8 x9 x10 y1 y2 y3 y4 y5 y6 y7 y8 y9 y10
 have hb2 := Below.alloc (Below.alloc (Below.refl w.heap.size w) (Nat.le_refl _) (.cells #[s.now, s.day, s.ph, .slice a1 n1 c1, .slice a2 n2 c2, .slice a3 n3 c3, s.nx, .slice a4 n4 c4, .slice a5 n5 c5, s.la, .slice a6 n6 c6, .slice a7 n7 c7, .slice a8 n8 c8, .slice a9 n9 c9, .slice a10 n10 c10] 41)) (by simp) (.cells #[s.now, s.day, s.ph, .slice b1 m1 d1, .slice b2 m2 d2, .slice b3 m3 d3, s.nx, .slice b4 m4 d4, .slice b5 m5 d5, s.la, .slice b6 m6 d6, .slice b7 m7 d7, .slice b8 m8 d8, .slice b9 m9 d9, .slice b10 m10 d10] 41)
 have hc1 : HT ((w.alloc (.cells #[s.now, s.day, s.ph, .slice a1 n1 c1, .slice a2 n2 c2, .slice a3 n3 c3, s.nx, .slice a4 n4 c4, .slice a5 n5 c5, s.la, .slice a6 n6 c6, .slice a7 n7 c7, .slice a8 n8 c8, .slice a9 n9 c9, .slice a10 n10 c10] 41)).alloc (.cells #[s.now, s.day, s.ph, .slice b1 m1 d1, .slice b2 m2 d2, .slice b3 m3 d3, s.nx, .slice b4 m4 d4, .slice b5 m5 d5, s.la, .slice b6 m6 d6, .slice b7 m7 d7, .slice b8 m8 d8, .slice b9 m9 d9, .slice b10 m10 d10] 41)) w.heap.size 41 [s.now, s.day, s.ph, .slice a1 n1 c1, .slice a2 n2 c2, .slice a3 n3 c3, s.nx, .slice a4 n4 c4, .slice a5 n5 c5, s.la, .slice a6 n6 c6, .slice a7 n7 c7, .slice a8 n8 c8, .slice a9 n9 c9, .slice a10 n10 c10] := (HT.new (w := w)).below (Bn)
 have hc2 : HT ((w.alloc (.cells #[s.now, s.day, s.ph, .slice a1 n1 c1, .slice a2 n2 c2, .slice a3 n3 c3, s.nx, .slice a4 n4 c4, .slice a5 n5 c5, s.la, .slice a6 n6 c6, .slice a7 n7 c7, .slice a8 n8 c8, .slice a9 n9 c9, .slice a10 n10 c10] 41)).alloc (.cells #[s.now, s.day, s.ph, .slice b1 m1 d1, .slice b2 m2 d2, .slice b3 m3 d3, s.nx, .slice b4 m4 d4, .slice b5 m5 d5, s.la, .slice b6 m6 d6, .slice b7 m7 d7, .slice b8 m8 d8, .slice b9 m9 d9, .slice b10 m10 d10] 41)) (w.heap.size + 1) 41 [s.now, s.day, s.ph, .slice b1 m1 d1, .slice b2 m2 d2, .slice b3 m3 d3, s.nx, .slice b4 m4 d4, .slice b5 m5 d5, s.la, .slice b6 m6 d6, .slice b7 m7 d7, .slice b8 m8 d8, .slice b9 m9 d9, .slice b10 m10 d10] := by
  have := HT.new (w := w.alloc (.cells #[.int .i64 s.now, .int .i64 s.day, .int .i64 s.ph, .slice a1 n1 c1, .slice a2 n2 c2, .slice a3 n3 c3, .int .i64 s.nx, .slice a4 n4 c4, .slice a5 n5 c5, .int .i64 s.la, .slice a6 n6 c6, .slice a7 n7 c7, .slice a8 n8 c8, .slice a9 n9 c9, .slice a10 n10 c10] 41)) (t := 41) (C := [.int .i64 s.now, .int .i64 s.day, .int .i64 s.ph, .slice b1 m1 d1, .slice b2 m2 d2, .slice b3 m3 d3, .int .i64 s.nx, .slice b4 m4 d4, .slice b5 m5 d5, .int .i64 s.la, .slice b6 m6 d6, .slice b7 m7 d7, .slice b8 m8 d8, .slice b9 m9 d9, .slice b10 m10 d10])
  rw [show (w.alloc (.cells #[s.now, s.day, s.ph, .slice a1 n1 c1, .slice a2 n2 c2, .slice a3 n3 c3, s.nx, .slice a4 n4 c4, .slice a5 n5 c5, s.la, .slice a6 n6 c6, .slice a7 n7 c7, .slice a8 n8 c8, .slice a9 n9 c9, .slice a10 n10 c10] 41)).heap.size = w.heap.size + 1 by simp] at this
  exact this
 have HX0 := Lh hc1
 have HY0 := Lh hc2
 have HB0 := Lh hb2
 have HSZ0 : Hid (((Tryz.prog.info? 32).map (·.size)) = some 3) := Lh (by kernel_rfl)
 have HSZ1 : Hid (((Tryz.prog.info? 23).map (·.size)) = some 3) := Lh (by kernel_rfl)
 have HSZ2 : Hid (((Tryz.prog.info? 35).map (·.size)) = some 2) := Lh (by kernel_rfl)
 have HSZ3 : Hid (((Tryz.prog.info? 28).map (·.size)) = some 3) := Lh (by kernel_rfl)
 clear hb2 hc1 hc2
 go_in
 have rc := KClock_same ((w.alloc (.cells #[s.now, s.day, s.ph, .slice a1 n1 c1, .slice a2 n2 c2, .slice a3 n3 c3, s.nx, .slice a4 n4 c4, .slice a5 n5 c5, s.la, .slice a6 n6 c6, .slice a7 n7 c7, .slice a8 n8 c8, .slice a9 n9 c9, .slice a10 n10 c10] 41)).alloc (.cells #[s.now, s.day, s.ph, .slice b1 m1 d1, .slice b2 m2 d2, .slice b3 m3 d3, s.nx, .slice b4 m4 d4, .slice b5 m5 d5, s.la, .slice b6 m6 d6, .slice b7 m7 d7, .slice b8 m8 d8, .slice b9 m9 d9, .slice b10 m10 d10] 41)) s.now s.day s.ph
 have HRA : Hid (((w.alloc (.cells #[s.now, s.day, s.ph, .slice a1 n1 c1, .slice a2 n2 c2, .slice a3 n3 c3, s.nx, .slice a4 n4 c4, .slice a5 n5 c5, s.la, .slice a6 n6 c6, .slice a7 n7 c7, .slice a8 n8 c8, .slice a9 n9 c9, .slice a10 n10 c10] 41)).alloc (.cells #[s.now, s.day, s.ph, .slice b1 m1 d1, .slice b2 m2 d2, .slice b3 m3 d3, s.nx, .slice b4 m4 d4, .slice b5 m5 d5, s.la, .slice b6 m6 d6, .slice b7 m7 d7, .slice b8 m8 d8, .slice b9 m9 d9, .slice b10 m10 d10] 41)).rangeAt w.heap.size 0 [s.now, s.day, s.ph]) := Lh (fun j v h => HX0.out.cell (by rcases j with _ | _ | _ | j; all_goals first | exact h | (simp at h)))
 have HRB : Hid (((w.alloc (.cells #[s.now, s.day, s.ph, .slice a1 n1 c1, .slice a2 n2 c2, .slice a3 n3 c3, s.nx, .slice a4 n4 c4, .slice a5 n5 c5, s.la, .slice a6 n6 c6, .slice a7 n7 c7, .slice a8 n8 c8, .slice a9 n9 c9, .slice a10 n10 c10] 41)).alloc (.cells #[s.now, s.day, s.ph, .slice b1 m1 d1, .slice b2 m2 d2, .slice b3 m3 d3, s.nx, .slice b4 m4 d4, .slice b5 m5 d5, s.la, .slice b6 m6 d6, .slice b7 m7 d7, .slice b8 m8 d8, .slice b9 m9 d9, .slice b10 m10 d10] 41)).rangeAt (w.heap.size + 1) 0 [s.now, s.day, s.ph]) := Lh (fun j v h => HY0.out.cell (by rcases j with _ | _ | _ | j; all_goals first | exact h | (simp at h)))
 go_wp2_with (first
  | (refine wpList_load_mid_w (by first | rfl | simp [Region.wanted, yielded]) 23 (.tmp 5) rfl w.heap.size 0 rfl [s.now, s.day, s.ph] _ HRA.out Tryz.underlying23 rfl HSZ1.out ?_)
  | (refine wpList_load_mid_w (by first | rfl | simp [Region.wanted, yielded]) 23 (.tmp 7) rfl (w.heap.size + 1) 0 rfl [s.now, s.day, s.ph] _ HRB.out Tryz.underlying23 rfl HSZ1.out ?_)
  | fail)
 clear HRA HRB
 refine rc.mono ?_
 clear rc
 rintro e w1 ⟨rfl, hb⟩
 have HB1 := Lh (bgo HB0.out hb HB0.out.size)
 have HX1 := Lh (HX0.out.below hb)
 have HY1 := Lh (HY0.out.below hb)
 clear hb HX0 HY0
 have rc := KRoll_same w1 _ _ _ _ _ _ s.M s.I s.A (HA1.out.mono HB1.out) (HK1.out.mono HB1.out) (HA2.out.mono HB1.out) (HK2.out.mono HB1.out) (HA3.out.mono HB1.out) (HK3.out.mono HB1.out)
 have HRA : Hid (w1.rangeAt w.heap.size 3 [.slice a1 n1 c1, .slice a2 n2 c2, .slice a3 n3 c3]) := Lh (fun j v h => HX1.out.cell (by rcases j with _ | _ | _ | j; all_goals first | exact h | (simp at h)))
 have HRB : Hid (w1.rangeAt (w.heap.size + 1) 3 [.slice b1 m1 d1, .slice b2 m2 d2, .slice b3 m3 d3]) := Lh (fun j v h => HY1.out.cell (by rcases j with _ | _ | _ | j; all_goals first | exact h | (simp at h)))
 go_wp2_with (first
  | (refine wpList_load_mid_w (by first | rfl | simp [Region.wanted, yielded]) 28 (.tmp 11) rfl w.heap.size 3 rfl [.slice a1 n1 c1, .slice a2 n2 c2, .slice a3 n3 c3] _ HRA.out Tryz.underlying28 rfl HSZ3.out ?_)
  | (refine wpList_load_mid_w (by first | rfl | simp [Region.wanted, yielded]) 28 (.tmp 13) rfl (w.heap.size + 1) 3 rfl [.slice b1 m1 d1, .slice b2 m2 d2, .slice b3 m3 d3] _ HRB.out Tryz.underlying28 rfl HSZ3.out ?_)
  | fail)
 clear HRA HRB
 refine rc.mono ?_
 clear rc
 rintro e w2 ⟨rfl, hb⟩
 have HB2 := Lh (bgo HB1.out hb HB1.out.size)
 have HX2 := Lh (HX1.out.below hb)
 have HY2 := Lh (HY1.out.below hb)
 clear hb HB1 HX1 HY1
 have rc := KBook_same w2 _ _ _ _ s.nx s.T s.P (HA4.out.mono HB2.out) (HK4.out.mono HB2.out) (HA5.out.mono HB2.out) (HK5.out.mono HB2.out)
 have HRA : Hid (w2.rangeAt w.heap.size 6 [s.nx, .slice a4 n4 c4, .slice a5 n5 c5]) := Lh (fun j v h => HX2.out.cell (by rcases j with _ | _ | _ | j; all_goals first | exact h | (simp at h)))
 have HRB : Hid (w2.rangeAt (w.heap.size + 1) 6 [s.nx, .slice b4 m4 d4, .slice b5 m5 d5]) := Lh (fun j v h => HY2.out.cell (by rcases j with _ | _ | _ | j; all_goals first | exact h | (simp at h)))
 go_wp2_with (first
  | (refine wpList_load_mid_w (by first | rfl | simp [Region.wanted, yielded]) 32 (.tmp 18) rfl w.heap.size 6 rfl [s.nx, .slice a4 n4 c4, .slice a5 n5 c5] _ HRA.out Tryz.underlying32 rfl HSZ0.out ?_)
  | (refine wpList_load_mid_w (by first | rfl | simp [Region.wanted, yielded]) 32 (.tmp 20) rfl (w.heap.size + 1) 6 rfl [s.nx, .slice b4 m4 d4, .slice b5 m5 d5] _ HRB.out Tryz.underlying32 rfl HSZ0.out ?_)
  | fail)
 clear HRA HRB
 refine rc.mono ?_
 clear rc
 rintro e w3 ⟨rfl, hb⟩
 have HB3 := Lh (bgo HB2.out hb HB2.out.size)
 have HX3 := Lh (HX2.out.below hb)
 have HY3 := Lh (HY2.out.below hb)
 clear hb HB2 HX2 HY2
 have rc := KLedger_same w3 s.la _ _ s.B (HA6.out.mono HB3.out) (HK6.out.mono HB3.out)
 have HRA : Hid (w3.rangeAt w.heap.size 9 [s.la, .slice a6 n6 c6]) := Lh (fun j v h => HX3.out.cell (by rcases j with _ | _ | j; all_goals first | exact h | (simp at h)))
 have HRB : Hid (w3.rangeAt (w.heap.size + 1) 9 [s.la, .slice b6 m6 d6]) := Lh (fun j v h => HY3.out.cell (by rcases j with _ | _ | j; all_goals first | exact h | (simp at h)))
 go_wp2_with (first
  | (refine wpList_load_mid_w (by first | rfl | simp [Region.wanted, yielded]) 35 (.tmp 25) rfl w.heap.size 9 rfl [s.la, .slice a6 n6 c6] _ HRA.out Tryz.underlying35 rfl HSZ2.out ?_)
  | (refine wpList_load_mid_w (by first | rfl | simp [Region.wanted, yielded]) 35 (.tmp 27) rfl (w.heap.size + 1) 9 rfl [s.la, .slice b6 m6 d6] _ HRB.out Tryz.underlying35 rfl HSZ2.out ?_)
  | fail)
 clear HRA HRB
 refine rc.mono ?_
 clear rc
 rintro e w4 ⟨rfl, hb⟩
 have HB4 := Lh (bgo HB3.out hb HB3.out.size)
 have HX4 := Lh (HX3.out.below hb)
 have HY4 := Lh (HY3.out.below hb)
 clear hb HB3 HX3 HY3
 have rc := KPledges_same w4 _ _ s.G (HA7.out.mono HB4.out) (HK7.out.mono HB4.out)
 have hx := HX4.out.cell (j := 11) rfl
 have hy := HY4.out.cell (j := 11) rfl
 go_wp2_with fail
 clear hx hy
 refine rc.mono ?_
 clear rc
 rintro e w5 ⟨rfl, hb⟩
 have HB5 := Lh (bgo HB4.out hb HB4.out.size)
 have HX5 := Lh (HX4.out.below hb)
 have HY5 := Lh (HY4.out.below hb)
 clear hb HB4 HX4 HY4
 have rc := KCalls_same w5 _ _ s.C (HA8.out.mono HB5.out) (HK8.out.mono HB5.out)
 have hx := HX5.out.cell (j := 12) rfl
 have hy := HY5.out.cell (j := 12) rfl
 go_wp2_with fail
 clear hx hy
 refine rc.mono ?_
 clear rc
 rintro e w6 ⟨rfl, hb⟩
 have HB6 := Lh (bgo HB5.out hb HB5.out.size)
 have HX6 := Lh (HX5.out.below hb)
 have HY6 := Lh (HY5.out.below hb)
 clear hb HB5 HX5 HY5
 have rc := KBids_same w6 _ _ s.D (HA9.out.mono HB6.out) (HK9.out.mono HB6.out)
 have hx := HX6.out.cell (j := 13) rfl
 have hy := HY6.out.cell (j := 13) rfl
 go_wp2_with fail
 clear hx hy
 refine rc.mono ?_
 clear rc
 rintro e w7 ⟨rfl, hb⟩
 have HB7 := Lh (bgo HB6.out hb HB6.out.size)
 have HX7 := Lh (HX6.out.below hb)
 have HY7 := Lh (HY6.out.below hb)
 clear hb HB6 HX6 HY6
 have rc := KSeats_same w7 _ _ La Lb s.S (HA10.out.mono HB7.out) (HK10.out.mono HB7.out) HLA.out HLB.out (fun i h h' => (HSA.out i h h').mono HB7.out) (fun i h h' => (HSB.out i h h').mono HB7.out)
 have hx := HX7.out.cell (j := 14) rfl
 have hy := HY7.out.cell (j := 14) rfl
 go_wp2_with fail
 clear hx hy
 refine rc.mono ?_
 clear rc
 rintro e w8 ⟨rfl, hb⟩
 have HB8 := Lh (bgo HB7.out hb HB7.out.size)
 have HX8 := Lh (HX7.out.below hb)
 have HY8 := Lh (HY7.out.below hb)
 clear hb HB7 HX7 HY7
 go_wp2_with fail
 go_ret
 exact ⟨rfl, HB8.out⟩
end Cam
