import Derived.Test.YtgeclnjkkjmbaaaGreatKs
import Derived.Test.YtgeclnjkkjmbaaaGreatWtD
/- cambistkeep over a state's rows that are the same: those with parts. -/
namespace Cam
open Go Go.RowKit Go.Proofs
set_option linter.unusedVariables false
set_option linter.unusedSimpArgs false
set_option maxRecDepth 100000
set_option maxHeartbeats 3200000
theorem KPos_same (w : World) (a b c d : Int) : Calls Tryz.prog 132 #[.agg #[a, b, c, d], .agg #[a, b, c, d]] w fun e w' => e = .returned (.bool true) ∧ Below w.heap.size w w' := by
 have HB := Lh ((((Below.refl w.heap.size w).alloc (Nat.le_refl _) (.cells #[a, b, c, d] 98)).alloc (by simp) (.cells #[a, b, c, d] 98)))
 have hc1 : HT ((w.alloc (.cells #[.int .i64 a, .int .i64 b, .int .i64 c, .int .i64 d] 98)).alloc (.cells #[.int .i64 a, .int .i64 b, .int .i64 c, .int .i64 d] 98)) w.heap.size 98 [.int .i64 a, .int .i64 b, .int .i64 c, .int .i64 d] := (HT.new (w := w) (t := 98) (C := [.int .i64 a, .int .i64 b, .int .i64 c, .int .i64 d])).below (Bn)
 have hc2 : HT ((w.alloc (.cells #[a, b, c, d] 98)).alloc (.cells #[a, b, c, d] 98)) (w.heap.size + 1) 98 [a, b, c, d] := by
  have := HT.new (w := w.alloc (.cells #[.int .i64 a, .int .i64 b, .int .i64 c, .int .i64 d] 98)) (t := 98) (C := [.int .i64 a, .int .i64 b, .int .i64 c, .int .i64 d])
  rw [show (w.alloc (.cells #[a, b, c, d] 98)).heap.size = w.heap.size + 1 by simp] at this
  exact this
 have HRA : Hid (((w.alloc (.cells #[a, b, c, d] 98)).alloc (.cells #[a, b, c, d] 98)).rangeAt w.heap.size 0 [a, b]) := fun j v h => hc1.cell (by rcases j with _ | _ | j; all_goals first | exact h | (simp at h))
 have HRB : Hid (((w.alloc (.cells #[a, b, c, d] 98)).alloc (.cells #[a, b, c, d] 98)).rangeAt (w.heap.size + 1) 0 [a, b]) := fun j v h => hc2.cell (by rcases j with _ | _ | j; all_goals first | exact h | (simp at h))
 have HC1 := Lh hc1
 have HC2 := Lh hc2
 have HSZ : Hid (((Tryz.prog.info? 96).map (·.size)) = some 2) := Lh (by kernel_rfl)
 clear hc1 hc2
 go_in
 go_wp2_with (first
  | (refine wpList_load_mid rfl 96 (.tmp 5) rfl w.heap.size 0 rfl [a, b] _ HRA.out Tryz.underlying96 rfl HSZ.out ?_)
  | (refine wpList_load_mid rfl 96 (.tmp 7) rfl (w.heap.size + 1) 0 rfl [a, b] _ HRB.out Tryz.underlying96 rfl HSZ.out ?_)
  | fail)
 refine (KKey_same _ _ _).mono ?_
 rintro e w1 ⟨rfl, hb⟩
 have HX := Lh (HC1.out.below hb)
 have HY := Lh (HC2.out.below hb)
 have HB2 := Lh (HB.out.trans (hb.mono HB.out.size))
 clear hb
 have hx2 := HX.out.cell (j := 2) rfl
 have hy2 := HY.out.cell (j := 2) rfl
 have hx3 := HX.out.cell (j := 3) rfl
 have hy3 := HY.out.cell (j := 3) rfl
 go_wp2_with fail
 go_ret
 exact ⟨rfl, HB2.out⟩
theorem KPoss_same (w : World) (va vb : Value) (L : List PoT) (ha : Rs PoT.vs 4 w va L) (hb : Rs PoT.vs 4 w vb L) :
  Calls Tryz.prog 102 #[va, vb] w fun e w' => e = .returned (.bool true) ∧ Below w.heap.size w w' := by
 obtain ⟨aa, capa, rfl, hcapa, hma⟩ := ha.shape
 obtain ⟨ab, capb, rfl, hcapb, hmb⟩ := hb.shape
 obtain ⟨n, hn⟩ : ∃ n, n = L.length := ⟨_, rfl⟩
 rw [← hn] at ha hb hcapa hcapb ⊢
 have HA := Lh ha
 have HB := Lh hb
 have HN := Lh hn
 clear ha hb hn
 go_in
 go_wp2_with fail
 go_loopw [5] (fun i wr => ∃ k : Nat, k ≤ n ∧ i = .int .i64 k ∧ Below w.heap.size w wr) (fun i _ => n - (intOf i).toNat)
 case atStart => exact ⟨0, Nat.zero_le _, rfl, Below.refl _ _⟩
 case round =>
  obtain ⟨k, hk, rfl, hbel⟩ := hrel
  have HBL := Lh hbel
  by_cases hlt : k < n
  ·
   have hkL : k < L.length := by rw [← HN.out]; exact hlt
   obtain ⟨ba, offa, rfl, _, hca⟩ := (HA.out.rew HN.out hbel).at (by omega) (by decide)
   obtain ⟨bb, offb, rfl, _, hcb⟩ := (HB.out.rew HN.out hbel).at (by omega) (by decide)
   obtain ⟨c, hc⟩ : ∃ c, c = L[k] := ⟨_, rfl⟩
   have HCA : Hid (∀ j v, [.int .i64 c.who, .int .i64 c.inst, .int .i64 c.qty, .int .i64 c.cost][j]? = some v → wr.cell? ⟨ba, offa + k * 4 + j, none⟩ = some v) := fun j v h => hca k hkL j v (by rw [← hc]; exact h)
   have HCB : Hid (∀ j v, [.int .i64 c.who, .int .i64 c.inst, .int .i64 c.qty, .int .i64 c.cost][j]? = some v → wr.cell? ⟨bb, offb + k * 4 + j, none⟩ = some v) := fun j v h => hcb k hkL j v (by rw [← hc]; exact h)
   have hk0 : (0 : Int) ≤ k := by omega
   have hk1 : (k : Int) < n := by omega
   clear hca hcb hbel hc
   go_wp2_with fail
   refine wp_region_bl 10 (by kernel_rfl) ?_
   refine uP 2 [(0, some 17, .slice (some ⟨ba, offa, none⟩) n capa), (1, some 18, .int .i64 (k : Int))] (BL.cls wr) ?_
   simp only [zq]
   refine uG 2 (some 19) (.pointer (some ⟨ba, offa + k * 4, none⟩)) (BL.cls wr) ?_
   simp only [zq]
   refine uO 3 (some 20) (.agg #[c.who, c.inst, c.qty, c.cost]) (BL.cls wr) (fun _ ho => by cases ho; exact .inl ⟨rfl, fun w hSw => eff_load_mid 98 (.tmp 19) rfl ba (offa + k * 4) rfl [c.who, c.inst, c.qty, c.cost] _ (fun j v h => BL.cell hSw (by have h7 := HCA.out (0 + j) v (by rcases j with _ | _ | _ | _ | j; all_goals first | exact h | (simp at h)); simpa [Nat.add_assoc] using h7)) Tryz.underlying98 rfl (by rw [show ((Tryz.prog.info? 98).map (·.size)) = some 4 from by kernel_rfl]; rfl)⟩) ?_
   refine uP 2 [(4, some 21, .slice (some ⟨bb, offb, none⟩) n capb), (5, some 22, .int .i64 (k : Int))] (BL.cls wr) ?_
   simp only [zq]
   refine uG 6 (some 23) (.pointer (some ⟨bb, offb + k * 4, none⟩)) (BL.cls wr) ?_
   simp only [zq]
   refine uO 7 (some 24) (.agg #[c.who, c.inst, c.qty, c.cost]) (BL.cls wr) (fun _ ho => by cases ho; exact .inl ⟨rfl, fun w hSw => eff_load_mid 98 (.tmp 23) rfl bb (offb + k * 4) rfl [c.who, c.inst, c.qty, c.cost] _ (fun j v h => BL.cell hSw (by have h7 := HCB.out (0 + j) v (by rcases j with _ | _ | _ | _ | j; all_goals first | exact h | (simp at h)); simpa [Nat.add_assoc] using h7)) Tryz.underlying98 rfl (by rw [show ((Tryz.prog.info? 98).map (·.size)) = some 4 from by kernel_rfl]; rfl)⟩) ?_
   simp only [zq]
   refine uO 8 (some 25) (.bool true) (BL.cls wr) (fun o ho => ?_) ?_
   ·
    cases ho
    refine Or.inl ⟨rfl, fun w hSw => ?_⟩
    go_simp
    show Calls _ _ _ _ _
    refine (KPos_same _ _ _ _ _).mono ?_
    rintro e w1 ⟨rfl, hb⟩
    exact ⟨rfl, hb⟩
   try simp only [zq]
   refine uG 9 (some 26) (.bool false) (BL.cls wr) ?_
   simp only [zq]
   refine wpAnyU_done (by kernel_rfl) (fun w1 hb1 => ?_) _
   go_wp2_with fail
   exact ⟨⟨k + 1, by omega, by push_cast; rfl, bgoS HBL.out hb1⟩, by simp [intOf]; omega⟩
  ·
   obtain rfl : k = n := by omega
   go_wp2_with fail
   go_ret
   exact ⟨rfl, HBL.out⟩
theorem KInst_any (w : World) (x0 x1 x2 x3 x4 x5 x6 x7 x8 x9 x10 x11 y0 y1 y2 y3 y4 y5 y6 y7 y8 y9 y10 y11 : Int) :
  Calls Tryz.prog 130 #[.agg #[.int .i64 x0, .int .i64 x1, .int .i64 x2, .int .i64 x3, .int .i64 x4, .int .i64 x5, .int .i64 x6, .int .i64 x7, .int .i64 x8, .int .i64 x9, .int .i64 x10, .int .i64 x11], .agg #[.int .i64 y0, .int .i64 y1, .int .i64 y2, .int .i64 y3, .int .i64 y4, .int .i64 y5, .int .i64 y6, .int .i64 y7, .int .i64 y8, .int .i64 y9, .int .i64 y10, .int .i64 y11]] w fun e w' => e = .returned (.bool (decide ([x0, x1, x2, x3, x4, x5, x6, x7, x8, x9, x10, x11] = [y0, y1, y2, y3, y4, y5, y6, y7, y8, y9, y10, y11]))) ∧ Below w.heap.size w w' := by
 have hb1 : Below w.heap.size w (w.alloc (.cells #[x0, x1, x2, x3, x4, x5, x6, x7, x8, x9, x10, x11] 88)) := Bn
 have hb2 : Below w.heap.size w ((w.alloc (.cells #[x0, x1, x2, x3, x4, x5, x6, x7, x8, x9, x10, x11] 88)).alloc (.cells #[y0, y1, y2, y3, y4, y5, y6, y7, y8, y9, y10, y11] 88)) := hb1.alloc hb1.size _
 have hc1 : HT ((w.alloc (.cells #[x0, x1, x2, x3, x4, x5, x6, x7, x8, x9, x10, x11] 88)).alloc (.cells #[y0, y1, y2, y3, y4, y5, y6, y7, y8, y9, y10, y11] 88)) w.heap.size 88 (ivs [x0, x1, x2, x3, x4, x5, x6, x7, x8, x9, x10, x11]) := (HT.new (w := w) (t := 88) (C := ivs [x0, x1, x2, x3, x4, x5, x6, x7, x8, x9, x10, x11])).below (Bn)
 have hc2 : HT ((w.alloc (.cells #[x0, x1, x2, x3, x4, x5, x6, x7, x8, x9, x10, x11] 88)).alloc (.cells #[y0, y1, y2, y3, y4, y5, y6, y7, y8, y9, y10, y11] 88)) (w.heap.size + 1) 88 (ivs [y0, y1, y2, y3, y4, y5, y6, y7, y8, y9, y10, y11]) := by
  have := HT.new (w := w.alloc (.cells #[x0, x1, x2, x3, x4, x5, x6, x7, x8, x9, x10, x11] 88)) (t := 88) (C := ivs [y0, y1, y2, y3, y4, y5, y6, y7, y8, y9, y10, y11])
  rw [show (w.alloc (.cells #[x0, x1, x2, x3, x4, x5, x6, x7, x8, x9, x10, x11] 88)).heap.size = w.heap.size + 1 by simp] at this
  exact this
 have HB2 := Lh hb2
 have HC1 := Lh hc1
 have HC2 := Lh hc2
 clear hb1 hb2 hc1 hc2
 obtain ⟨d, hd⟩ : ∃ d : Bool, d = decide ([x0, x1, x2, x3, x4, x5, x6, x7, x8, x9, x10, x11] = [y0, y1, y2, y3, y4, y5, y6, y7, y8, y9, y10, y11]) := ⟨_, rfl⟩
 rw [← hd]
 have HD := Lh hd
 clear hd
 go_in
 go_wp2_with fail
 generalize hW : (w.alloc (.cells #[x0, x1, x2, x3, x4, x5, x6, x7, x8, x9, x10, x11] 88)).alloc (.cells #[y0, y1, y2, y3, y4, y5, y6, y7, y8, y9, y10, y11] 88) = W at *
 clear hW
 generalize hgx : w.heap.size = gx at *
 have HGX : Hid (w.heap.size = gx) := hgx
 clear hgx
 go_loopw [5] (fun v5 wr => ∃ k : Nat, k ≤ 6 ∧ v5 = .int .i64 k ∧ HT wr gx 88 (ivs [x0, x1, x2, x3, x4, x5, x6, x7, x8, x9, x10, x11]) ∧ HT wr (gx + 1) 88 (ivs [y0, y1, y2, y3, y4, y5, y6, y7, y8, y9, y10, y11]) ∧ (∀ j, j < k → (ivs [x0, x1, x2, x3, x4, x5, x6, x7, x8, x9, x10, x11])[6 + j]? = (ivs [y0, y1, y2, y3, y4, y5, y6, y7, y8, y9, y10, y11])[6 + j]?) ∧ Below gx w wr) (fun i _ => 6 - (intOf i).toNat)
 case atStart => exact ⟨0, by omega, rfl, HC1.out, HC2.out, fun j hj => by omega, HB2.out⟩
 case round =>
  obtain ⟨k, hk, rfl, hx, hy, heq, hbel⟩ := hrel
  have HX := Lh hx
  have HY := Lh hy
  have HEQ := Lh heq
  have HBEL := Lh hbel
  clear hx hy heq hbel
  by_cases hlt : k < 6
  ·
   obtain ⟨a, ha⟩ : ∃ a, (ivs [x0, x1, x2, x3, x4, x5, x6, x7, x8, x9, x10, x11])[6 + k]? = some (.int .i64 a) := ⟨_, ivs_at (by show 6 + k < 12; omega)⟩
   obtain ⟨b, hb⟩ : ∃ b, (ivs [y0, y1, y2, y3, y4, y5, y6, y7, y8, y9, y10, y11])[6 + k]? = some (.int .i64 b) := ⟨_, ivs_at (by show 6 + k < 12; omega)⟩
   have hcx := HX.out.cell ha
   have hcy := HY.out.cell hb
   have HA := Lh ha
   have HB := Lh hb
   clear ha hb
   go_wp2_with fail
   go_quiet (fail)
   have HQ := Lh (below_drewN' HBEL.out nq)
   have HX2 := Lh (HX.out.below (below_drewN' (Below.refl _ _) nq))
   have HY2 := Lh (HY.out.below (below_drewN' (Below.refl _ _) nq))
   by_cases hne : a = b
   ·
    have hne' : (a != b) = false := by rw [hne]; simp
    have HNE := Lh hne
    clear hne
    go_wp2_with fail
    go_roundw
    case rel => exact ⟨k + 1, by omega, by go_num, HX2.out, HY2.out, fun j hj => by
     by_cases h : j < k
     ·
      exact HEQ.out j h
     ·
      obtain rfl : j = k := by omega
      rw [HA.out, HB.out, HNE.out], HQ.out⟩
    case measure => simp [intOf]; omega
   ·
    have hne' : (a != b) = true := by rw [bne_iff_ne]; exact hne
    have hll : [x0, x1, x2, x3, x4, x5, x6, x7, x8, x9, x10, x11] ≠ [y0, y1, y2, y3, y4, y5, y6, y7, y8, y9, y10, y11] := fun h => hne (by have h1 := HA.out; rw [h, HB.out] at h1; injection h1 with h1; injection h1 with _ h2; exact h2.symm)
    have HLL := Lh hll
    clear hne hll
    go_wp2_with fail
    go_ret
    exact ⟨by rw [HD.out, decide_eq_false HLL.out]; rfl, by rw [HGX.out]; exact HQ.out⟩
  ·
   obtain rfl : k = 6 := by omega
   have HALL : Hid (x0 = y0 → x1 = y1 → x2 = y2 → x3 = y3 → x4 = y4 → decide ([x0, x1, x2, x3, x4, x5, x6, x7, x8, x9, x10, x11] = [y0, y1, y2, y3, y4, y5, y6, y7, y8, y9, y10, y11]) = (x5 == y5)) := by
    show x0 = y0 → x1 = y1 → x2 = y2 → x3 = y3 → x4 = y4 → _
    have h0 := HEQ.out 0 (by omega)
    have h1 := HEQ.out 1 (by omega)
    have h2 := HEQ.out 2 (by omega)
    have h3 := HEQ.out 3 (by omega)
    have h4 := HEQ.out 4 (by omega)
    have h5 := HEQ.out 5 (by omega)
    simp at h0 h1 h2 h3 h4 h5
    intros
    subst_vars
    rw [Bool.eq_iff_iff]
    simp
   have hx0 := HX.out.cell (j := 0) rfl
   have hy0 := HY.out.cell (j := 0) rfl
   have hx1 := HX.out.cell (j := 1) rfl
   have hy1 := HY.out.cell (j := 1) rfl
   have hx2 := HX.out.cell (j := 2) rfl
   have hy2 := HY.out.cell (j := 2) rfl
   have hx3 := HX.out.cell (j := 3) rfl
   have hy3 := HY.out.cell (j := 3) rfl
   have hx4 := HX.out.cell (j := 4) rfl
   have hy4 := HY.out.cell (j := 4) rfl
   have hx5 := HX.out.cell (j := 5) rfl
   have hy5 := HY.out.cell (j := 5) rfl
   go_wp2_with fail
   ·
    rename_i g0 g1 g2 g3 g4
    go_ret
    exact ⟨by rw [HD.out, HALL.out g0 g1 g2 g3 g4]; rfl, by rw [HGX.out]; exact HBEL.out⟩
   ·
    rename_i hn
    go_ret
    exact ⟨by rw [HD.out, decide_eq_false (show [x0, x1, x2, x3, x4, x5, x6, x7, x8, x9, x10, x11] ≠ [y0, y1, y2, y3, y4, y5, y6, y7, y8, y9, y10, y11] from fun h => hn (congrArg (fun L : List Int => L.getD 4 0) h))]; rfl, by rw [HGX.out]; exact HBEL.out⟩
   ·
    rename_i hn
    go_ret
    exact ⟨by rw [HD.out, decide_eq_false (show [x0, x1, x2, x3, x4, x5, x6, x7, x8, x9, x10, x11] ≠ [y0, y1, y2, y3, y4, y5, y6, y7, y8, y9, y10, y11] from fun h => hn (congrArg (fun L : List Int => L.getD 3 0) h))]; rfl, by rw [HGX.out]; exact HBEL.out⟩
   ·
    rename_i hn
    go_ret
    exact ⟨by rw [HD.out, decide_eq_false (show [x0, x1, x2, x3, x4, x5, x6, x7, x8, x9, x10, x11] ≠ [y0, y1, y2, y3, y4, y5, y6, y7, y8, y9, y10, y11] from fun h => hn (congrArg (fun L : List Int => L.getD 2 0) h))]; rfl, by rw [HGX.out]; exact HBEL.out⟩
   ·
    rename_i hn
    go_ret
    exact ⟨by rw [HD.out, decide_eq_false (show [x0, x1, x2, x3, x4, x5, x6, x7, x8, x9, x10, x11] ≠ [y0, y1, y2, y3, y4, y5, y6, y7, y8, y9, y10, y11] from fun h => hn (congrArg (fun L : List Int => L.getD 1 0) h))]; rfl, by rw [HGX.out]; exact HBEL.out⟩
   ·
    rename_i hn
    go_ret
    exact ⟨by rw [HD.out, decide_eq_false (show [x0, x1, x2, x3, x4, x5, x6, x7, x8, x9, x10, x11] ≠ [y0, y1, y2, y3, y4, y5, y6, y7, y8, y9, y10, y11] from fun h => hn (congrArg (fun L : List Int => L.getD 0 0) h))]; rfl, by rw [HGX.out]; exact HBEL.out⟩
theorem KInst_same (w : World) (x0 x1 x2 x3 x4 x5 x6 x7 x8 x9 x10 x11 : Int) : Calls Tryz.prog 130 #[.agg #[x0, x1, x2, x3, x4, x5, x6, x7, x8, x9, x10, x11], .agg #[x0, x1, x2, x3, x4, x5, x6, x7, x8, x9, x10, x11]] w fun e w' => e = .returned (.bool true) ∧ Below w.heap.size w w' :=
 (KInst_any w x0 x1 x2 x3 x4 x5 x6 x7 x8 x9 x10 x11 x0 x1 x2 x3 x4 x5 x6 x7 x8 x9 x10 x11).mono fun e w' h => ⟨by rw [h.1, decide_eq_true rfl], h.2⟩
theorem KInsts_same (w : World) (va vb : Value) (L : List InT) (ha : Rs InT.vs 12 w va L) (hb : Rs InT.vs 12 w vb L) :
  Calls Tryz.prog 99 #[va, vb] w fun e w' => e = .returned (.bool true) ∧ Below w.heap.size w w' := by
 obtain ⟨aa, capa, rfl, hcapa, hma⟩ := ha.shape
 obtain ⟨ab, capb, rfl, hcapb, hmb⟩ := hb.shape
 obtain ⟨n, hn⟩ : ∃ n, n = L.length := ⟨_, rfl⟩
 rw [← hn] at ha hb hcapa hcapb ⊢
 have HA := Lh ha
 have HB := Lh hb
 have HN := Lh hn
 clear ha hb hn
 go_in
 go_wp2_with fail
 go_loopw [5] (fun i wr => ∃ k : Nat, k ≤ n ∧ i = .int .i64 k ∧ Below w.heap.size w wr) (fun i _ => n - (intOf i).toNat)
 case atStart => exact ⟨0, Nat.zero_le _, rfl, Below.refl _ _⟩
 case round =>
  obtain ⟨k, hk, rfl, hbel⟩ := hrel
  have HBL := Lh hbel
  by_cases hlt : k < n
  ·
   have hkL : k < L.length := by rw [← HN.out]; exact hlt
   obtain ⟨ba, offa, rfl, _, hca⟩ := (HA.out.rew HN.out hbel).at (by omega) (by decide)
   obtain ⟨bb, offb, rfl, _, hcb⟩ := (HB.out.rew HN.out hbel).at (by omega) (by decide)
   obtain ⟨c, hc⟩ : ∃ c, c = L[k] := ⟨_, rfl⟩
   have HCA : Hid (∀ j v, [.int .i64 c.no, .int .i64 c.cur, .int .i64 c.mult, .int .i64 c.add, .int .i64 c.set, .int .i64 c.price, .int .i64 c.h0, .int .i64 c.h1, .int .i64 c.h2, .int .i64 c.h3, .int .i64 c.h4, .int .i64 c.h5][j]? = some v → wr.cell? ⟨ba, offa + k * 12 + j, none⟩ = some v) := fun j v h => hca k hkL j v (by rw [← hc]; exact h)
   have HCB : Hid (∀ j v, [.int .i64 c.no, .int .i64 c.cur, .int .i64 c.mult, .int .i64 c.add, .int .i64 c.set, .int .i64 c.price, .int .i64 c.h0, .int .i64 c.h1, .int .i64 c.h2, .int .i64 c.h3, .int .i64 c.h4, .int .i64 c.h5][j]? = some v → wr.cell? ⟨bb, offb + k * 12 + j, none⟩ = some v) := fun j v h => hcb k hkL j v (by rw [← hc]; exact h)
   have hk0 : (0 : Int) ≤ k := by omega
   have hk1 : (k : Int) < n := by omega
   clear hca hcb hbel hc
   go_wp2_with fail
   refine wp_region_bl 10 (by kernel_rfl) ?_
   refine uP 2 [(0, some 17, .slice (some ⟨ba, offa, none⟩) n capa), (1, some 18, .int .i64 (k : Int))] (BL.cls wr) ?_
   simp only [zq]
   refine uG 2 (some 19) (.pointer (some ⟨ba, offa + k * 12, none⟩)) (BL.cls wr) ?_
   simp only [zq]
   refine uO 3 (some 20) (.agg #[c.no, c.cur, c.mult, c.add, c.set, c.price, c.h0, c.h1, c.h2, c.h3, c.h4, c.h5]) (BL.cls wr) (fun _ ho => by cases ho; exact .inl ⟨rfl, fun w hSw => eff_load_mid 88 (.tmp 19) rfl ba (offa + k * 12) rfl [c.no, c.cur, c.mult, c.add, c.set, c.price, c.h0, c.h1, c.h2, c.h3, c.h4, c.h5] _ (fun j v h => BL.cell hSw (by have h7 := HCA.out (0 + j) v (by rcases j with _ | _ | _ | _ | _ | _ | _ | _ | _ | _ | _ | _ | j; all_goals first | exact h | (simp at h)); simpa [Nat.add_assoc] using h7)) Tryz.underlying88 rfl (by rw [show ((Tryz.prog.info? 88).map (·.size)) = some 12 from by kernel_rfl]; rfl)⟩) ?_
   refine uP 2 [(4, some 21, .slice (some ⟨bb, offb, none⟩) n capb), (5, some 22, .int .i64 (k : Int))] (BL.cls wr) ?_
   simp only [zq]
   refine uG 6 (some 23) (.pointer (some ⟨bb, offb + k * 12, none⟩)) (BL.cls wr) ?_
   simp only [zq]
   refine uO 7 (some 24) (.agg #[c.no, c.cur, c.mult, c.add, c.set, c.price, c.h0, c.h1, c.h2, c.h3, c.h4, c.h5]) (BL.cls wr) (fun _ ho => by cases ho; exact .inl ⟨rfl, fun w hSw => eff_load_mid 88 (.tmp 23) rfl bb (offb + k * 12) rfl [c.no, c.cur, c.mult, c.add, c.set, c.price, c.h0, c.h1, c.h2, c.h3, c.h4, c.h5] _ (fun j v h => BL.cell hSw (by have h7 := HCB.out (0 + j) v (by rcases j with _ | _ | _ | _ | _ | _ | _ | _ | _ | _ | _ | _ | j; all_goals first | exact h | (simp at h)); simpa [Nat.add_assoc] using h7)) Tryz.underlying88 rfl (by rw [show ((Tryz.prog.info? 88).map (·.size)) = some 12 from by kernel_rfl]; rfl)⟩) ?_
   simp only [zq]
   refine uO 8 (some 25) (.bool true) (BL.cls wr) (fun o ho => ?_) ?_
   ·
    cases ho
    refine Or.inl ⟨rfl, fun w hSw => ?_⟩
    go_simp
    show Calls _ _ _ _ _
    refine (KInst_same _ _ _ _ _ _ _ _ _ _ _ _ _).mono ?_
    rintro e w1 ⟨rfl, hb⟩
    exact ⟨rfl, hb⟩
   try simp only [zq]
   refine uG 9 (some 26) (.bool false) (BL.cls wr) ?_
   simp only [zq]
   refine wpAnyU_done (by kernel_rfl) (fun w1 hb1 => ?_) _
   go_wp2_with fail
   exact ⟨⟨k + 1, by omega, by push_cast; rfl, bgoS HBL.out hb1⟩, by simp [intOf]; omega⟩
  ·
   obtain rfl : k = n := by omega
   go_wp2_with fail
   go_ret
   exact ⟨rfl, HBL.out⟩
theorem KSeats_same (w : World) (va vb : Value) (La Lb : List SV) (S : List SeT) (ha : Rs SV.vs 7 w va La) (hb : Rs SV.vs 7 w vb Lb) (hla : La.length = S.length) (hlb : Lb.length = S.length)
  (hsa : ∀ i (h : i < La.length) (h' : i < S.length), SVok w La[i] S[i]) (hsb : ∀ i (h : i < Lb.length) (h' : i < S.length), SVok w Lb[i] S[i]) :
  Calls Tryz.prog 47 #[va, vb] w fun e w' => e = .returned (.bool true) ∧ Below w.heap.size w w' := by
 obtain ⟨aa, capa, rfl, hcapa, hma⟩ := ha.shape
 obtain ⟨ab, capb, rfl, hcapb, hmb⟩ := hb.shape
 obtain ⟨n, hn⟩ : ∃ n, n = S.length := ⟨_, rfl⟩
 have hna : n = La.length := by omega
 have hnb : n = Lb.length := by omega
 rw [← hna] at ha hcapa ⊢
 rw [← hnb] at hb hcapb ⊢
 have HA := Lh ha
 have HB := Lh hb
 have HN := Lh hn
 have HNA := Lh hna
 have HNB := Lh hnb
 have HSA := Lh hsa
 have HSB := Lh hsb
 clear ha hb hn hna hnb hsa hsb hla hlb
 go_in
 go_wp2_with fail
 go_loopw [5] (fun i wr => ∃ k : Nat, k ≤ n ∧ i = .int .i64 k ∧ Below w.heap.size w wr) (fun i _ => n - (intOf i).toNat)
 case atStart => exact ⟨0, Nat.zero_le _, rfl, Below.refl _ _⟩
 case round =>
  obtain ⟨k, hk, rfl, hbel⟩ := hrel
  have HBL := Lh hbel
  by_cases hlt : k < n
  ·
   have hkS : k < S.length := by rw [← HN.out]; exact hlt
   have hkA : k < La.length := by rw [← HNA.out]; exact hlt
   have hkB : k < Lb.length := by rw [← HNB.out]; exact hlt
   have sa := HSA.out k hkA hkS
   have sb := HSB.out k hkB hkS
   obtain ⟨ba, offa, rfl, _, hca⟩ := (HA.out.rew HNA.out hbel).at (by omega) (by decide)
   obtain ⟨bb, offb, rfl, _, hcb⟩ := (HB.out.rew HNB.out hbel).at (by omega) (by decide)
   obtain ⟨s, hs⟩ : ∃ s, s = S[k] := ⟨_, rfl⟩
   rw [← hs] at sa sb
   have ea : ∃ u1 un1 uc1 u2 un2 uc2, La[k].vs = [.int .i64 s.client, .int .i64 s.seq, .int .i64 s.r.c, .int .i64 s.r.n, .int .i64 s.r.a, .slice u1 un1 uc1, .slice u2 un2 uc2] ∧ Rs DT.vs 3 w (.slice u1 un1 uc1) s.r.D ∧ Rs FT.vs 8 w (.slice u2 un2 uc2) s.r.F :=
    ⟨_, _, _, _, _, _, by unfold SV.vs; rw [sa.1, sa.2.1, sa.2.2.1, sa.2.2.2.1, sa.2.2.2.2.1], sa.2.2.2.2.2.1, sa.2.2.2.2.2.2⟩
   have eb : ∃ u1 un1 uc1 u2 un2 uc2, Lb[k].vs = [.int .i64 s.client, .int .i64 s.seq, .int .i64 s.r.c, .int .i64 s.r.n, .int .i64 s.r.a, .slice u1 un1 uc1, .slice u2 un2 uc2] ∧ Rs DT.vs 3 w (.slice u1 un1 uc1) s.r.D ∧ Rs FT.vs 8 w (.slice u2 un2 uc2) s.r.F :=
    ⟨_, _, _, _, _, _, by unfold SV.vs; rw [sb.1, sb.2.1, sb.2.2.1, sb.2.2.2.1, sb.2.2.2.2.1], sb.2.2.2.2.2.1, sb.2.2.2.2.2.2⟩
   obtain ⟨u1, un1, uc1, u2, un2, uc2, ea, d1, f1⟩ := ea
   obtain ⟨v1, vn1, vc1, v2, vn2, vc2, eb, d2, f2⟩ := eb
   obtain ⟨cl, hcl⟩ : ∃ x, x = s.client := ⟨_, rfl⟩
   obtain ⟨sq, hsq⟩ : ∃ x, x = s.seq := ⟨_, rfl⟩
   obtain ⟨xc, hxc⟩ : ∃ x, x = s.r.c := ⟨_, rfl⟩
   obtain ⟨xn, hxn⟩ : ∃ x, x = s.r.n := ⟨_, rfl⟩
   obtain ⟨xa, hxa⟩ : ∃ x, x = s.r.a := ⟨_, rfl⟩
   rw [← hcl, ← hsq, ← hxc, ← hxn, ← hxa] at ea eb
   have HCA : Hid (∀ j v, [.int .i64 cl, .int .i64 sq, .int .i64 xc, .int .i64 xn, .int .i64 xa, .slice u1 un1 uc1, .slice u2 un2 uc2][j]? = some v → wr.cell? ⟨ba, offa + k * 7 + j, none⟩ = some v) := fun j v h => hca k hkA j v (by rw [ea]; exact h)
   have HCB : Hid (∀ j v, [.int .i64 cl, .int .i64 sq, .int .i64 xc, .int .i64 xn, .int .i64 xa, .slice v1 vn1 vc1, .slice v2 vn2 vc2][j]? = some v → wr.cell? ⟨bb, offb + k * 7 + j, none⟩ = some v) := fun j v h => hcb k hkB j v (by rw [eb]; exact h)
   have HD1 := Lh (d1.mono hbel)
   have HF1 := Lh (f1.mono hbel)
   have HD2 := Lh (d2.mono hbel)
   have HF2 := Lh (f2.mono hbel)
   have hk0 : (0 : Int) ≤ k := by omega
   have hk1 : (k : Int) < n := by omega
   clear hca hcb hbel ea eb d1 f1 d2 f2 hs sa sb hcl hsq hxc hxn hxa hkA hkB hkS
   go_wp2_with fail
   refine wp_region_bl 38 (by kernel_rfl) ?_
   refine uP 2 [(0, some 17, .slice (some ⟨ba, offa, none⟩) n capa), (1, some 18, .int .i64 (k : Int))] (BL.cls wr) ?_
   simp only [zq]
   refine uG 2 (some 19) (.pointer (some ⟨ba, offa + k * 7, none⟩)) (BL.cls wr) ?_
   refine uP 1 [(3, some 20, .pointer (some ⟨ba, offa + k * 7, none⟩))] (BL.cls wr) ?_
   refine uL 4 (some 21) (.int .i64 cl) (BL.cls wr) (p := ⟨ba, offa + k * 7, none⟩) (fun w hSw => BL.cell hSw (HCA.out 0 _ rfl)) ?_
   simp only [zq]
   refine uP 2 [(5, some 22, .slice (some ⟨bb, offb, none⟩) n capb), (6, some 23, .int .i64 (k : Int))] (BL.cls wr) ?_
   simp only [zq]
   refine uG 7 (some 24) (.pointer (some ⟨bb, offb + k * 7, none⟩)) (BL.cls wr) ?_
   refine uP 1 [(8, some 25, .pointer (some ⟨bb, offb + k * 7, none⟩))] (BL.cls wr) ?_
   refine uL 9 (some 26) (.int .i64 cl) (BL.cls wr) (p := ⟨bb, offb + k * 7, none⟩) (fun w hSw => BL.cell hSw (HCB.out 0 _ rfl)) ?_
   simp only [zq]
   refine uG 10 (some 27) (.bool false) (BL.cls wr) ?_
   refine uP 3 [(11, some 28, .bool false), (12, some 29, .slice (some ⟨ba, offa, none⟩) n capa), (13, some 30, .int .i64 (k : Int))] (BL.cls wr) ?_
   simp only [zq]
   refine uG 14 (some 31) (.pointer (some ⟨ba, offa + k * 7, none⟩)) (BL.cls wr) ?_
   refine uP 1 [(15, some 32, .pointer (some ⟨ba, offa + k * 7 + 1, none⟩))] (BL.cls wr) ?_
   refine uL 16 (some 33) (.int .i64 sq) (BL.cls wr) (p := ⟨ba, offa + k * 7 + 1, none⟩) (fun w hSw => BL.cell hSw (HCA.out 1 _ rfl)) ?_
   simp only [zq]
   refine uP 2 [(17, some 34, .slice (some ⟨bb, offb, none⟩) n capb), (18, some 35, .int .i64 (k : Int))] (BL.cls wr) ?_
   simp only [zq]
   refine uG 19 (some 36) (.pointer (some ⟨bb, offb + k * 7, none⟩)) (BL.cls wr) ?_
   refine uP 1 [(20, some 37, .pointer (some ⟨bb, offb + k * 7 + 1, none⟩))] (BL.cls wr) ?_
   refine uL 21 (some 38) (.int .i64 sq) (BL.cls wr) (p := ⟨bb, offb + k * 7 + 1, none⟩) (fun w hSw => BL.cell hSw (HCB.out 1 _ rfl)) ?_
   simp only [zq]
   refine uG 22 (some 39) (.bool false) (BL.cls wr) ?_
   simp only [zq]
   refine uG 23 (some 40) (.bool false) (BL.cls wr) ?_
   refine uP 3 [(24, some 41, .bool false), (25, some 42, .slice (some ⟨ba, offa, none⟩) n capa), (26, some 43, .int .i64 (k : Int))] (BL.cls wr) ?_
   simp only [zq]
   refine uG 27 (some 44) (.pointer (some ⟨ba, offa + k * 7, none⟩)) (BL.cls wr) ?_
   refine uP 1 [(28, some 45, .pointer (some ⟨ba, offa + k * 7 + 2, none⟩))] (BL.cls wr) ?_
   simp only [zq]
   refine uO 29 (some 46) (.agg #[xc, xn, xa, .slice u1 un1 uc1, .slice u2 un2 uc2]) (BL.cls wr) (fun _ ho => by cases ho; exact .inl ⟨rfl, fun w hSw => eff_load_mid 63 (.tmp 45) rfl ba (offa + k * 7 + 2) rfl [xc, xn, xa, .slice u1 un1 uc1, .slice u2 un2 uc2] _ (fun j v h => BL.cell hSw (by have h7 := HCA.out (2 + j) v (by rcases j with _ | _ | _ | _ | _ | j; all_goals first | exact h | (simp at h)); simpa [Nat.add_assoc] using h7)) Tryz.underlying63 rfl (by rw [show ((Tryz.prog.info? 63).map (·.size)) = some 5 from by kernel_rfl]; rfl)⟩) ?_
   refine uP 2 [(30, some 47, .slice (some ⟨bb, offb, none⟩) n capb), (31, some 48, .int .i64 (k : Int))] (BL.cls wr) ?_
   simp only [zq]
   refine uG 32 (some 49) (.pointer (some ⟨bb, offb + k * 7, none⟩)) (BL.cls wr) ?_
   refine uP 1 [(33, some 50, .pointer (some ⟨bb, offb + k * 7 + 2, none⟩))] (BL.cls wr) ?_
   simp only [zq]
   refine uO 34 (some 51) (.agg #[xc, xn, xa, .slice v1 vn1 vc1, .slice v2 vn2 vc2]) (BL.cls wr) (fun _ ho => by cases ho; exact .inl ⟨rfl, fun w hSw => eff_load_mid 63 (.tmp 50) rfl bb (offb + k * 7 + 2) rfl [xc, xn, xa, .slice v1 vn1 vc1, .slice v2 vn2 vc2] _ (fun j v h => BL.cell hSw (by have h7 := HCB.out (2 + j) v (by rcases j with _ | _ | _ | _ | _ | j; all_goals first | exact h | (simp at h)); simpa [Nat.add_assoc] using h7)) Tryz.underlying63 rfl (by rw [show ((Tryz.prog.info? 63).map (·.size)) = some 5 from by kernel_rfl]; rfl)⟩) ?_
   simp only [zq]
   refine uO 35 (some 52) (.bool true) (BL.cls wr) (fun o ho => ?_) ?_
   ·
    cases ho
    refine Or.inl ⟨rfl, fun w hSw => ?_⟩
    go_simp
    show Calls _ _ _ _ _
    refine (KReply_any _ xc xn xa xc xn xa _ _ _ _ s.r.D s.r.D s.r.F s.r.F (HD1.out.mono hSw) (HF1.out.mono hSw) (HD2.out.mono hSw) (HF2.out.mono hSw)).mono ?_
    rintro e w1 ⟨rfl, hb⟩
    exact ⟨by rw [decide_eq_true ⟨rfl, rfl, rfl, rfl, rfl⟩], hb⟩
   try simp only [zq]
   refine uG 36 (some 53) (.bool false) (BL.cls wr) ?_
   simp only [zq]
   refine uG 37 (some 54) (.bool false) (BL.cls wr) ?_
   simp only [zq]
   refine wpAnyU_done (by kernel_rfl) (fun w1 hb1 => ?_) _
   go_wp2_with fail
   exact ⟨⟨k + 1, by omega, by push_cast; rfl, bgoS HBL.out hb1⟩, by simp [intOf]; omega⟩
  ·
   obtain rfl : k = n := by omega
   go_wp2_with fail
   go_ret
   exact ⟨rfl, HBL.out⟩
theorem KLedger_same (w : World) (la : Int) (va vb : Value) (L : List BaT) (ha : Rs BaT.vs 4 w va L) (hb : Rs BaT.vs 4 w vb L) :
  Calls Tryz.prog 43 #[.agg #[la, va], .agg #[la, vb]] w fun e w' => e = .returned (.bool true) ∧ Below w.heap.size w w' := by
 obtain ⟨aa, capa, rfl, hcapa, hma⟩ := ha.shape
 obtain ⟨ab, capb, rfl, hcapb, hmb⟩ := hb.shape
 obtain ⟨n, hn⟩ : ∃ n, n = L.length := ⟨_, rfl⟩
 rw [← hn] at ha hb hcapa hcapb ⊢
 have hb2 := Below.alloc (Below.alloc (Below.refl w.heap.size w) (Nat.le_refl _) (.cells #[la, .slice aa n capa] 35)) (by simp) (.cells #[la, .slice ab n capb] 35)
 have hc1 : HT ((w.alloc (.cells #[la, .slice aa n capa] 35)).alloc (.cells #[la, .slice ab n capb] 35)) w.heap.size 35 [la, .slice aa n capa] := (HT.new (w := w)).below (Bn)
 have hc2 : HT ((w.alloc (.cells #[la, .slice aa n capa] 35)).alloc (.cells #[la, .slice ab n capb] 35)) (w.heap.size + 1) 35 [la, .slice ab n capb] := by
  have := HT.new (w := w.alloc (.cells #[.int .i64 la, .slice aa n capa] 35)) (t := 35) (C := [.int .i64 la, .slice ab n capb])
  rw [show (w.alloc (.cells #[la, .slice aa n capa] 35)).heap.size = w.heap.size + 1 by simp] at this
  exact this
 have HA := Lh ha
 have HB := Lh hb
 have HN := Lh hn
 have HB2 := Lh hb2
 have HC1 := Lh hc1
 have HC2 := Lh hc2
 clear ha hb hn hb2 hc1 hc2
 go_in
 go_wp2_with fail
 generalize hW : (w.alloc (.cells #[la, .slice aa n capa] 35)).alloc (.cells #[la, .slice ab n capb] 35) = W at *
 clear hW
 have HAW := Lh (HA.out.mono HB2.out)
 have HBW := Lh (HB.out.mono HB2.out)
 have HRW : Hid (∀ wr, Below w.heap.size w wr → Rs BaT.vs 4 wr (.slice aa n capa) L ∧ Rs BaT.vs 4 wr (.slice ab n capb) L) := fun wr hb => ⟨HA.out.mono hb, HB.out.mono hb⟩
 clear HA HB HAW HBW
 generalize hgx : w.heap.size = gx at *
 have HGX : Hid (w.heap.size = gx) := hgx
 clear hgx
 go_loopw [5] (fun v5 wr => ∃ k : Nat, k ≤ n ∧ v5 = .int .i64 k ∧ HT wr gx 35 [la, .slice aa n capa] ∧ HT wr (gx + 1) 35 [la, .slice ab n capb] ∧ Below gx w wr) (fun i _ => n - (intOf i).toNat)
 case atStart => exact ⟨0, Nat.zero_le _, rfl, HC1.out, HC2.out, HB2.out⟩
 case round =>
  obtain ⟨k, hk, rfl, hx, hy, hbel⟩ := hrel
  have HBL := Lh hbel
  have HX := Lh hx
  have HY := Lh hy
  have hx1 := HX.out.cell (j := 1) rfl
  have hy1 := HY.out.cell (j := 1) rfl
  by_cases hlt : k < n
  ·
   have hkL : k < L.length := by rw [← HN.out]; exact hlt
   obtain ⟨ra, rb⟩ := HRW.out wr hbel
   rw [HN.out] at ra rb
   obtain ⟨ba, offa, rfl, _, hca⟩ := ra.at (by omega) (by decide)
   obtain ⟨bb, offb, rfl, _, hcb⟩ := rb.at (by omega) (by decide)
   obtain ⟨c, hc⟩ : ∃ c, c = L[k] := ⟨_, rfl⟩
   have HCA : Hid (∀ j v, [.int .i64 c.kind, .int .i64 c.who, .int .i64 c.cur, .int .i64 c.sum][j]? = some v → wr.cell? ⟨ba, offa + k * 4 + j, none⟩ = some v) := fun j v h => hca k hkL j v (by rw [← hc]; exact h)
   have HCB : Hid (∀ j v, [.int .i64 c.kind, .int .i64 c.who, .int .i64 c.cur, .int .i64 c.sum][j]? = some v → wr.cell? ⟨bb, offb + k * 4 + j, none⟩ = some v) := fun j v h => hcb k hkL j v (by rw [← hc]; exact h)
   have hk0 : (0 : Int) ≤ k := by omega
   have hk1 : (k : Int) < n := by omega
   have HX1 := Lh hx1
   have HY1 := Lh hy1
   clear hca hcb hbel hc hx hy ra rb
   go_wp2_with fail
   clear hx1 hy1
   refine wp_region_bl 29 (by kernel_rfl) ?_
   refine uP 1 [(0, some 27, .pointer (some ⟨gx, 1, none⟩))] (BL.cls wr) ?_
   refine uL 1 (some 28) (.slice (some ⟨ba, offa, none⟩) n capa) (BL.cls wr) (p := ⟨gx, 1, none⟩) (fun w hSw => BL.cell hSw HX1.out) ?_
   refine uP 1 [(2, some 29, .int .i64 (k : Int))] (BL.cls wr) ?_
   simp only [zq]
   refine uG 3 (some 30) (.pointer (some ⟨ba, offa + k * 4, none⟩)) (BL.cls wr) ?_
   refine uP 1 [(4, some 31, .pointer (some ⟨ba, offa + k * 4, none⟩))] (BL.cls wr) ?_
   simp only [zq]
   refine uO 5 (some 32) (.agg #[c.kind, c.who, c.cur]) (BL.cls wr) (fun _ ho => by cases ho; exact .inl ⟨rfl, fun w hSw => eff_load_mid 100 (.tmp 31) rfl ba (offa + k * 4) rfl [c.kind, c.who, c.cur] _ (fun j v h => BL.cell hSw (by have h7 := HCA.out (0 + j) v (by rcases j with _ | _ | _ | j; all_goals first | exact h | (simp at h)); simpa [Nat.add_assoc] using h7)) Tryz.underlying100 rfl (by rw [show ((Tryz.prog.info? 100).map (·.size)) = some 3 from by kernel_rfl]; rfl)⟩) ?_
   refine uP 1 [(6, some 33, .pointer (some ⟨gx + 1, 1, none⟩))] (BL.cls wr) ?_
   refine uL 7 (some 34) (.slice (some ⟨bb, offb, none⟩) n capb) (BL.cls wr) (p := ⟨gx + 1, 1, none⟩) (fun w hSw => BL.cell hSw HY1.out) ?_
   simp only [zq]
   refine uP 1 [(8, some 35, .int .i64 (k : Int))] (BL.cls wr) ?_
   simp only [zq]
   refine uG 9 (some 36) (.pointer (some ⟨bb, offb + k * 4, none⟩)) (BL.cls wr) ?_
   refine uP 1 [(10, some 37, .pointer (some ⟨bb, offb + k * 4, none⟩))] (BL.cls wr) ?_
   simp only [zq]
   refine uO 11 (some 38) (.agg #[c.kind, c.who, c.cur]) (BL.cls wr) (fun _ ho => by cases ho; exact .inl ⟨rfl, fun w hSw => eff_load_mid 100 (.tmp 37) rfl bb (offb + k * 4) rfl [c.kind, c.who, c.cur] _ (fun j v h => BL.cell hSw (by have h7 := HCB.out (0 + j) v (by rcases j with _ | _ | _ | j; all_goals first | exact h | (simp at h)); simpa [Nat.add_assoc] using h7)) Tryz.underlying100 rfl (by rw [show ((Tryz.prog.info? 100).map (·.size)) = some 3 from by kernel_rfl]; rfl)⟩) ?_
   simp only [zq]
   refine uO 12 (some 39) (.bool true) (BL.cls wr) (fun o ho => ?_) ?_
   ·
    cases ho
    refine Or.inl ⟨rfl, fun w hSw => ?_⟩
    go_simp
    show Calls _ _ _ _ _
    refine (KAcct_same _ _ _ _).mono ?_
    rintro e w1 ⟨rfl, hb⟩
    exact ⟨rfl, hb⟩
   try simp only [zq]
   refine uG 13 (some 40) (.bool false) (BL.cls wr) ?_
   refine uP 2 [(14, some 41, .bool false), (15, some 42, .pointer (some ⟨gx, 1, none⟩))] (BL.cls wr) ?_
   refine uL 16 (some 43) (.slice (some ⟨ba, offa, none⟩) n capa) (BL.cls wr) (p := ⟨gx, 1, none⟩) (fun w hSw => BL.cell hSw HX1.out) ?_
   simp only [zq]
   refine uP 1 [(17, some 44, .int .i64 (k : Int))] (BL.cls wr) ?_
   simp only [zq]
   refine uG 18 (some 45) (.pointer (some ⟨ba, offa + k * 4, none⟩)) (BL.cls wr) ?_
   refine uP 1 [(19, some 46, .pointer (some ⟨ba, offa + k * 4 + 3, none⟩))] (BL.cls wr) ?_
   refine uL 20 (some 47) (.int .i64 c.sum) (BL.cls wr) (p := ⟨ba, offa + k * 4 + 3, none⟩) (fun w hSw => BL.cell hSw (HCA.out 3 _ rfl)) ?_
   simp only [zq]
   refine uP 1 [(21, some 48, .pointer (some ⟨gx + 1, 1, none⟩))] (BL.cls wr) ?_
   refine uL 22 (some 49) (.slice (some ⟨bb, offb, none⟩) n capb) (BL.cls wr) (p := ⟨gx + 1, 1, none⟩) (fun w hSw => BL.cell hSw HY1.out) ?_
   refine uP 1 [(23, some 50, .int .i64 (k : Int))] (BL.cls wr) ?_
   simp only [zq]
   refine uG 24 (some 51) (.pointer (some ⟨bb, offb + k * 4, none⟩)) (BL.cls wr) ?_
   refine uP 1 [(25, some 52, .pointer (some ⟨bb, offb + k * 4 + 3, none⟩))] (BL.cls wr) ?_
   refine uL 26 (some 53) (.int .i64 c.sum) (BL.cls wr) (p := ⟨bb, offb + k * 4 + 3, none⟩) (fun w hSw => BL.cell hSw (HCB.out 3 _ rfl)) ?_
   simp only [zq]
   refine uG 27 (some 54) (.bool false) (BL.cls wr) ?_
   simp only [zq]
   refine uG 28 (some 55) (.bool false) (BL.cls wr) ?_
   simp only [zq]
   refine wpAnyU_done (by kernel_rfl) (fun w1 hb1 => ?_) _
   have HQ := Lh (Below.trans HBL.out (hb1.mono (by have h8 := HBL.out.size; have h9 := HGX.out; omega)))
   have HX9 := Lh (HX.out.below hb1)
   have HY9 := Lh (HY.out.below hb1)
   go_wp2_with fail
   exact ⟨⟨k + 1, by omega, by push_cast; rfl, HX9.out, HY9.out, HQ.out⟩, by simp [intOf]; omega⟩
  ·
   obtain rfl : k = n := by omega
   clear hx hy
   go_wp2_with fail
   go_ret
   exact ⟨rfl, by rw [HGX.out]; exact HBL.out⟩
end Cam
