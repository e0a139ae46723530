import Derived.Test.YtgeclnjkkjmbaaaGreatWrT
import Derived.Test.YtgeclnjkkjmbaaaGreatWrNaz
import Derived.Test.YtgeclnjkkjmbaaaGreatVb
/- wire.Reply. -/
namespace Cam
open Go Go.RowKit Go.Proofs
set_option linter.unusedVariables false
set_option linter.unusedSimpArgs false
set_option maxRecDepth 100000
set_option maxHeartbeats 3200000
def repW (D : List DT) (F : List FT) : Bool := decide (1024 < D.length) || decide (1024 < F.length)
theorem encRep_length (xc xn xa : Int) (D : List DT) (F : List FT) (hr : ∀ n ∈ [xc, xn, xa], -9223372036854775808 ≤ n ∧ n ≤ 9223372036854775807) (hrd : ∀ x ∈ D, ∀ n ∈ x.ints, -9223372036854775808 ≤ n ∧ n ≤ 9223372036854775807) (hrf : ∀ x ∈ F, ∀ n ∈ x.ints, -9223372036854775808 ≤ n ∧ n ≤ 9223372036854775807) : (encRep xc xn xa D F).length ≤ 200000 := by
 have h1 := encIs_length [xc, xn, xa] hr
 have h2 := lw_length DT.ints 3 D (fun _ _ => rfl) hrd
 have h3 := lw_length FT.ints 8 F (fun _ _ => rfl) hrf
 unfold encRep
 simp at h1 ⊢
 omega
theorem two_allocs (w : World) (o1 o2 : Obj) : Below w.heap.size w ((w.alloc o1).alloc o2) := (Bn).alloc (Below.size ((Below.refl _ _).alloc (Nat.le_refl _) o1)) _
theorem KDue_any (w : World) (x0 x1 x2 y0 y1 y2 : Int) :
  Calls Tryz.prog 104 #[.agg #[x0, x1, x2], .agg #[y0, y1, y2]] w fun e w' => e = .returned (.bool (decide ([x0, x1, x2] = [y0, y1, y2]))) ∧ Below w.heap.size w w' := by
 have hb1 : Below w.heap.size w (w.alloc (.cells #[x0, x1, x2] 106)) := Bn
 have hb2 : Below w.heap.size w ((w.alloc (.cells #[x0, x1, x2] 106)).alloc (.cells #[y0, y1, y2] 106)) := hb1.alloc hb1.size _
 have hc1 : HT ((w.alloc (.cells #[x0, x1, x2] 106)).alloc (.cells #[y0, y1, y2] 106)) w.heap.size 106 (ivs [x0, x1, x2]) := (HT.new (w := w) (t := 106) (C := ivs [x0, x1, x2])).below (Bn)
 have hc2 : HT ((w.alloc (.cells #[x0, x1, x2] 106)).alloc (.cells #[y0, y1, y2] 106)) (w.heap.size + 1) 106 (ivs [y0, y1, y2]) := by
  have := HT.new (w := w.alloc (.cells #[x0, x1, x2] 106)) (t := 106) (C := ivs [y0, y1, y2])
  rw [show (w.alloc (.cells #[x0, x1, x2] 106)).heap.size = w.heap.size + 1 by simp] at this
  exact this
 have HB2 := Lh hb2
 have HC1 := Lh hc1
 have HC2 := Lh hc2
 clear hb1 hb2 hc1 hc2
 obtain ⟨d, hd⟩ : ∃ d : Bool, d = decide ([x0, x1, x2] = [y0, y1, y2]) := ⟨_, rfl⟩
 rw [← hd]
 have HD := Lh hd
 clear hd
 go_in
 have HX := HC1
 have HY := HC2
 have HBEL := HB2
 have HALL : Hid (x0 = y0 → x1 = y1 → decide ([x0, x1, x2] = [y0, y1, y2]) = (x2 == y2)) := by
  show x0 = y0 → x1 = y1 → _
  intros
  subst_vars
  rw [Bool.eq_iff_iff]
  simp
 have hx0 := HX.out.cell (j := 0) rfl
 have hy0 := HY.out.cell (j := 0) rfl
 have hx1 := HX.out.cell (j := 1) rfl
 have hy1 := HY.out.cell (j := 1) rfl
 have hx2 := HX.out.cell (j := 2) rfl
 have hy2 := HY.out.cell (j := 2) rfl
 go_wp2_with fail
 ·
  rename_i g0 g1
  go_ret
  exact ⟨by rw [HD.out, HALL.out g0 g1]; rfl, two_allocs _ _ _⟩
 ·
  rename_i hn
  go_ret
  exact ⟨by rw [HD.out, decide_eq_false (show [x0, x1, x2] ≠ [y0, y1, y2] from fun h => hn (congrArg (fun L : List Int => L.getD 1 0) h))]; rfl, two_allocs _ _ _⟩
 ·
  rename_i hn
  go_ret
  exact ⟨by rw [HD.out, decide_eq_false (show [x0, x1, x2] ≠ [y0, y1, y2] from fun h => hn (congrArg (fun L : List Int => L.getD 0 0) h))]; rfl, two_allocs _ _ _⟩
theorem KFall_any (w : World) (x0 x1 x2 x3 x4 x5 x6 x7 y0 y1 y2 y3 y4 y5 y6 y7 : Int) :
  Calls Tryz.prog 116 #[.agg #[x0, x1, x2, x3, x4, x5, x6, x7], .agg #[y0, y1, y2, y3, y4, y5, y6, y7]] w fun e w' => e = .returned (.bool (decide ([x0, x1, x2, x3, x4, x5, x6, x7] = [y0, y1, y2, y3, y4, y5, y6, y7]))) ∧ Below w.heap.size w w' := by
 have hb1 : Below w.heap.size w (w.alloc (.cells #[x0, x1, x2, x3, x4, x5, x6, x7] 159)) := Bn
 have hb2 : Below w.heap.size w ((w.alloc (.cells #[x0, x1, x2, x3, x4, x5, x6, x7] 159)).alloc (.cells #[y0, y1, y2, y3, y4, y5, y6, y7] 159)) := hb1.alloc hb1.size _
 have hc1 : HT ((w.alloc (.cells #[x0, x1, x2, x3, x4, x5, x6, x7] 159)).alloc (.cells #[y0, y1, y2, y3, y4, y5, y6, y7] 159)) w.heap.size 159 (ivs [x0, x1, x2, x3, x4, x5, x6, x7]) := (HT.new (w := w) (t := 159) (C := ivs [x0, x1, x2, x3, x4, x5, x6, x7])).below (Bn)
 have hc2 : HT ((w.alloc (.cells #[x0, x1, x2, x3, x4, x5, x6, x7] 159)).alloc (.cells #[y0, y1, y2, y3, y4, y5, y6, y7] 159)) (w.heap.size + 1) 159 (ivs [y0, y1, y2, y3, y4, y5, y6, y7]) := by
  have := HT.new (w := w.alloc (.cells #[x0, x1, x2, x3, x4, x5, x6, x7] 159)) (t := 159) (C := ivs [y0, y1, y2, y3, y4, y5, y6, y7])
  rw [show (w.alloc (.cells #[x0, x1, x2, x3, x4, x5, x6, x7] 159)).heap.size = w.heap.size + 1 by simp] at this
  exact this
 have HB2 := Lh hb2
 have HC1 := Lh hc1
 have HC2 := Lh hc2
 clear hb1 hb2 hc1 hc2
 obtain ⟨d, hd⟩ : ∃ d : Bool, d = decide ([x0, x1, x2, x3, x4, x5, x6, x7] = [y0, y1, y2, y3, y4, y5, y6, y7]) := ⟨_, rfl⟩
 rw [← hd]
 have HD := Lh hd
 clear hd
 go_in
 go_wp2_with fail
 generalize hW : (w.alloc (.cells #[x0, x1, x2, x3, x4, x5, x6, x7] 159)).alloc (.cells #[y0, y1, y2, y3, y4, y5, y6, y7] 159) = W at *
 clear hW
 generalize hgx : w.heap.size = gx at *
 have HGX : Hid (w.heap.size = gx) := hgx
 clear hgx
 go_loopw [5] (fun v5 wr => ∃ k : Nat, k ≤ 5 ∧ v5 = .int .i64 k ∧ HT wr gx 159 (ivs [x0, x1, x2, x3, x4, x5, x6, x7]) ∧ HT wr (gx + 1) 159 (ivs [y0, y1, y2, y3, y4, y5, y6, y7]) ∧ (∀ j, j < k → (ivs [x0, x1, x2, x3, x4, x5, x6, x7])[2 + j]? = (ivs [y0, y1, y2, y3, y4, y5, y6, y7])[2 + j]?) ∧ Below gx w wr) (fun i _ => 5 - (intOf i).toNat)
 case atStart => exact ⟨0, by omega, rfl, HC1.out, HC2.out, fun j hj => by omega, HB2.out⟩
 case round =>
  obtain ⟨k, hk, rfl, hx, hy, heq, hbel⟩ := hrel
  have HX := Lh hx
  have HY := Lh hy
  have HEQ := Lh heq
  have HBEL := Lh hbel
  clear hx hy heq hbel
  by_cases hlt : k < 5
  ·
   obtain ⟨a, ha⟩ : ∃ a, (ivs [x0, x1, x2, x3, x4, x5, x6, x7])[2 + k]? = some (.int .i64 a) := ⟨_, ivs_at (by show 2 + k < 8; omega)⟩
   obtain ⟨b, hb⟩ : ∃ b, (ivs [y0, y1, y2, y3, y4, y5, y6, y7])[2 + k]? = some (.int .i64 b) := ⟨_, ivs_at (by show 2 + k < 8; omega)⟩
   have hcx := HX.out.cell ha
   have hcy := HY.out.cell hb
   have HA := Lh ha
   have HB := Lh hb
   clear ha hb
   go_wp2_with fail
   go_quiet (fail)
   have HQ := Lh (below_drewN' HBEL.out nq)
   have HX2 := Lh (HX.out.below (below_drewN' (Below.refl _ _) nq))
   have HY2 := Lh (HY.out.below (below_drewN' (Below.refl _ _) nq))
   by_cases hne : a = b
   ·
    have hne' : (a != b) = false := by rw [hne]; simp
    have HNE := Lh hne
    clear hne
    go_wp2_with fail
    go_roundw
    case rel => exact ⟨k + 1, by omega, by go_num, HX2.out, HY2.out, fun j hj => by
     by_cases h : j < k
     ·
      exact HEQ.out j h
     ·
      obtain rfl : j = k := by omega
      rw [HA.out, HB.out, HNE.out], HQ.out⟩
    case measure => simp [intOf]; omega
   ·
    have hne' : (a != b) = true := by rw [bne_iff_ne]; exact hne
    have hll : [x0, x1, x2, x3, x4, x5, x6, x7] ≠ [y0, y1, y2, y3, y4, y5, y6, y7] := fun h => hne (by have h1 := HA.out; rw [h, HB.out] at h1; injection h1 with h1; injection h1 with _ h2; exact h2.symm)
    have HLL := Lh hll
    clear hne hll
    go_wp2_with fail
    go_ret
    exact ⟨by rw [HD.out, decide_eq_false HLL.out]; rfl, by rw [HGX.out]; exact HQ.out⟩
  ·
   obtain rfl : k = 5 := by omega
   have HALL : Hid (x0 = y0 → x1 = y1 → decide ([x0, x1, x2, x3, x4, x5, x6, x7] = [y0, y1, y2, y3, y4, y5, y6, y7]) = (x7 == y7)) := by
    show x0 = y0 → x1 = y1 → _
    have h0 := HEQ.out 0 (by omega)
    have h1 := HEQ.out 1 (by omega)
    have h2 := HEQ.out 2 (by omega)
    have h3 := HEQ.out 3 (by omega)
    have h4 := HEQ.out 4 (by omega)
    simp at h0 h1 h2 h3 h4
    intros
    subst_vars
    rw [Bool.eq_iff_iff]
    simp
   have hx0 := HX.out.cell (j := 0) rfl
   have hy0 := HY.out.cell (j := 0) rfl
   have hx1 := HX.out.cell (j := 1) rfl
   have hy1 := HY.out.cell (j := 1) rfl
   have hx7 := HX.out.cell (j := 7) rfl
   have hy7 := HY.out.cell (j := 7) rfl
   go_wp2_with fail
   ·
    rename_i g0 g1
    go_ret
    exact ⟨by rw [HD.out, HALL.out g0 g1]; rfl, by rw [HGX.out]; exact HBEL.out⟩
   ·
    rename_i hn
    go_ret
    exact ⟨by rw [HD.out, decide_eq_false (show [x0, x1, x2, x3, x4, x5, x6, x7] ≠ [y0, y1, y2, y3, y4, y5, y6, y7] from fun h => hn (congrArg (fun L : List Int => L.getD 1 0) h))]; rfl, by rw [HGX.out]; exact HBEL.out⟩
   ·
    rename_i hn
    go_ret
    exact ⟨by rw [HD.out, decide_eq_false (show [x0, x1, x2, x3, x4, x5, x6, x7] ≠ [y0, y1, y2, y3, y4, y5, y6, y7] from fun h => hn (congrArg (fun L : List Int => L.getD 0 0) h))]; rfl, by rw [HGX.out]; exact HBEL.out⟩
theorem bgoS {w wr w1 : World} (h : Below w.heap.size w wr) (h2 : BL wr w1) : Below w.heap.size w w1 := h.trans (h2.mono h.size)
theorem DT.ints_inj {a b : DT} : a.ints = b.ints ↔ a = b := by
 cases a
 cases b
 simp [DT.ints]
theorem KDues_any (w : World) (va vb : Value) (la lb : List DT) (ha : Rs DT.vs 3 w va la) (hb : Rs DT.vs 3 w vb lb) :
  Calls Tryz.prog 53 #[va, vb] w fun e w' => e = .returned (.bool (decide (la = lb))) ∧ Below w.heap.size w w' := by
 obtain ⟨aa, capa, rfl, hcapa, hma⟩ := ha.shape
 obtain ⟨ab, capb, rfl, hcapb, hmb⟩ := hb.shape
 by_cases hl : la.length = lb.length
 ·
  have hl' : ((la.length : Int) != (lb.length : Int)) = false := by rw [hl]; simp
  have Hl := Lh hl
  have HSZ : Hid ((Tryz.prog.info? 106).map (·.size) = some 3) := by show _ = _; kernel_rfl
  clear hl
  go_in
  go_wp2_with fail
  go_loopw [5] (fun i wr => ∃ k : Nat, k ≤ la.length ∧ i = .int .i64 k ∧ Hid (la.take k = lb.take k) ∧ Below w.heap.size w wr) (fun i _ => la.length - (intOf i).toNat)
  case atStart => exact ⟨0, Nat.zero_le _, rfl, rfl, Below.refl _ _⟩
  case round =>
   obtain ⟨k, hk, rfl, Heq, hbel⟩ := hrel
   have HBL := Lh hbel
   by_cases hlt : k < la.length
   ·
    have hlt2 : k < lb.length := by rw [← Hl.out]; exact hlt
    obtain ⟨ba, offa, rfl, _, hca⟩ := (ha.mono hbel).at (by omega) (by decide)
    obtain ⟨bb, offb, rfl, _, hcb⟩ := (hb.mono hbel).at (by omega) (by decide)
    have HCA : Hid (∀ j v, [.int .i64 la[k].who, .int .i64 la[k].cur, .int .i64 la[k].amt][j]? = some v → wr.cell? ⟨ba, offa + k * 3 + j, none⟩ = some v) := fun j v h => hca k hlt j v h
    have HCB : Hid (∀ j v, [.int .i64 lb[k].who, .int .i64 lb[k].cur, .int .i64 lb[k].amt][j]? = some v → wr.cell? ⟨bb, offb + k * 3 + j, none⟩ = some v) := fun j v h => hcb k hlt2 j v h
    have hk0 : (0 : Int) ≤ k := by omega
    have hk1 : (k : Int) < la.length := by omega
    have hk2 : (k : Int) < lb.length := by omega
    clear hca hcb hbel
    go_wp2_with fail
    by_cases hne : la[k] = lb[k]
    ·
     have HNE : Hid (decide ([la[k].who, la[k].cur, la[k].amt] = [lb[k].who, lb[k].cur, lb[k].amt]) = true) := by show _ = true; rw [decide_eq_true_iff]; exact DT.ints_inj.2 hne
     have HNX : Hid (la.take (k + 1) = lb.take (k + 1)) := by show _ = _; rw [List.take_succ_eq_append_getElem hlt, List.take_succ_eq_append_getElem hlt2, Heq.out, hne]
     clear hne
     refine wp_region_bl 10 (by kernel_rfl) ?_
     refine uP 2 [(0, some 17, .slice (some ⟨ba, offa, none⟩) la.length capa), (1, some 18, .int .i64 (k : Int))] (BL.cls wr) ?_
     refine uG 2 (some 19) (.pointer (some ⟨ba, offa + k * 3, none⟩)) (BL.cls wr) ?_
     simp only [zq]
     refine uO 3 (some 20) (.agg #[.int .i64 la[k].who, .int .i64 la[k].cur, .int .i64 la[k].amt]) (BL.cls wr) (fun _ ho => by cases ho; exact .inl ⟨rfl, fun w hSw => eff_load_mid 106 (.tmp 19) rfl ba (offa + k * 3) rfl [.int .i64 la[k].who, .int .i64 la[k].cur, .int .i64 la[k].amt] _ (fun j v h => BL.cell hSw (HCA.out j v h)) Tryz.underlying106 rfl HSZ.out⟩) ?_
     refine uP 2 [(4, some 21, .slice (some ⟨bb, offb, none⟩) lb.length capb), (5, some 22, .int .i64 (k : Int))] (BL.cls wr) ?_
     refine uG 6 (some 23) (.pointer (some ⟨bb, offb + k * 3, none⟩)) (BL.cls wr) ?_
     simp only [zq]
     refine uO 7 (some 24) (.agg #[.int .i64 lb[k].who, .int .i64 lb[k].cur, .int .i64 lb[k].amt]) (BL.cls wr) (fun _ ho => by cases ho; exact .inl ⟨rfl, fun w hSw => eff_load_mid 106 (.tmp 23) rfl bb (offb + k * 3) rfl [.int .i64 lb[k].who, .int .i64 lb[k].cur, .int .i64 lb[k].amt] _ (fun j v h => BL.cell hSw (HCB.out j v h)) Tryz.underlying106 rfl HSZ.out⟩) ?_
     simp only [zq]
     refine uO 8 (some 25) (.bool true) (BL.cls wr) (fun o ho => ?_) ?_
     ·
      cases ho
      refine Or.inl ⟨rfl, fun w hSw => ?_⟩
      go_simp
      show Calls _ _ _ _ _
      refine (KDue_any _ la[k].who la[k].cur la[k].amt lb[k].who lb[k].cur lb[k].amt).mono ?_
      rintro e w1 ⟨rfl, hb⟩
      exact ⟨by rw [HNE.out], hb⟩
     try simp only [zq]
     refine uG 9 (some 26) (.bool false) (BL.cls wr) ?_
     simp only [zq]
     refine wpAnyU_done (by kernel_rfl) (fun w1 hb1 => ?_) _
     go_wp2_with fail
     exact ⟨⟨k + 1, by omega, by push_cast; rfl, HNX.out, bgoS HBL.out hb1⟩, by simp [intOf]; omega⟩
    ·
     have HNE : Hid (decide ([la[k].who, la[k].cur, la[k].amt] = [lb[k].who, lb[k].cur, lb[k].amt]) = false) := by show _ = false; rw [decide_eq_false_iff_not]; exact fun h => hne (DT.ints_inj.1 h)
     have HNL : Hid (la ≠ lb) := fun e => hne (by simp [e])
     clear hne
     refine wp_region_bl 10 (by kernel_rfl) ?_
     refine uP 2 [(0, some 17, .slice (some ⟨ba, offa, none⟩) la.length capa), (1, some 18, .int .i64 (k : Int))] (BL.cls wr) ?_
     refine uG 2 (some 19) (.pointer (some ⟨ba, offa + k * 3, none⟩)) (BL.cls wr) ?_
     simp only [zq]
     refine uO 3 (some 20) (.agg #[.int .i64 la[k].who, .int .i64 la[k].cur, .int .i64 la[k].amt]) (BL.cls wr) (fun _ ho => by cases ho; exact .inl ⟨rfl, fun w hSw => eff_load_mid 106 (.tmp 19) rfl ba (offa + k * 3) rfl [.int .i64 la[k].who, .int .i64 la[k].cur, .int .i64 la[k].amt] _ (fun j v h => BL.cell hSw (HCA.out j v h)) Tryz.underlying106 rfl HSZ.out⟩) ?_
     refine uP 2 [(4, some 21, .slice (some ⟨bb, offb, none⟩) lb.length capb), (5, some 22, .int .i64 (k : Int))] (BL.cls wr) ?_
     refine uG 6 (some 23) (.pointer (some ⟨bb, offb + k * 3, none⟩)) (BL.cls wr) ?_
     simp only [zq]
     refine uO 7 (some 24) (.agg #[.int .i64 lb[k].who, .int .i64 lb[k].cur, .int .i64 lb[k].amt]) (BL.cls wr) (fun _ ho => by cases ho; exact .inl ⟨rfl, fun w hSw => eff_load_mid 106 (.tmp 23) rfl bb (offb + k * 3) rfl [.int .i64 lb[k].who, .int .i64 lb[k].cur, .int .i64 lb[k].amt] _ (fun j v h => BL.cell hSw (HCB.out j v h)) Tryz.underlying106 rfl HSZ.out⟩) ?_
     simp only [zq]
     refine uO 8 (some 25) (.bool false) (BL.cls wr) (fun o ho => ?_) ?_
     ·
      cases ho
      refine Or.inl ⟨rfl, fun w hSw => ?_⟩
      go_simp
      show Calls _ _ _ _ _
      refine (KDue_any _ la[k].who la[k].cur la[k].amt lb[k].who lb[k].cur lb[k].amt).mono ?_
      rintro e w1 ⟨rfl, hb⟩
      exact ⟨by rw [HNE.out], hb⟩
     try simp only [zq]
     refine uG 9 (some 26) (.bool true) (BL.cls wr) ?_
     simp only [zq]
     refine wpAnyU_done (by kernel_rfl) (fun w1 hb1 => ?_) _
     go_wp2_with fail
     go_ret
     exact ⟨by rw [decide_eq_false HNL.out]; rfl, bgoS HBL.out hb1⟩
   ·
    have HALL : Hid (la = lb) := by
     have := Heq.out
     rwa [List.take_of_length_le (by omega), List.take_of_length_le (by rw [← Hl.out]; omega)] at this
    go_wp2_with fail
    go_ret
    exact ⟨by rw [decide_eq_true HALL.out]; rfl, HBL.out⟩
 ·
  have hl' : ((la.length : Int) != (lb.length : Int)) = true := by rw [bne_iff_ne]; omega
  have hne : la ≠ lb := fun e => hl (by rw [e])
  have HNE := Lh hne
  clear hne
  go_in
  go_wp2_with fail
  go_ret
  exact ⟨by rw [decide_eq_false HNE.out]; rfl, Below.refl _ _⟩
theorem FT.ints_inj {a b : FT} : a.ints = b.ints ↔ a = b := by
 cases a
 cases b
 simp [FT.ints]
theorem KFalls_any (w : World) (va vb : Value) (la lb : List FT) (ha : Rs FT.vs 8 w va la) (hb : Rs FT.vs 8 w vb lb) :
  Calls Tryz.prog 54 #[va, vb] w fun e w' => e = .returned (.bool (decide (la = lb))) ∧ Below w.heap.size w w' := by
 obtain ⟨aa, capa, rfl, hcapa, hma⟩ := ha.shape
 obtain ⟨ab, capb, rfl, hcapb, hmb⟩ := hb.shape
 by_cases hl : la.length = lb.length
 ·
  have hl' : ((la.length : Int) != (lb.length : Int)) = false := by rw [hl]; simp
  have Hl := Lh hl
  have HSZ : Hid ((Tryz.prog.info? 159).map (·.size) = some 8) := by show _ = _; kernel_rfl
  clear hl
  go_in
  go_wp2_with fail
  go_loopw [5] (fun i wr => ∃ k : Nat, k ≤ la.length ∧ i = .int .i64 k ∧ Hid (la.take k = lb.take k) ∧ Below w.heap.size w wr) (fun i _ => la.length - (intOf i).toNat)
  case atStart => exact ⟨0, Nat.zero_le _, rfl, rfl, Below.refl _ _⟩
  case round =>
   obtain ⟨k, hk, rfl, Heq, hbel⟩ := hrel
   have HBL := Lh hbel
   by_cases hlt : k < la.length
   ·
    have hlt2 : k < lb.length := by rw [← Hl.out]; exact hlt
    obtain ⟨ba, offa, rfl, _, hca⟩ := (ha.mono hbel).at (by omega) (by decide)
    obtain ⟨bb, offb, rfl, _, hcb⟩ := (hb.mono hbel).at (by omega) (by decide)
    have HCA : Hid (∀ j v, [.int .i64 la[k].cur, .int .i64 la[k].loss, .int .i64 la[k].p0, .int .i64 la[k].p1, .int .i64 la[k].p2, .int .i64 la[k].p3, .int .i64 la[k].p4, .int .i64 la[k].rest][j]? = some v → wr.cell? ⟨ba, offa + k * 8 + j, none⟩ = some v) := fun j v h => hca k hlt j v h
    have HCB : Hid (∀ j v, [.int .i64 lb[k].cur, .int .i64 lb[k].loss, .int .i64 lb[k].p0, .int .i64 lb[k].p1, .int .i64 lb[k].p2, .int .i64 lb[k].p3, .int .i64 lb[k].p4, .int .i64 lb[k].rest][j]? = some v → wr.cell? ⟨bb, offb + k * 8 + j, none⟩ = some v) := fun j v h => hcb k hlt2 j v h
    have hk0 : (0 : Int) ≤ k := by omega
    have hk1 : (k : Int) < la.length := by omega
    have hk2 : (k : Int) < lb.length := by omega
    clear hca hcb hbel
    go_wp2_with fail
    by_cases hne : la[k] = lb[k]
    ·
     have HNE : Hid (decide ([la[k].cur, la[k].loss, la[k].p0, la[k].p1, la[k].p2, la[k].p3, la[k].p4, la[k].rest] = [lb[k].cur, lb[k].loss, lb[k].p0, lb[k].p1, lb[k].p2, lb[k].p3, lb[k].p4, lb[k].rest]) = true) := by show _ = true; rw [decide_eq_true_iff]; exact FT.ints_inj.2 hne
     have HNX : Hid (la.take (k + 1) = lb.take (k + 1)) := by show _ = _; rw [List.take_succ_eq_append_getElem hlt, List.take_succ_eq_append_getElem hlt2, Heq.out, hne]
     clear hne
     refine wp_region_bl 10 (by kernel_rfl) ?_
     refine uP 2 [(0, some 17, .slice (some ⟨ba, offa, none⟩) la.length capa), (1, some 18, .int .i64 (k : Int))] (BL.cls wr) ?_
     refine uG 2 (some 19) (.pointer (some ⟨ba, offa + k * 8, none⟩)) (BL.cls wr) ?_
     simp only [zq]
     refine uO 3 (some 20) (.agg #[.int .i64 la[k].cur, .int .i64 la[k].loss, .int .i64 la[k].p0, .int .i64 la[k].p1, .int .i64 la[k].p2, .int .i64 la[k].p3, .int .i64 la[k].p4, .int .i64 la[k].rest]) (BL.cls wr) (fun _ ho => by cases ho; exact .inl ⟨rfl, fun w hSw => eff_load_mid 159 (.tmp 19) rfl ba (offa + k * 8) rfl [.int .i64 la[k].cur, .int .i64 la[k].loss, .int .i64 la[k].p0, .int .i64 la[k].p1, .int .i64 la[k].p2, .int .i64 la[k].p3, .int .i64 la[k].p4, .int .i64 la[k].rest] _ (fun j v h => BL.cell hSw (HCA.out j v h)) Tryz.underlying159 rfl HSZ.out⟩) ?_
     refine uP 2 [(4, some 21, .slice (some ⟨bb, offb, none⟩) lb.length capb), (5, some 22, .int .i64 (k : Int))] (BL.cls wr) ?_
     refine uG 6 (some 23) (.pointer (some ⟨bb, offb + k * 8, none⟩)) (BL.cls wr) ?_
     simp only [zq]
     refine uO 7 (some 24) (.agg #[.int .i64 lb[k].cur, .int .i64 lb[k].loss, .int .i64 lb[k].p0, .int .i64 lb[k].p1, .int .i64 lb[k].p2, .int .i64 lb[k].p3, .int .i64 lb[k].p4, .int .i64 lb[k].rest]) (BL.cls wr) (fun _ ho => by cases ho; exact .inl ⟨rfl, fun w hSw => eff_load_mid 159 (.tmp 23) rfl bb (offb + k * 8) rfl [.int .i64 lb[k].cur, .int .i64 lb[k].loss, .int .i64 lb[k].p0, .int .i64 lb[k].p1, .int .i64 lb[k].p2, .int .i64 lb[k].p3, .int .i64 lb[k].p4, .int .i64 lb[k].rest] _ (fun j v h => BL.cell hSw (HCB.out j v h)) Tryz.underlying159 rfl HSZ.out⟩) ?_
     simp only [zq]
     refine uO 8 (some 25) (.bool true) (BL.cls wr) (fun o ho => ?_) ?_
     ·
      cases ho
      refine Or.inl ⟨rfl, fun w hSw => ?_⟩
      go_simp
      show Calls _ _ _ _ _
      refine (KFall_any _ la[k].cur la[k].loss la[k].p0 la[k].p1 la[k].p2 la[k].p3 la[k].p4 la[k].rest lb[k].cur lb[k].loss lb[k].p0 lb[k].p1 lb[k].p2 lb[k].p3 lb[k].p4 lb[k].rest).mono ?_
      rintro e w1 ⟨rfl, hb⟩
      exact ⟨by rw [HNE.out], hb⟩
     try simp only [zq]
     refine uG 9 (some 26) (.bool false) (BL.cls wr) ?_
     simp only [zq]
     refine wpAnyU_done (by kernel_rfl) (fun w1 hb1 => ?_) _
     go_wp2_with fail
     exact ⟨⟨k + 1, by omega, by push_cast; rfl, HNX.out, bgoS HBL.out hb1⟩, by simp [intOf]; omega⟩
    ·
     have HNE : Hid (decide ([la[k].cur, la[k].loss, la[k].p0, la[k].p1, la[k].p2, la[k].p3, la[k].p4, la[k].rest] = [lb[k].cur, lb[k].loss, lb[k].p0, lb[k].p1, lb[k].p2, lb[k].p3, lb[k].p4, lb[k].rest]) = false) := by show _ = false; rw [decide_eq_false_iff_not]; exact fun h => hne (FT.ints_inj.1 h)
     have HNL : Hid (la ≠ lb) := fun e => hne (by simp [e])
     clear hne
     refine wp_region_bl 10 (by kernel_rfl) ?_
     refine uP 2 [(0, some 17, .slice (some ⟨ba, offa, none⟩) la.length capa), (1, some 18, .int .i64 (k : Int))] (BL.cls wr) ?_
     refine uG 2 (some 19) (.pointer (some ⟨ba, offa + k * 8, none⟩)) (BL.cls wr) ?_
     simp only [zq]
     refine uO 3 (some 20) (.agg #[.int .i64 la[k].cur, .int .i64 la[k].loss, .int .i64 la[k].p0, .int .i64 la[k].p1, .int .i64 la[k].p2, .int .i64 la[k].p3, .int .i64 la[k].p4, .int .i64 la[k].rest]) (BL.cls wr) (fun _ ho => by cases ho; exact .inl ⟨rfl, fun w hSw => eff_load_mid 159 (.tmp 19) rfl ba (offa + k * 8) rfl [.int .i64 la[k].cur, .int .i64 la[k].loss, .int .i64 la[k].p0, .int .i64 la[k].p1, .int .i64 la[k].p2, .int .i64 la[k].p3, .int .i64 la[k].p4, .int .i64 la[k].rest] _ (fun j v h => BL.cell hSw (HCA.out j v h)) Tryz.underlying159 rfl HSZ.out⟩) ?_
     refine uP 2 [(4, some 21, .slice (some ⟨bb, offb, none⟩) lb.length capb), (5, some 22, .int .i64 (k : Int))] (BL.cls wr) ?_
     refine uG 6 (some 23) (.pointer (some ⟨bb, offb + k * 8, none⟩)) (BL.cls wr) ?_
     simp only [zq]
     refine uO 7 (some 24) (.agg #[.int .i64 lb[k].cur, .int .i64 lb[k].loss, .int .i64 lb[k].p0, .int .i64 lb[k].p1, .int .i64 lb[k].p2, .int .i64 lb[k].p3, .int .i64 lb[k].p4, .int .i64 lb[k].rest]) (BL.cls wr) (fun _ ho => by cases ho; exact .inl ⟨rfl, fun w hSw => eff_load_mid 159 (.tmp 23) rfl bb (offb + k * 8) rfl [.int .i64 lb[k].cur, .int .i64 lb[k].loss, .int .i64 lb[k].p0, .int .i64 lb[k].p1, .int .i64 lb[k].p2, .int .i64 lb[k].p3, .int .i64 lb[k].p4, .int .i64 lb[k].rest] _ (fun j v h => BL.cell hSw (HCB.out j v h)) Tryz.underlying159 rfl HSZ.out⟩) ?_
     simp only [zq]
     refine uO 8 (some 25) (.bool false) (BL.cls wr) (fun o ho => ?_) ?_
     ·
      cases ho
      refine Or.inl ⟨rfl, fun w hSw => ?_⟩
      go_simp
      show Calls _ _ _ _ _
      refine (KFall_any _ la[k].cur la[k].loss la[k].p0 la[k].p1 la[k].p2 la[k].p3 la[k].p4 la[k].rest lb[k].cur lb[k].loss lb[k].p0 lb[k].p1 lb[k].p2 lb[k].p3 lb[k].p4 lb[k].rest).mono ?_
      rintro e w1 ⟨rfl, hb⟩
      exact ⟨by rw [HNE.out], hb⟩
     try simp only [zq]
     refine uG 9 (some 26) (.bool true) (BL.cls wr) ?_
     simp only [zq]
     refine wpAnyU_done (by kernel_rfl) (fun w1 hb1 => ?_) _
     go_wp2_with fail
     go_ret
     exact ⟨by rw [decide_eq_false HNL.out]; rfl, bgoS HBL.out hb1⟩
   ·
    have HALL : Hid (la = lb) := by
     have := Heq.out
     rwa [List.take_of_length_le (by omega), List.take_of_length_le (by rw [← Hl.out]; omega)] at this
    go_wp2_with fail
    go_ret
    exact ⟨by rw [decide_eq_true HALL.out]; rfl, HBL.out⟩
 ·
  have hl' : ((la.length : Int) != (lb.length : Int)) = true := by rw [bne_iff_ne]; omega
  have hne : la ≠ lb := fun e => hl (by rw [e])
  have HNE := Lh hne
  clear hne
  go_in
  go_wp2_with fail
  go_ret
  exact ⟨by rw [decide_eq_false HNE.out]; rfl, Below.refl _ _⟩
theorem KReply_any (w : World) (xc xn xa yc yn ya : Int) (vd vf ud uf : Value) (D1 D2 : List DT) (F1 F2 : List FT) (hd1 : Rs DT.vs 3 w vd D1) (hf1 : Rs FT.vs 8 w vf F1) (hd2 : Rs DT.vs 3 w ud D2) (hf2 : Rs FT.vs 8 w uf F2) :
  Calls Tryz.prog 22 #[.agg #[xc, xn, xa, vd, vf], .agg #[yc, yn, ya, ud, uf]] w fun e w' => e = .returned (.bool (decide (xc = yc ∧ xn = yn ∧ xa = ya ∧ D1 = D2 ∧ F1 = F2))) ∧ Below w.heap.size w w' := by
 obtain ⟨a1, c1, rfl, hc1, hm1⟩ := hd1.shape
 obtain ⟨a2, c2, rfl, hc2, hm2⟩ := hf1.shape
 obtain ⟨a3, c3, rfl, hc3, hm3⟩ := hd2.shape
 obtain ⟨a4, c4, rfl, hc4, hm4⟩ := hf2.shape
 obtain ⟨d, hd⟩ : ∃ d : Bool, d = decide (xc = yc ∧ xn = yn ∧ xa = ya ∧ D1 = D2 ∧ F1 = F2) := ⟨_, rfl⟩
 rw [← hd]
 have hb2 := two_allocs w (.cells #[xc, xn, xa, .slice a1 D1.length c1, .slice a2 F1.length c2] 63) (.cells #[yc, yn, ya, .slice a3 D2.length c3, .slice a4 F2.length c4] 63)
 have HD := Lh hd
 have HD1 := Lh (hd1.mono hb2)
 have HF1 := Lh (hf1.mono hb2)
 have HD2 := Lh (hd2.mono hb2)
 have HF2 := Lh (hf2.mono hb2)
 have HB2 := Lh hb2
 clear hd hb2 hd1 hf1 hd2 hf2 hc1 hm1 hc2 hm2 hc3 hm3 hc4 hm4
 by_cases h0 : xc = yc
 case neg =>
  have e0 : (xc == yc) = false := by simp [h0]
  have HF : Hid (d = false) := by show _ = _; rw [HD.out]; simp [h0]
  clear h0
  go_in
  go_wp2_with fail
  go_ret
  exact ⟨by rw [HF.out]; rfl, HB2.out⟩
 by_cases h1 : xn = yn
 case neg =>
  subst h0
  have e1 : (xn == yn) = false := by simp [h1]
  have HF : Hid (d = false) := by show _ = _; rw [HD.out]; simp [h1]
  clear h1
  go_in
  go_wp2_with fail
  go_ret
  exact ⟨by rw [HF.out]; rfl, HB2.out⟩
 by_cases h2 : xa = ya
 case neg =>
  subst h0 h1
  have e2 : (xa == ya) = false := by simp [h2]
  have HF : Hid (d = false) := by show _ = _; rw [HD.out]; simp [h2]
  clear h2
  go_in
  go_wp2_with fail
  go_ret
  exact ⟨by rw [HF.out]; rfl, HB2.out⟩
 subst h0 h1 h2
 have kd := KDues_any _ _ _ D1 D2 HD1.out HD2.out
 by_cases h3 : D1 = D2
 ·
  rw [decide_eq_true h3] at kd
  have HDF : Hid (d = decide (F1 = F2)) := by show _ = _; rw [HD.out]; simp [h3]
  clear h3
  go_in
  go_wp2_with fail
  refine kd.mono ?_
  clear kd
  rintro e w2 ⟨rfl, hb3⟩
  have kf := KFalls_any w2 _ _ F1 F2 (HF1.out.mono hb3) (HF2.out.mono hb3)
  rw [← HDF.out] at kf
  have HB3 := Lh (bgo HB2.out hb3 HB2.out.size)
  have q4 : w2.cell? ⟨w.heap.size, 4, none⟩ = some (.slice a2 F1.length c2) := (HT.below (HT.below (HT.new (w := w) (t := 63) (C := [.int .i64 xc, .int .i64 xn, .int .i64 xa, .slice a1 D1.length c1, .slice a2 F1.length c2])) (Bn)) hb3).cell (j := 4) rfl
  have q5 : w2.cell? ⟨w.heap.size + 1, 4, none⟩ = some (.slice a4 F2.length c4) := by
   have := HT.new (w := w.alloc (.cells #[.int .i64 xc, .int .i64 xn, .int .i64 xa, .slice a1 D1.length c1, .slice a2 F1.length c2] 63)) (t := 63) (C := [.int .i64 xc, .int .i64 xn, .int .i64 xa, .slice a3 D2.length c3, .slice a4 F2.length c4])
   have h := (HT.below this hb3).cell (j := 4) rfl
   rwa [show (w.alloc (.cells #[xc, xn, xa, .slice a1 D1.length c1, .slice a2 F1.length c2] 63)).heap.size = w.heap.size + 1 by simp] at h
  clear hb3
  go_wp2_with fail
  refine kf.mono ?_
  clear kf
  rintro e w3 ⟨rfl, hb4⟩
  have HB4 := Lh (bgo HB3.out hb4 HB3.out.size)
  clear hb4
  go_wp2_with fail
  go_ret
  exact ⟨rfl, HB4.out⟩
 ·
  rw [decide_eq_false h3] at kd
  have HF : Hid (d = false) := by show _ = _; rw [HD.out]; simp [h3]
  clear h3
  go_in
  go_wp2_with fail
  refine kd.mono ?_
  clear kd
  rintro e w2 ⟨rfl, hb3⟩
  have HB3 := Lh (bgo HB2.out hb3 HB2.out.size)
  clear hb3
  go_wp2_with fail
  go_ret
  exact ⟨by rw [HF.out]; rfl, HB3.out⟩
def okI (l : List Int) : Prop := ∀ n ∈ l, -9223372036854775808 ≤ n ∧ n ≤ 9223372036854775807
def repL (D : List DT) (F : List FT) : Bool := decide (1200 < D.length) || decide (1200 < F.length)
theorem long_any (w : World) (xc xn xa : Int) (vd vf : Value) (D : List DT) (F : List FT) (hd : Rs DT.vs 3 w vd D) (hf : Rs FT.vs 8 w vf F) :
  Calls Tryz.prog 16 #[.agg #[xc, xn, xa, vd, vf]] w fun e w' => e = .returned (.bool (repL D F)) ∧ Below w.heap.size w w' := by
 obtain ⟨a1, c1, rfl, hc1, hm1⟩ := hd.shape
 obtain ⟨a2, c2, rfl, hc2, hm2⟩ := hf.shape
 have HB := Lh ((Below.refl w.heap.size w).alloc (Nat.le_refl _) (.cells #[xc, xn, xa, .slice a1 D.length c1, .slice a2 F.length c2] 63))
 obtain ⟨d, hd0⟩ : ∃ d, d = repL D F := ⟨_, rfl⟩
 rw [← hd0]
 have HD := Lh hd0
 clear hd0 hd hf
 by_cases h1 : 1200 < D.length
 ·
  have HT : Hid (d = true) := by show _ = _; rw [HD.out]; simp [repL, h1]
  go_in
  go_wp2_with fail
  go_ret
  exact ⟨by rw [HT.out]; rfl, HB.out⟩
 ·
  by_cases h2 : 1200 < F.length
  ·
   have HT : Hid (d = true) := by show _ = _; rw [HD.out]; simp [repL, h2]
   go_in
   go_wp2_with fail
   go_ret
   exact ⟨by rw [HT.out]; simp; omega, HB.out⟩
  ·
   have HT : Hid (d = false) := by show _ = _; rw [HD.out]; simp [repL, h1, h2]
   go_in
   go_wp2_with fail
   go_ret
   exact ⟨by rw [HT.out]; simp; omega, HB.out⟩
end Cam
