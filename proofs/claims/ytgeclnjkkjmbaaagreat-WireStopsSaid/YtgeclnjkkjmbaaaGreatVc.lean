import Derived.Test.YtgeclnjkkjmbaaaGreatWrT
import Derived.Test.YtgeclnjkkjmbaaaGreatWrNa
import Derived.Test.YtgeclnjkkjmbaaaGreatVb
/- wire.Reply. -/
namespace Cam
open Go Go.RowKit Go.Proofs

/-- are the lists too long? -/
def repW (D : List DT) (F : List FT) : Bool := decide (1024 < D.length) || decide (1024 < F.length)
theorem encRep_length (xc xn xa : Int) (D : List DT) (F : List FT) (hr : ∀ n ∈ [xc, xn, xa], -9223372036854775808 ≤ n ∧ n ≤ 9223372036854775807) (hrd : ∀ x ∈ D, ∀ n ∈ x.ints, -9223372036854775808 ≤ n ∧ n ≤ 9223372036854775807) (hrf : ∀ x ∈ F, ∀ n ∈ x.ints, -9223372036854775808 ≤ n ∧ n ≤ 9223372036854775807) : (encRep xc xn xa D F).length ≤ 200000 := by
  have h1 := encIs_length [xc, xn, xa] hr
  have h2 := lw_length DT.ints 3 D (fun _ _ => rfl) hrd
  have h3 := lw_length FT.ints 8 F (fun _ _ => rfl) hrf
  unfold encRep
  simp at h1 ⊢
  omega
set_option maxRecDepth 100000 in
set_option maxHeartbeats 1600000 in
theorem Reply_any (w : World) (xc xn xa : Int) (vd vf : Value) (D : List DT) (F : List FT) (hr : ∀ n ∈ [xc, xn, xa], -9223372036854775808 ≤ n ∧ n ≤ 9223372036854775807)
    (hd : Rs DT.vs 3 w vd D) (hf : Rs FT.vs 8 w vf F) (hrd : ∀ x ∈ D, ∀ n ∈ x.ints, -9223372036854775808 ≤ n ∧ n ≤ 9223372036854775807) (hrf : ∀ x ∈ F, ∀ n ∈ x.ints, -9223372036854775808 ≤ n ∧ n ≤ 9223372036854775807) :
    Calls Tryz.prog 20 #[.agg #[.int .i64 xc, .int .i64 xn, .int .i64 xa, vd, vf]] w (BytesPost w (repW D F) (encRep xc xn xa D F)) := by
  have hle := encRep_length xc xn xa D F hr hrd hrf
  obtain ⟨ad, cd, rfl, hcd, hmd⟩ := hd.shape
  obtain ⟨af, cf, rfl, hcf, hmf⟩ := hf.shape
  have hb1 := (Below.refl w.heap.size w).alloc (Nat.le_refl _) (.cells #[.int .i64 xc, .int .i64 xn, .int .i64 xa, .slice ad D.length cd, .slice af F.length cf] 63)
  have hb2 := hb1.alloc hb1.size (.cells #[.slice none 0 0, .bool false, .bool false] 80)
  have hp := PW.new3 (w := w.alloc (.cells #[.int .i64 xc, .int .i64 xn, .int .i64 xa, .slice ad D.length cd, .slice af F.length cf] 63)) (tw := 80) (g := w.heap.size + 1) (by simp)
  have hc : HT (w.alloc (.cells #[.int .i64 xc, .int .i64 xn, .int .i64 xa, .slice ad D.length cd, .slice af F.length cf] 63)) w.heap.size 63 [.int .i64 xc, .int .i64 xn, .int .i64 xa, .slice ad D.length cd, .slice af F.length cf] := HT.new (w := w)
  have hc2 := hc.below ((Below.refl _ _).alloc (Nat.le_refl _) (.cells #[.slice none 0 0, .bool false, .bool false] 80))
  have HG : Hid (((w.alloc (.cells #[.int .i64 xc, .int .i64 xn, .int .i64 xa, .slice ad D.length cd, .slice af F.length cf] 63)).alloc (.cells #[.slice none 0 0, .bool false, .bool false] 80)).heap[w.heap.size]? = some (.cells #[.int .i64 xc, .int .i64 xn, .int .i64 xa, .slice ad D.length cd, .slice af F.length cf] 63 (0, 0))) := hc2
  have HSZ : Hid ((Tryz.prog.info? 63).map (·.size) = some (#[.int .i64 xc, .int .i64 xn, .int .i64 xa, .slice ad D.length cd, .slice af F.length cf] : Array Value).size) := by show _ = _; rw [show ((Tryz.prog.info? 63).map (·.size)) = some 5 from by kernel_rfl]; rfl
  have hin : ∀ w', Kept (fun k => k = w.heap.size + 1 ∨ (Value.slice none 0 0).ownBlock = some k) ((w.alloc (.cells #[.int .i64 xc, .int .i64 xn, .int .i64 xa, .slice ad D.length cd, .slice af F.length cf] 63)).alloc (.cells #[.slice none 0 0, .bool false, .bool false] 80)) w' → Below w.heap.size w w' := fun w' hk =>
    hb2.trans (hk.below (B := w.heap.size) (fun k hk e => by
      rcases e with e | e
      · omega
      · cases e) hb2.size)
  have cm := wreply_any (tw := 80) _ _ _ [] false false xc xn xa _ _ D F hp hr (fun w' hk => hd.mono (hin w' hk)) (fun w' hk => hf.mono (hin w' hk)) hrd hrf (by simp)
  obtain ⟨L, hL⟩ : ∃ L, L = encRep xc xn xa D F := ⟨_, rfl⟩
  obtain ⟨wg, hwg⟩ : ∃ b, b = repW D F := ⟨_, rfl⟩
  rw [List.nil_append, ← hL, Bool.false_or, show (decide (1024 < D.length) || decide (1024 < F.length)) = repW D F from rfl, ← hwg] at cm
  rw [← hL] at hle ⊢
  rw [← hwg]
  have HB2 := Lib.hid hb2
  clear hb1 hb2 hp hc hc2 hr hL hwg hin hd hf hrd hrf
  go_enter Tryz.func20, Tryz.ntmps20
  go_wp2_with (first
    | (refine wpList_load_row rfl 63 (.tmp 1) rfl w.heap.size rfl 63 #[.int .i64 xc, .int .i64 xn, .int .i64 xa, .slice ad D.length cd, .slice af F.length cf] (0, 0) _ HG.out Tryz.underlying63 rfl HSZ.out ?_)
    | fail)
  refine cm.mono ?_
  clear cm
  rintro e w2 ⟨rfl, hpo⟩
  obtain ⟨v, hp2, hb3⟩ := hpo.below HB2.out (by simp)
  have by0 := bytes_any _ w2 _ v L wg hp2 (by omega)
  unfold BytesPost at by0
  have HB3 := Lib.hid hb3
  clear hpo hp2 hb3
  generalize hbe : bE wg L = eb at by0
  have HBE := Lib.hid hbe
  clear hbe
  go_wp2_with fail
  refine by0.mono ?_
  clear by0
  rintro e w3 ⟨a, n, c, rfl, ho, hb4⟩
  have HO := Lib.hid ho
  have HB4 := Lib.hid hb4
  clear ho hb4
  go_wp2_with fail
  go_ret2
  exact ⟨a, n, c, by rw [HBE.out]; rfl, OwnB.base HO.out HB3.out.size, HB3.out.trans (HB4.out.mono HB3.out.size)⟩

end Cam
/- cambistkeep: Due, Fall. -/
namespace Cam
open Go Go.RowKit Go.Proofs

theorem two_allocs (w : World) (o1 o2 : Obj) : Below w.heap.size w ((w.alloc o1).alloc o2) := ((Below.refl _ _).alloc (Nat.le_refl _) _).alloc (Below.size ((Below.refl _ _).alloc (Nat.le_refl _) o1)) _
set_option maxRecDepth 100000 in
set_option maxHeartbeats 3200000 in
theorem KDue_any (w : World) (x0 x1 x2 y0 y1 y2 : Int) :
    Calls Tryz.prog 104 #[.agg #[.int .i64 x0, .int .i64 x1, .int .i64 x2], .agg #[.int .i64 y0, .int .i64 y1, .int .i64 y2]] w fun e w' => e = .returned (.bool (decide ([x0, x1, x2] = [y0, y1, y2]))) ∧ Below w.heap.size w w' := by
  have hb1 : Below w.heap.size w (w.alloc (.cells #[.int .i64 x0, .int .i64 x1, .int .i64 x2] 106)) := (Below.refl _ _).alloc (Nat.le_refl _) _
  have hb2 : Below w.heap.size w ((w.alloc (.cells #[.int .i64 x0, .int .i64 x1, .int .i64 x2] 106)).alloc (.cells #[.int .i64 y0, .int .i64 y1, .int .i64 y2] 106)) := hb1.alloc hb1.size _
  have hc1 : HT ((w.alloc (.cells #[.int .i64 x0, .int .i64 x1, .int .i64 x2] 106)).alloc (.cells #[.int .i64 y0, .int .i64 y1, .int .i64 y2] 106)) w.heap.size 106 (ivs [x0, x1, x2]) := (HT.new (w := w) (t := 106) (C := ivs [x0, x1, x2])).below ((Below.refl _ _).alloc (Nat.le_refl _) _)
  have hc2 : HT ((w.alloc (.cells #[.int .i64 x0, .int .i64 x1, .int .i64 x2] 106)).alloc (.cells #[.int .i64 y0, .int .i64 y1, .int .i64 y2] 106)) (w.heap.size + 1) 106 (ivs [y0, y1, y2]) := by
    have := HT.new (w := w.alloc (.cells #[.int .i64 x0, .int .i64 x1, .int .i64 x2] 106)) (t := 106) (C := ivs [y0, y1, y2])
    rw [show (w.alloc (.cells #[.int .i64 x0, .int .i64 x1, .int .i64 x2] 106)).heap.size = w.heap.size + 1 by simp] at this
    exact this
  have HB2 := Lib.hid hb2
  have HC1 := Lib.hid hc1
  have HC2 := Lib.hid hc2
  clear hb1 hb2 hc1 hc2
  obtain ⟨d, hd⟩ : ∃ d : Bool, d = decide ([x0, x1, x2] = [y0, y1, y2]) := ⟨_, rfl⟩
  rw [← hd]
  have HD := Lib.hid hd
  clear hd
  go_enter Tryz.func104, Tryz.ntmps104
  have HX := HC1
  have HY := HC2
  have HBEL := HB2
  have HALL : Hid (x0 = y0 → x1 = y1 → decide ([x0, x1, x2] = [y0, y1, y2]) = (x2 == y2)) := by
    show x0 = y0 → x1 = y1 → _
    intros
    subst_vars
    rw [Bool.eq_iff_iff]
    simp
  have hx0 := HX.out.cell (j := 0) rfl
  have hy0 := HY.out.cell (j := 0) rfl
  have hx1 := HX.out.cell (j := 1) rfl
  have hy1 := HY.out.cell (j := 1) rfl
  have hx2 := HX.out.cell (j := 2) rfl
  have hy2 := HY.out.cell (j := 2) rfl
  go_wp2_with fail
  · rename_i g0 g1
    go_ret
    exact ⟨by rw [HD.out, HALL.out g0 g1]; rfl, two_allocs _ _ _⟩
  · rename_i hn
    go_ret
    exact ⟨by rw [HD.out, decide_eq_false (show [x0, x1, x2] ≠ [y0, y1, y2] from fun h => hn (congrArg (fun L : List Int => L.getD 1 0) h))]; rfl, two_allocs _ _ _⟩
  · rename_i hn
    go_ret
    exact ⟨by rw [HD.out, decide_eq_false (show [x0, x1, x2] ≠ [y0, y1, y2] from fun h => hn (congrArg (fun L : List Int => L.getD 0 0) h))]; rfl, two_allocs _ _ _⟩
set_option maxRecDepth 100000 in
set_option maxHeartbeats 3200000 in
theorem KFall_any (w : World) (x0 x1 x2 x3 x4 x5 x6 x7 y0 y1 y2 y3 y4 y5 y6 y7 : Int) :
    Calls Tryz.prog 116 #[.agg #[.int .i64 x0, .int .i64 x1, .int .i64 x2, .int .i64 x3, .int .i64 x4, .int .i64 x5, .int .i64 x6, .int .i64 x7], .agg #[.int .i64 y0, .int .i64 y1, .int .i64 y2, .int .i64 y3, .int .i64 y4, .int .i64 y5, .int .i64 y6, .int .i64 y7]] w fun e w' => e = .returned (.bool (decide ([x0, x1, x2, x3, x4, x5, x6, x7] = [y0, y1, y2, y3, y4, y5, y6, y7]))) ∧ Below w.heap.size w w' := by
  have hb1 : Below w.heap.size w (w.alloc (.cells #[.int .i64 x0, .int .i64 x1, .int .i64 x2, .int .i64 x3, .int .i64 x4, .int .i64 x5, .int .i64 x6, .int .i64 x7] 159)) := (Below.refl _ _).alloc (Nat.le_refl _) _
  have hb2 : Below w.heap.size w ((w.alloc (.cells #[.int .i64 x0, .int .i64 x1, .int .i64 x2, .int .i64 x3, .int .i64 x4, .int .i64 x5, .int .i64 x6, .int .i64 x7] 159)).alloc (.cells #[.int .i64 y0, .int .i64 y1, .int .i64 y2, .int .i64 y3, .int .i64 y4, .int .i64 y5, .int .i64 y6, .int .i64 y7] 159)) := hb1.alloc hb1.size _
  have hc1 : HT ((w.alloc (.cells #[.int .i64 x0, .int .i64 x1, .int .i64 x2, .int .i64 x3, .int .i64 x4, .int .i64 x5, .int .i64 x6, .int .i64 x7] 159)).alloc (.cells #[.int .i64 y0, .int .i64 y1, .int .i64 y2, .int .i64 y3, .int .i64 y4, .int .i64 y5, .int .i64 y6, .int .i64 y7] 159)) w.heap.size 159 (ivs [x0, x1, x2, x3, x4, x5, x6, x7]) := (HT.new (w := w) (t := 159) (C := ivs [x0, x1, x2, x3, x4, x5, x6, x7])).below ((Below.refl _ _).alloc (Nat.le_refl _) _)
  have hc2 : HT ((w.alloc (.cells #[.int .i64 x0, .int .i64 x1, .int .i64 x2, .int .i64 x3, .int .i64 x4, .int .i64 x5, .int .i64 x6, .int .i64 x7] 159)).alloc (.cells #[.int .i64 y0, .int .i64 y1, .int .i64 y2, .int .i64 y3, .int .i64 y4, .int .i64 y5, .int .i64 y6, .int .i64 y7] 159)) (w.heap.size + 1) 159 (ivs [y0, y1, y2, y3, y4, y5, y6, y7]) := by
    have := HT.new (w := w.alloc (.cells #[.int .i64 x0, .int .i64 x1, .int .i64 x2, .int .i64 x3, .int .i64 x4, .int .i64 x5, .int .i64 x6, .int .i64 x7] 159)) (t := 159) (C := ivs [y0, y1, y2, y3, y4, y5, y6, y7])
    rw [show (w.alloc (.cells #[.int .i64 x0, .int .i64 x1, .int .i64 x2, .int .i64 x3, .int .i64 x4, .int .i64 x5, .int .i64 x6, .int .i64 x7] 159)).heap.size = w.heap.size + 1 by simp] at this
    exact this
  have HB2 := Lib.hid hb2
  have HC1 := Lib.hid hc1
  have HC2 := Lib.hid hc2
  clear hb1 hb2 hc1 hc2
  obtain ⟨d, hd⟩ : ∃ d : Bool, d = decide ([x0, x1, x2, x3, x4, x5, x6, x7] = [y0, y1, y2, y3, y4, y5, y6, y7]) := ⟨_, rfl⟩
  rw [← hd]
  have HD := Lib.hid hd
  clear hd
  go_enter Tryz.func116, Tryz.ntmps116
  go_wp2_with fail
  generalize hW : (w.alloc (.cells #[.int .i64 x0, .int .i64 x1, .int .i64 x2, .int .i64 x3, .int .i64 x4, .int .i64 x5, .int .i64 x6, .int .i64 x7] 159)).alloc (.cells #[.int .i64 y0, .int .i64 y1, .int .i64 y2, .int .i64 y3, .int .i64 y4, .int .i64 y5, .int .i64 y6, .int .i64 y7] 159) = W at *
  clear hW
  generalize hgx : w.heap.size = gx at *
  have HGX : Hid (w.heap.size = gx) := hgx
  clear hgx
  go_loopw [5] (fun v5 wr => ∃ k : Nat, k ≤ 5 ∧ v5 = .int .i64 k ∧ HT wr gx 159 (ivs [x0, x1, x2, x3, x4, x5, x6, x7]) ∧ HT wr (gx + 1) 159 (ivs [y0, y1, y2, y3, y4, y5, y6, y7]) ∧ (∀ j, j < k → (ivs [x0, x1, x2, x3, x4, x5, x6, x7])[2 + j]? = (ivs [y0, y1, y2, y3, y4, y5, y6, y7])[2 + j]?) ∧ Below gx w wr) (fun i _ => 5 - (intOf i).toNat)
  case atStart => exact ⟨0, by omega, rfl, HC1.out, HC2.out, fun j hj => by omega, HB2.out⟩
  case round =>
    obtain ⟨k, hk, rfl, hx, hy, heq, hbel⟩ := hrel
    have HX := Lib.hid hx
    have HY := Lib.hid hy
    have HEQ := Lib.hid heq
    have HBEL := Lib.hid hbel
    clear hx hy heq hbel
    by_cases hlt : k < 5
    · obtain ⟨a, ha⟩ : ∃ a, (ivs [x0, x1, x2, x3, x4, x5, x6, x7])[2 + k]? = some (.int .i64 a) := ⟨_, ivs_at (by show 2 + k < 8; omega)⟩
      obtain ⟨b, hb⟩ : ∃ b, (ivs [y0, y1, y2, y3, y4, y5, y6, y7])[2 + k]? = some (.int .i64 b) := ⟨_, ivs_at (by show 2 + k < 8; omega)⟩
      have hcx := HX.out.cell ha
      have hcy := HY.out.cell hb
      have HA := Lib.hid ha
      have HB := Lib.hid hb
      clear ha hb
      go_wp2_with fail
      go_quiet (fail)
      have HQ := Lib.hid (below_drewN' HBEL.out nq)
      have HX2 := Lib.hid (HX.out.below (below_drewN' (Below.refl _ _) nq))
      have HY2 := Lib.hid (HY.out.below (below_drewN' (Below.refl _ _) nq))
      by_cases hne : a = b
      · have hne' : (a != b) = false := by rw [hne]; simp
        have HNE := Lib.hid hne
        clear hne
        go_wp2_with fail
        go_roundw
        case rel => exact ⟨k + 1, by omega, by go_num, HX2.out, HY2.out, fun j hj => by
          by_cases h : j < k
          · exact HEQ.out j h
          · obtain rfl : j = k := by omega
            rw [HA.out, HB.out, HNE.out], HQ.out⟩
        case measure => simp [intOf]; omega
      · have hne' : (a != b) = true := by rw [bne_iff_ne]; exact hne
        have hll : [x0, x1, x2, x3, x4, x5, x6, x7] ≠ [y0, y1, y2, y3, y4, y5, y6, y7] := fun h => hne (by have h1 := HA.out; rw [h, HB.out] at h1; injection h1 with h1; injection h1 with _ h2; exact h2.symm)
        have HLL := Lib.hid hll
        clear hne hll
        go_wp2_with fail
        go_ret
        exact ⟨by rw [HD.out, decide_eq_false HLL.out]; rfl, by rw [HGX.out]; exact HQ.out⟩
    · obtain rfl : k = 5 := by omega
      have HALL : Hid (x0 = y0 → x1 = y1 → decide ([x0, x1, x2, x3, x4, x5, x6, x7] = [y0, y1, y2, y3, y4, y5, y6, y7]) = (x7 == y7)) := by
        show x0 = y0 → x1 = y1 → _
        have h0 := HEQ.out 0 (by omega)
        have h1 := HEQ.out 1 (by omega)
        have h2 := HEQ.out 2 (by omega)
        have h3 := HEQ.out 3 (by omega)
        have h4 := HEQ.out 4 (by omega)
        simp at h0 h1 h2 h3 h4
        intros
        subst_vars
        rw [Bool.eq_iff_iff]
        simp
      have hx0 := HX.out.cell (j := 0) rfl
      have hy0 := HY.out.cell (j := 0) rfl
      have hx1 := HX.out.cell (j := 1) rfl
      have hy1 := HY.out.cell (j := 1) rfl
      have hx7 := HX.out.cell (j := 7) rfl
      have hy7 := HY.out.cell (j := 7) rfl
      go_wp2_with fail
      · rename_i g0 g1
        go_ret
        exact ⟨by rw [HD.out, HALL.out g0 g1]; rfl, by rw [HGX.out]; exact HBEL.out⟩
      · rename_i hn
        go_ret
        exact ⟨by rw [HD.out, decide_eq_false (show [x0, x1, x2, x3, x4, x5, x6, x7] ≠ [y0, y1, y2, y3, y4, y5, y6, y7] from fun h => hn (congrArg (fun L : List Int => L.getD 1 0) h))]; rfl, by rw [HGX.out]; exact HBEL.out⟩
      · rename_i hn
        go_ret
        exact ⟨by rw [HD.out, decide_eq_false (show [x0, x1, x2, x3, x4, x5, x6, x7] ≠ [y0, y1, y2, y3, y4, y5, y6, y7] from fun h => hn (congrArg (fun L : List Int => L.getD 0 0) h))]; rfl, by rw [HGX.out]; exact HBEL.out⟩
end Cam
/- cambistkeep: Dues, Falls. -/
namespace Cam
open Go Go.RowKit Go.Proofs

theorem bgoS {w wr w1 : World} (h : Below w.heap.size w wr) (h2 : BL wr w1) : Below w.heap.size w w1 := h.trans (h2.mono h.size)

theorem DT.ints_inj {a b : DT} : a.ints = b.ints ↔ a = b := by
  cases a
  cases b
  simp [DT.ints]
set_option maxRecDepth 100000 in
set_option maxHeartbeats 3200000 in
theorem KDues_any (w : World) (va vb : Value) (la lb : List DT) (ha : Rs DT.vs 3 w va la) (hb : Rs DT.vs 3 w vb lb) :
    Calls Tryz.prog 53 #[va, vb] w fun e w' => e = .returned (.bool (decide (la = lb))) ∧ Below w.heap.size w w' := by
  obtain ⟨aa, capa, rfl, hcapa, hma⟩ := ha.shape
  obtain ⟨ab, capb, rfl, hcapb, hmb⟩ := hb.shape
  by_cases hl : la.length = lb.length
  · have hl' : ((la.length : Int) != (lb.length : Int)) = false := by rw [hl]; simp
    have Hl := Lib.hid hl
    have HSZ : Hid ((Tryz.prog.info? 106).map (·.size) = some 3) := by show _ = _; kernel_rfl
    clear hl
    go_enter Tryz.func53, Tryz.ntmps53
    go_wp2_with fail
    go_loopw [5] (fun i wr => ∃ k : Nat, k ≤ la.length ∧ i = .int .i64 k ∧ Hid (la.take k = lb.take k) ∧ Below w.heap.size w wr) (fun i _ => la.length - (intOf i).toNat)
    case atStart => exact ⟨0, Nat.zero_le _, rfl, rfl, Below.refl _ _⟩
    case round =>
      obtain ⟨k, hk, rfl, Heq, hbel⟩ := hrel
      have HBL := Lib.hid hbel
      by_cases hlt : k < la.length
      · have hlt2 : k < lb.length := by rw [← Hl.out]; exact hlt
        obtain ⟨ba, offa, rfl, _, hca⟩ := (ha.mono hbel).at (by omega) (by decide)
        obtain ⟨bb, offb, rfl, _, hcb⟩ := (hb.mono hbel).at (by omega) (by decide)
        have HCA : Hid (∀ j v, [.int .i64 la[k].who, .int .i64 la[k].cur, .int .i64 la[k].amt][j]? = some v → wr.cell? ⟨ba, offa + k * 3 + j, none⟩ = some v) := fun j v h => hca k hlt j v h
        have HCB : Hid (∀ j v, [.int .i64 lb[k].who, .int .i64 lb[k].cur, .int .i64 lb[k].amt][j]? = some v → wr.cell? ⟨bb, offb + k * 3 + j, none⟩ = some v) := fun j v h => hcb k hlt2 j v h
        have hk0 : (0 : Int) ≤ k := by omega
        have hk1 : (k : Int) < la.length := by omega
        have hk2 : (k : Int) < lb.length := by omega
        clear hca hcb hbel
        go_wp2_with fail
        by_cases hne : la[k] = lb[k]
        · have HNE : Hid (decide ([la[k].who, la[k].cur, la[k].amt] = [lb[k].who, lb[k].cur, lb[k].amt]) = true) := by show _ = true; rw [decide_eq_true_iff]; exact DT.ints_inj.2 hne
          have HNX : Hid (la.take (k + 1) = lb.take (k + 1)) := by show _ = _; rw [List.take_succ_eq_append_getElem hlt, List.take_succ_eq_append_getElem hlt2, Heq.out, hne]
          clear hne
          refine wp_region_bl 10 (by kernel_rfl) ?_
          refine wpAnyU_take (i := 0) (oi := { dst := some 17, op := Op.move (Operand.tmp 0), type := 60, pos := "keep.go:90", after := #[], guard := none }) (v := (.slice (some ⟨ba, offa, none⟩) la.length capa)) rfl (by kernel_rfl) (by kernel_rfl) (by kernel_rfl) (by kernel_rfl) (by kernel_rfl) (fun _ _ _ h => h) (BL.cls wr) ?_ ?_
          · refine Or.inl ⟨rfl, fun w hSw => ?_⟩
            exact EffR.same (by go_simp)
          try simp only [Act.put, List.setIfInBounds_toArray, List.set_cons_zero, List.set_cons_succ]
          refine wpAnyU_take (i := 1) (oi := { dst := some 18, op := Op.move (Operand.tmp 5), type := 3, pos := "keep.go:90", after := #[], guard := none }) (v := (.int .i64 (k : Int))) rfl (by kernel_rfl) (by kernel_rfl) (by kernel_rfl) (by kernel_rfl) (by kernel_rfl) (fun _ _ _ h => h) (BL.cls wr) ?_ ?_
          · refine Or.inl ⟨rfl, fun w hSw => ?_⟩
            exact EffR.same (by go_simp)
          try simp only [Act.put, List.setIfInBounds_toArray, List.set_cons_zero, List.set_cons_succ]
          refine wpAnyU_take (i := 2) (oi := { dst := some 19, op := Op.indexAddr 60 (Operand.tmp 17) (Operand.tmp 18), type := 0, pos := "keep.go:90", after := #[{ on := 0, ground := Ground.data }, { on := 1, ground := Ground.data }], guard := none }) (v := (.pointer (some ⟨ba, offa + k * 3, none⟩))) rfl (by kernel_rfl) (by kernel_rfl) (by kernel_rfl) (by kernel_rfl) (by kernel_rfl) (fun _ _ _ h => h) (BL.cls wr) ?_ ?_
          · refine Or.inl ⟨rfl, fun w hSw => ?_⟩
            exact EffR.same (by go_simp)
          try simp only [Act.put, List.setIfInBounds_toArray, List.set_cons_zero, List.set_cons_succ]
          refine wpAnyU_take (i := 3) (oi := { dst := some 20, op := Op.load 106 (Operand.tmp 19), type := 106, pos := "keep.go:90", after := #[{ on := 2, ground := Ground.data }], guard := none }) (v := (.agg #[.int .i64 la[k].who, .int .i64 la[k].cur, .int .i64 la[k].amt])) rfl (by kernel_rfl) (by kernel_rfl) (by kernel_rfl) (by kernel_rfl) (by kernel_rfl) (fun _ _ _ h => h) (BL.cls wr) ?_ ?_
          · refine Or.inl ⟨rfl, fun w hSw => ?_⟩
            exact eff_load_mid 106 (.tmp 19) rfl ba (offa + k * 3) rfl [.int .i64 la[k].who, .int .i64 la[k].cur, .int .i64 la[k].amt] _ (fun j v h => BL.cell hSw (HCA.out j v h)) Tryz.underlying106 rfl HSZ.out
          try simp only [Act.put, List.setIfInBounds_toArray, List.set_cons_zero, List.set_cons_succ]
          refine wpAnyU_take (i := 4) (oi := { dst := some 21, op := Op.move (Operand.tmp 1), type := 60, pos := "keep.go:90", after := #[], guard := none }) (v := (.slice (some ⟨bb, offb, none⟩) lb.length capb)) rfl (by kernel_rfl) (by kernel_rfl) (by kernel_rfl) (by kernel_rfl) (by kernel_rfl) (fun _ _ _ h => h) (BL.cls wr) ?_ ?_
          · refine Or.inl ⟨rfl, fun w hSw => ?_⟩
            exact EffR.same (by go_simp)
          try simp only [Act.put, List.setIfInBounds_toArray, List.set_cons_zero, List.set_cons_succ]
          refine wpAnyU_take (i := 5) (oi := { dst := some 22, op := Op.move (Operand.tmp 5), type := 3, pos := "keep.go:90", after := #[], guard := none }) (v := (.int .i64 (k : Int))) rfl (by kernel_rfl) (by kernel_rfl) (by kernel_rfl) (by kernel_rfl) (by kernel_rfl) (fun _ _ _ h => h) (BL.cls wr) ?_ ?_
          · refine Or.inl ⟨rfl, fun w hSw => ?_⟩
            exact EffR.same (by go_simp)
          try simp only [Act.put, List.setIfInBounds_toArray, List.set_cons_zero, List.set_cons_succ]
          refine wpAnyU_take (i := 6) (oi := { dst := some 23, op := Op.indexAddr 60 (Operand.tmp 21) (Operand.tmp 22), type := 0, pos := "keep.go:90", after := #[{ on := 4, ground := Ground.data }, { on := 5, ground := Ground.data }], guard := none }) (v := (.pointer (some ⟨bb, offb + k * 3, none⟩))) rfl (by kernel_rfl) (by kernel_rfl) (by kernel_rfl) (by kernel_rfl) (by kernel_rfl) (fun _ _ _ h => h) (BL.cls wr) ?_ ?_
          · refine Or.inl ⟨rfl, fun w hSw => ?_⟩
            exact EffR.same (by go_simp)
          try simp only [Act.put, List.setIfInBounds_toArray, List.set_cons_zero, List.set_cons_succ]
          refine wpAnyU_take (i := 7) (oi := { dst := some 24, op := Op.load 106 (Operand.tmp 23), type := 106, pos := "keep.go:90", after := #[{ on := 6, ground := Ground.data }], guard := none }) (v := (.agg #[.int .i64 lb[k].who, .int .i64 lb[k].cur, .int .i64 lb[k].amt])) rfl (by kernel_rfl) (by kernel_rfl) (by kernel_rfl) (by kernel_rfl) (by kernel_rfl) (fun _ _ _ h => h) (BL.cls wr) ?_ ?_
          · refine Or.inl ⟨rfl, fun w hSw => ?_⟩
            exact eff_load_mid 106 (.tmp 23) rfl bb (offb + k * 3) rfl [.int .i64 lb[k].who, .int .i64 lb[k].cur, .int .i64 lb[k].amt] _ (fun j v h => BL.cell hSw (HCB.out j v h)) Tryz.underlying106 rfl HSZ.out
          try simp only [Act.put, List.setIfInBounds_toArray, List.set_cons_zero, List.set_cons_succ]
          refine wpAnyU_take (i := 8) (oi := { dst := some 25, op := Op.call { callee := Callee.value (Operand.func 104), args := #[Operand.tmp 20, Operand.tmp 24], argTypes := #[106, 106] }, type := 4, pos := "keep.go:90", after := #[{ on := 3, ground := Ground.data }, { on := 7, ground := Ground.data }], guard := none }) (v := (.bool true)) rfl (by kernel_rfl) (by kernel_rfl) (by kernel_rfl) (by kernel_rfl) (by kernel_rfl) (fun _ _ _ h => h) (BL.cls wr) ?_ ?_
          · refine Or.inl ⟨rfl, fun w hSw => ?_⟩
            go_simp
            show Calls _ _ _ _ _
            refine (KDue_any _ la[k].who la[k].cur la[k].amt lb[k].who lb[k].cur lb[k].amt).mono ?_
            rintro e w1 ⟨rfl, hb⟩
            exact ⟨by rw [HNE.out], hb⟩
          try simp only [Act.put, List.setIfInBounds_toArray, List.set_cons_zero, List.set_cons_succ]
          refine wpAnyU_take (i := 9) (oi := { dst := some 26, op := Op.unOp UnOp.not 4 (Operand.tmp 25), type := 4, pos := "keep.go:90", after := #[{ on := 8, ground := Ground.data }], guard := none }) (v := (.bool false)) rfl (by kernel_rfl) (by kernel_rfl) (by kernel_rfl) (by kernel_rfl) (by kernel_rfl) (fun _ _ _ h => h) (BL.cls wr) ?_ ?_
          · refine Or.inl ⟨rfl, fun w hSw => ?_⟩
            exact EffR.same (by go_simp)
          try simp only [Act.put, List.setIfInBounds_toArray, List.set_cons_zero, List.set_cons_succ]
          refine wpAnyU_done (by kernel_rfl) (fun w1 hb1 => ?_) _
          go_wp2_with fail
          exact ⟨⟨k + 1, by omega, by push_cast; rfl, HNX.out, bgoS HBL.out hb1⟩, by simp [intOf]; omega⟩
        · have HNE : Hid (decide ([la[k].who, la[k].cur, la[k].amt] = [lb[k].who, lb[k].cur, lb[k].amt]) = false) := by show _ = false; rw [decide_eq_false_iff_not]; exact fun h => hne (DT.ints_inj.1 h)
          have HNL : Hid (la ≠ lb) := fun e => hne (by simp [e])
          clear hne
          refine wp_region_bl 10 (by kernel_rfl) ?_
          refine wpAnyU_take (i := 0) (oi := { dst := some 17, op := Op.move (Operand.tmp 0), type := 60, pos := "keep.go:90", after := #[], guard := none }) (v := (.slice (some ⟨ba, offa, none⟩) la.length capa)) rfl (by kernel_rfl) (by kernel_rfl) (by kernel_rfl) (by kernel_rfl) (by kernel_rfl) (fun _ _ _ h => h) (BL.cls wr) ?_ ?_
          · refine Or.inl ⟨rfl, fun w hSw => ?_⟩
            exact EffR.same (by go_simp)
          try simp only [Act.put, List.setIfInBounds_toArray, List.set_cons_zero, List.set_cons_succ]
          refine wpAnyU_take (i := 1) (oi := { dst := some 18, op := Op.move (Operand.tmp 5), type := 3, pos := "keep.go:90", after := #[], guard := none }) (v := (.int .i64 (k : Int))) rfl (by kernel_rfl) (by kernel_rfl) (by kernel_rfl) (by kernel_rfl) (by kernel_rfl) (fun _ _ _ h => h) (BL.cls wr) ?_ ?_
          · refine Or.inl ⟨rfl, fun w hSw => ?_⟩
            exact EffR.same (by go_simp)
          try simp only [Act.put, List.setIfInBounds_toArray, List.set_cons_zero, List.set_cons_succ]
          refine wpAnyU_take (i := 2) (oi := { dst := some 19, op := Op.indexAddr 60 (Operand.tmp 17) (Operand.tmp 18), type := 0, pos := "keep.go:90", after := #[{ on := 0, ground := Ground.data }, { on := 1, ground := Ground.data }], guard := none }) (v := (.pointer (some ⟨ba, offa + k * 3, none⟩))) rfl (by kernel_rfl) (by kernel_rfl) (by kernel_rfl) (by kernel_rfl) (by kernel_rfl) (fun _ _ _ h => h) (BL.cls wr) ?_ ?_
          · refine Or.inl ⟨rfl, fun w hSw => ?_⟩
            exact EffR.same (by go_simp)
          try simp only [Act.put, List.setIfInBounds_toArray, List.set_cons_zero, List.set_cons_succ]
          refine wpAnyU_take (i := 3) (oi := { dst := some 20, op := Op.load 106 (Operand.tmp 19), type := 106, pos := "keep.go:90", after := #[{ on := 2, ground := Ground.data }], guard := none }) (v := (.agg #[.int .i64 la[k].who, .int .i64 la[k].cur, .int .i64 la[k].amt])) rfl (by kernel_rfl) (by kernel_rfl) (by kernel_rfl) (by kernel_rfl) (by kernel_rfl) (fun _ _ _ h => h) (BL.cls wr) ?_ ?_
          · refine Or.inl ⟨rfl, fun w hSw => ?_⟩
            exact eff_load_mid 106 (.tmp 19) rfl ba (offa + k * 3) rfl [.int .i64 la[k].who, .int .i64 la[k].cur, .int .i64 la[k].amt] _ (fun j v h => BL.cell hSw (HCA.out j v h)) Tryz.underlying106 rfl HSZ.out
          try simp only [Act.put, List.setIfInBounds_toArray, List.set_cons_zero, List.set_cons_succ]
          refine wpAnyU_take (i := 4) (oi := { dst := some 21, op := Op.move (Operand.tmp 1), type := 60, pos := "keep.go:90", after := #[], guard := none }) (v := (.slice (some ⟨bb, offb, none⟩) lb.length capb)) rfl (by kernel_rfl) (by kernel_rfl) (by kernel_rfl) (by kernel_rfl) (by kernel_rfl) (fun _ _ _ h => h) (BL.cls wr) ?_ ?_
          · refine Or.inl ⟨rfl, fun w hSw => ?_⟩
            exact EffR.same (by go_simp)
          try simp only [Act.put, List.setIfInBounds_toArray, List.set_cons_zero, List.set_cons_succ]
          refine wpAnyU_take (i := 5) (oi := { dst := some 22, op := Op.move (Operand.tmp 5), type := 3, pos := "keep.go:90", after := #[], guard := none }) (v := (.int .i64 (k : Int))) rfl (by kernel_rfl) (by kernel_rfl) (by kernel_rfl) (by kernel_rfl) (by kernel_rfl) (fun _ _ _ h => h) (BL.cls wr) ?_ ?_
          · refine Or.inl ⟨rfl, fun w hSw => ?_⟩
            exact EffR.same (by go_simp)
          try simp only [Act.put, List.setIfInBounds_toArray, List.set_cons_zero, List.set_cons_succ]
          refine wpAnyU_take (i := 6) (oi := { dst := some 23, op := Op.indexAddr 60 (Operand.tmp 21) (Operand.tmp 22), type := 0, pos := "keep.go:90", after := #[{ on := 4, ground := Ground.data }, { on := 5, ground := Ground.data }], guard := none }) (v := (.pointer (some ⟨bb, offb + k * 3, none⟩))) rfl (by kernel_rfl) (by kernel_rfl) (by kernel_rfl) (by kernel_rfl) (by kernel_rfl) (fun _ _ _ h => h) (BL.cls wr) ?_ ?_
          · refine Or.inl ⟨rfl, fun w hSw => ?_⟩
            exact EffR.same (by go_simp)
          try simp only [Act.put, List.setIfInBounds_toArray, List.set_cons_zero, List.set_cons_succ]
          refine wpAnyU_take (i := 7) (oi := { dst := some 24, op := Op.load 106 (Operand.tmp 23), type := 106, pos := "keep.go:90", after := #[{ on := 6, ground := Ground.data }], guard := none }) (v := (.agg #[.int .i64 lb[k].who, .int .i64 lb[k].cur, .int .i64 lb[k].amt])) rfl (by kernel_rfl) (by kernel_rfl) (by kernel_rfl) (by kernel_rfl) (by kernel_rfl) (fun _ _ _ h => h) (BL.cls wr) ?_ ?_
          · refine Or.inl ⟨rfl, fun w hSw => ?_⟩
            exact eff_load_mid 106 (.tmp 23) rfl bb (offb + k * 3) rfl [.int .i64 lb[k].who, .int .i64 lb[k].cur, .int .i64 lb[k].amt] _ (fun j v h => BL.cell hSw (HCB.out j v h)) Tryz.underlying106 rfl HSZ.out
          try simp only [Act.put, List.setIfInBounds_toArray, List.set_cons_zero, List.set_cons_succ]
          refine wpAnyU_take (i := 8) (oi := { dst := some 25, op := Op.call { callee := Callee.value (Operand.func 104), args := #[Operand.tmp 20, Operand.tmp 24], argTypes := #[106, 106] }, type := 4, pos := "keep.go:90", after := #[{ on := 3, ground := Ground.data }, { on := 7, ground := Ground.data }], guard := none }) (v := (.bool false)) rfl (by kernel_rfl) (by kernel_rfl) (by kernel_rfl) (by kernel_rfl) (by kernel_rfl) (fun _ _ _ h => h) (BL.cls wr) ?_ ?_
          · refine Or.inl ⟨rfl, fun w hSw => ?_⟩
            go_simp
            show Calls _ _ _ _ _
            refine (KDue_any _ la[k].who la[k].cur la[k].amt lb[k].who lb[k].cur lb[k].amt).mono ?_
            rintro e w1 ⟨rfl, hb⟩
            exact ⟨by rw [HNE.out], hb⟩
          try simp only [Act.put, List.setIfInBounds_toArray, List.set_cons_zero, List.set_cons_succ]
          refine wpAnyU_take (i := 9) (oi := { dst := some 26, op := Op.unOp UnOp.not 4 (Operand.tmp 25), type := 4, pos := "keep.go:90", after := #[{ on := 8, ground := Ground.data }], guard := none }) (v := (.bool true)) rfl (by kernel_rfl) (by kernel_rfl) (by kernel_rfl) (by kernel_rfl) (by kernel_rfl) (fun _ _ _ h => h) (BL.cls wr) ?_ ?_
          · refine Or.inl ⟨rfl, fun w hSw => ?_⟩
            exact EffR.same (by go_simp)
          try simp only [Act.put, List.setIfInBounds_toArray, List.set_cons_zero, List.set_cons_succ]
          refine wpAnyU_done (by kernel_rfl) (fun w1 hb1 => ?_) _
          go_wp2_with fail
          go_ret
          exact ⟨by rw [decide_eq_false HNL.out]; rfl, bgoS HBL.out hb1⟩
      · have HALL : Hid (la = lb) := by
          have := Heq.out
          rwa [List.take_of_length_le (by omega), List.take_of_length_le (by rw [← Hl.out]; omega)] at this
        go_wp2_with fail
        go_ret
        exact ⟨by rw [decide_eq_true HALL.out]; rfl, HBL.out⟩
  · have hl' : ((la.length : Int) != (lb.length : Int)) = true := by rw [bne_iff_ne]; omega
    have hne : la ≠ lb := fun e => hl (by rw [e])
    have HNE := Lib.hid hne
    clear hne
    go_enter Tryz.func53, Tryz.ntmps53
    go_wp2_with fail
    go_ret
    exact ⟨by rw [decide_eq_false HNE.out]; rfl, Below.refl _ _⟩

theorem FT.ints_inj {a b : FT} : a.ints = b.ints ↔ a = b := by
  cases a
  cases b
  simp [FT.ints]
set_option maxRecDepth 100000 in
set_option maxHeartbeats 3200000 in
theorem KFalls_any (w : World) (va vb : Value) (la lb : List FT) (ha : Rs FT.vs 8 w va la) (hb : Rs FT.vs 8 w vb lb) :
    Calls Tryz.prog 54 #[va, vb] w fun e w' => e = .returned (.bool (decide (la = lb))) ∧ Below w.heap.size w w' := by
  obtain ⟨aa, capa, rfl, hcapa, hma⟩ := ha.shape
  obtain ⟨ab, capb, rfl, hcapb, hmb⟩ := hb.shape
  by_cases hl : la.length = lb.length
  · have hl' : ((la.length : Int) != (lb.length : Int)) = false := by rw [hl]; simp
    have Hl := Lib.hid hl
    have HSZ : Hid ((Tryz.prog.info? 159).map (·.size) = some 8) := by show _ = _; kernel_rfl
    clear hl
    go_enter Tryz.func54, Tryz.ntmps54
    go_wp2_with fail
    go_loopw [5] (fun i wr => ∃ k : Nat, k ≤ la.length ∧ i = .int .i64 k ∧ Hid (la.take k = lb.take k) ∧ Below w.heap.size w wr) (fun i _ => la.length - (intOf i).toNat)
    case atStart => exact ⟨0, Nat.zero_le _, rfl, rfl, Below.refl _ _⟩
    case round =>
      obtain ⟨k, hk, rfl, Heq, hbel⟩ := hrel
      have HBL := Lib.hid hbel
      by_cases hlt : k < la.length
      · have hlt2 : k < lb.length := by rw [← Hl.out]; exact hlt
        obtain ⟨ba, offa, rfl, _, hca⟩ := (ha.mono hbel).at (by omega) (by decide)
        obtain ⟨bb, offb, rfl, _, hcb⟩ := (hb.mono hbel).at (by omega) (by decide)
        have HCA : Hid (∀ j v, [.int .i64 la[k].cur, .int .i64 la[k].loss, .int .i64 la[k].p0, .int .i64 la[k].p1, .int .i64 la[k].p2, .int .i64 la[k].p3, .int .i64 la[k].p4, .int .i64 la[k].rest][j]? = some v → wr.cell? ⟨ba, offa + k * 8 + j, none⟩ = some v) := fun j v h => hca k hlt j v h
        have HCB : Hid (∀ j v, [.int .i64 lb[k].cur, .int .i64 lb[k].loss, .int .i64 lb[k].p0, .int .i64 lb[k].p1, .int .i64 lb[k].p2, .int .i64 lb[k].p3, .int .i64 lb[k].p4, .int .i64 lb[k].rest][j]? = some v → wr.cell? ⟨bb, offb + k * 8 + j, none⟩ = some v) := fun j v h => hcb k hlt2 j v h
        have hk0 : (0 : Int) ≤ k := by omega
        have hk1 : (k : Int) < la.length := by omega
        have hk2 : (k : Int) < lb.length := by omega
        clear hca hcb hbel
        go_wp2_with fail
        by_cases hne : la[k] = lb[k]
        · have HNE : Hid (decide ([la[k].cur, la[k].loss, la[k].p0, la[k].p1, la[k].p2, la[k].p3, la[k].p4, la[k].rest] = [lb[k].cur, lb[k].loss, lb[k].p0, lb[k].p1, lb[k].p2, lb[k].p3, lb[k].p4, lb[k].rest]) = true) := by show _ = true; rw [decide_eq_true_iff]; exact FT.ints_inj.2 hne
          have HNX : Hid (la.take (k + 1) = lb.take (k + 1)) := by show _ = _; rw [List.take_succ_eq_append_getElem hlt, List.take_succ_eq_append_getElem hlt2, Heq.out, hne]
          clear hne
          refine wp_region_bl 10 (by kernel_rfl) ?_
          refine wpAnyU_take (i := 0) (oi := { dst := some 17, op := Op.move (Operand.tmp 0), type := 61, pos := "keep.go:255", after := #[], guard := none }) (v := (.slice (some ⟨ba, offa, none⟩) la.length capa)) rfl (by kernel_rfl) (by kernel_rfl) (by kernel_rfl) (by kernel_rfl) (by kernel_rfl) (fun _ _ _ h => h) (BL.cls wr) ?_ ?_
          · refine Or.inl ⟨rfl, fun w hSw => ?_⟩
            exact EffR.same (by go_simp)
          try simp only [Act.put, List.setIfInBounds_toArray, List.set_cons_zero, List.set_cons_succ]
          refine wpAnyU_take (i := 1) (oi := { dst := some 18, op := Op.move (Operand.tmp 5), type := 3, pos := "keep.go:255", after := #[], guard := none }) (v := (.int .i64 (k : Int))) rfl (by kernel_rfl) (by kernel_rfl) (by kernel_rfl) (by kernel_rfl) (by kernel_rfl) (fun _ _ _ h => h) (BL.cls wr) ?_ ?_
          · refine Or.inl ⟨rfl, fun w hSw => ?_⟩
            exact EffR.same (by go_simp)
          try simp only [Act.put, List.setIfInBounds_toArray, List.set_cons_zero, List.set_cons_succ]
          refine wpAnyU_take (i := 2) (oi := { dst := some 19, op := Op.indexAddr 61 (Operand.tmp 17) (Operand.tmp 18), type := 0, pos := "keep.go:255", after := #[{ on := 0, ground := Ground.data }, { on := 1, ground := Ground.data }], guard := none }) (v := (.pointer (some ⟨ba, offa + k * 8, none⟩))) rfl (by kernel_rfl) (by kernel_rfl) (by kernel_rfl) (by kernel_rfl) (by kernel_rfl) (fun _ _ _ h => h) (BL.cls wr) ?_ ?_
          · refine Or.inl ⟨rfl, fun w hSw => ?_⟩
            exact EffR.same (by go_simp)
          try simp only [Act.put, List.setIfInBounds_toArray, List.set_cons_zero, List.set_cons_succ]
          refine wpAnyU_take (i := 3) (oi := { dst := some 20, op := Op.load 159 (Operand.tmp 19), type := 159, pos := "keep.go:255", after := #[{ on := 2, ground := Ground.data }], guard := none }) (v := (.agg #[.int .i64 la[k].cur, .int .i64 la[k].loss, .int .i64 la[k].p0, .int .i64 la[k].p1, .int .i64 la[k].p2, .int .i64 la[k].p3, .int .i64 la[k].p4, .int .i64 la[k].rest])) rfl (by kernel_rfl) (by kernel_rfl) (by kernel_rfl) (by kernel_rfl) (by kernel_rfl) (fun _ _ _ h => h) (BL.cls wr) ?_ ?_
          · refine Or.inl ⟨rfl, fun w hSw => ?_⟩
            exact eff_load_mid 159 (.tmp 19) rfl ba (offa + k * 8) rfl [.int .i64 la[k].cur, .int .i64 la[k].loss, .int .i64 la[k].p0, .int .i64 la[k].p1, .int .i64 la[k].p2, .int .i64 la[k].p3, .int .i64 la[k].p4, .int .i64 la[k].rest] _ (fun j v h => BL.cell hSw (HCA.out j v h)) Tryz.underlying159 rfl HSZ.out
          try simp only [Act.put, List.setIfInBounds_toArray, List.set_cons_zero, List.set_cons_succ]
          refine wpAnyU_take (i := 4) (oi := { dst := some 21, op := Op.move (Operand.tmp 1), type := 61, pos := "keep.go:255", after := #[], guard := none }) (v := (.slice (some ⟨bb, offb, none⟩) lb.length capb)) rfl (by kernel_rfl) (by kernel_rfl) (by kernel_rfl) (by kernel_rfl) (by kernel_rfl) (fun _ _ _ h => h) (BL.cls wr) ?_ ?_
          · refine Or.inl ⟨rfl, fun w hSw => ?_⟩
            exact EffR.same (by go_simp)
          try simp only [Act.put, List.setIfInBounds_toArray, List.set_cons_zero, List.set_cons_succ]
          refine wpAnyU_take (i := 5) (oi := { dst := some 22, op := Op.move (Operand.tmp 5), type := 3, pos := "keep.go:255", after := #[], guard := none }) (v := (.int .i64 (k : Int))) rfl (by kernel_rfl) (by kernel_rfl) (by kernel_rfl) (by kernel_rfl) (by kernel_rfl) (fun _ _ _ h => h) (BL.cls wr) ?_ ?_
          · refine Or.inl ⟨rfl, fun w hSw => ?_⟩
            exact EffR.same (by go_simp)
          try simp only [Act.put, List.setIfInBounds_toArray, List.set_cons_zero, List.set_cons_succ]
          refine wpAnyU_take (i := 6) (oi := { dst := some 23, op := Op.indexAddr 61 (Operand.tmp 21) (Operand.tmp 22), type := 0, pos := "keep.go:255", after := #[{ on := 4, ground := Ground.data }, { on := 5, ground := Ground.data }], guard := none }) (v := (.pointer (some ⟨bb, offb + k * 8, none⟩))) rfl (by kernel_rfl) (by kernel_rfl) (by kernel_rfl) (by kernel_rfl) (by kernel_rfl) (fun _ _ _ h => h) (BL.cls wr) ?_ ?_
          · refine Or.inl ⟨rfl, fun w hSw => ?_⟩
            exact EffR.same (by go_simp)
          try simp only [Act.put, List.setIfInBounds_toArray, List.set_cons_zero, List.set_cons_succ]
          refine wpAnyU_take (i := 7) (oi := { dst := some 24, op := Op.load 159 (Operand.tmp 23), type := 159, pos := "keep.go:255", after := #[{ on := 6, ground := Ground.data }], guard := none }) (v := (.agg #[.int .i64 lb[k].cur, .int .i64 lb[k].loss, .int .i64 lb[k].p0, .int .i64 lb[k].p1, .int .i64 lb[k].p2, .int .i64 lb[k].p3, .int .i64 lb[k].p4, .int .i64 lb[k].rest])) rfl (by kernel_rfl) (by kernel_rfl) (by kernel_rfl) (by kernel_rfl) (by kernel_rfl) (fun _ _ _ h => h) (BL.cls wr) ?_ ?_
          · refine Or.inl ⟨rfl, fun w hSw => ?_⟩
            exact eff_load_mid 159 (.tmp 23) rfl bb (offb + k * 8) rfl [.int .i64 lb[k].cur, .int .i64 lb[k].loss, .int .i64 lb[k].p0, .int .i64 lb[k].p1, .int .i64 lb[k].p2, .int .i64 lb[k].p3, .int .i64 lb[k].p4, .int .i64 lb[k].rest] _ (fun j v h => BL.cell hSw (HCB.out j v h)) Tryz.underlying159 rfl HSZ.out
          try simp only [Act.put, List.setIfInBounds_toArray, List.set_cons_zero, List.set_cons_succ]
          refine wpAnyU_take (i := 8) (oi := { dst := some 25, op := Op.call { callee := Callee.value (Operand.func 116), args := #[Operand.tmp 20, Operand.tmp 24], argTypes := #[159, 159] }, type := 4, pos := "keep.go:255", after := #[{ on := 3, ground := Ground.data }, { on := 7, ground := Ground.data }], guard := none }) (v := (.bool true)) rfl (by kernel_rfl) (by kernel_rfl) (by kernel_rfl) (by kernel_rfl) (by kernel_rfl) (fun _ _ _ h => h) (BL.cls wr) ?_ ?_
          · refine Or.inl ⟨rfl, fun w hSw => ?_⟩
            go_simp
            show Calls _ _ _ _ _
            refine (KFall_any _ la[k].cur la[k].loss la[k].p0 la[k].p1 la[k].p2 la[k].p3 la[k].p4 la[k].rest lb[k].cur lb[k].loss lb[k].p0 lb[k].p1 lb[k].p2 lb[k].p3 lb[k].p4 lb[k].rest).mono ?_
            rintro e w1 ⟨rfl, hb⟩
            exact ⟨by rw [HNE.out], hb⟩
          try simp only [Act.put, List.setIfInBounds_toArray, List.set_cons_zero, List.set_cons_succ]
          refine wpAnyU_take (i := 9) (oi := { dst := some 26, op := Op.unOp UnOp.not 4 (Operand.tmp 25), type := 4, pos := "keep.go:255", after := #[{ on := 8, ground := Ground.data }], guard := none }) (v := (.bool false)) rfl (by kernel_rfl) (by kernel_rfl) (by kernel_rfl) (by kernel_rfl) (by kernel_rfl) (fun _ _ _ h => h) (BL.cls wr) ?_ ?_
          · refine Or.inl ⟨rfl, fun w hSw => ?_⟩
            exact EffR.same (by go_simp)
          try simp only [Act.put, List.setIfInBounds_toArray, List.set_cons_zero, List.set_cons_succ]
          refine wpAnyU_done (by kernel_rfl) (fun w1 hb1 => ?_) _
          go_wp2_with fail
          exact ⟨⟨k + 1, by omega, by push_cast; rfl, HNX.out, bgoS HBL.out hb1⟩, by simp [intOf]; omega⟩
        · have HNE : Hid (decide ([la[k].cur, la[k].loss, la[k].p0, la[k].p1, la[k].p2, la[k].p3, la[k].p4, la[k].rest] = [lb[k].cur, lb[k].loss, lb[k].p0, lb[k].p1, lb[k].p2, lb[k].p3, lb[k].p4, lb[k].rest]) = false) := by show _ = false; rw [decide_eq_false_iff_not]; exact fun h => hne (FT.ints_inj.1 h)
          have HNL : Hid (la ≠ lb) := fun e => hne (by simp [e])
          clear hne
          refine wp_region_bl 10 (by kernel_rfl) ?_
          refine wpAnyU_take (i := 0) (oi := { dst := some 17, op := Op.move (Operand.tmp 0), type := 61, pos := "keep.go:255", after := #[], guard := none }) (v := (.slice (some ⟨ba, offa, none⟩) la.length capa)) rfl (by kernel_rfl) (by kernel_rfl) (by kernel_rfl) (by kernel_rfl) (by kernel_rfl) (fun _ _ _ h => h) (BL.cls wr) ?_ ?_
          · refine Or.inl ⟨rfl, fun w hSw => ?_⟩
            exact EffR.same (by go_simp)
          try simp only [Act.put, List.setIfInBounds_toArray, List.set_cons_zero, List.set_cons_succ]
          refine wpAnyU_take (i := 1) (oi := { dst := some 18, op := Op.move (Operand.tmp 5), type := 3, pos := "keep.go:255", after := #[], guard := none }) (v := (.int .i64 (k : Int))) rfl (by kernel_rfl) (by kernel_rfl) (by kernel_rfl) (by kernel_rfl) (by kernel_rfl) (fun _ _ _ h => h) (BL.cls wr) ?_ ?_
          · refine Or.inl ⟨rfl, fun w hSw => ?_⟩
            exact EffR.same (by go_simp)
          try simp only [Act.put, List.setIfInBounds_toArray, List.set_cons_zero, List.set_cons_succ]
          refine wpAnyU_take (i := 2) (oi := { dst := some 19, op := Op.indexAddr 61 (Operand.tmp 17) (Operand.tmp 18), type := 0, pos := "keep.go:255", after := #[{ on := 0, ground := Ground.data }, { on := 1, ground := Ground.data }], guard := none }) (v := (.pointer (some ⟨ba, offa + k * 8, none⟩))) rfl (by kernel_rfl) (by kernel_rfl) (by kernel_rfl) (by kernel_rfl) (by kernel_rfl) (fun _ _ _ h => h) (BL.cls wr) ?_ ?_
          · refine Or.inl ⟨rfl, fun w hSw => ?_⟩
            exact EffR.same (by go_simp)
          try simp only [Act.put, List.setIfInBounds_toArray, List.set_cons_zero, List.set_cons_succ]
          refine wpAnyU_take (i := 3) (oi := { dst := some 20, op := Op.load 159 (Operand.tmp 19), type := 159, pos := "keep.go:255", after := #[{ on := 2, ground := Ground.data }], guard := none }) (v := (.agg #[.int .i64 la[k].cur, .int .i64 la[k].loss, .int .i64 la[k].p0, .int .i64 la[k].p1, .int .i64 la[k].p2, .int .i64 la[k].p3, .int .i64 la[k].p4, .int .i64 la[k].rest])) rfl (by kernel_rfl) (by kernel_rfl) (by kernel_rfl) (by kernel_rfl) (by kernel_rfl) (fun _ _ _ h => h) (BL.cls wr) ?_ ?_
          · refine Or.inl ⟨rfl, fun w hSw => ?_⟩
            exact eff_load_mid 159 (.tmp 19) rfl ba (offa + k * 8) rfl [.int .i64 la[k].cur, .int .i64 la[k].loss, .int .i64 la[k].p0, .int .i64 la[k].p1, .int .i64 la[k].p2, .int .i64 la[k].p3, .int .i64 la[k].p4, .int .i64 la[k].rest] _ (fun j v h => BL.cell hSw (HCA.out j v h)) Tryz.underlying159 rfl HSZ.out
          try simp only [Act.put, List.setIfInBounds_toArray, List.set_cons_zero, List.set_cons_succ]
          refine wpAnyU_take (i := 4) (oi := { dst := some 21, op := Op.move (Operand.tmp 1), type := 61, pos := "keep.go:255", after := #[], guard := none }) (v := (.slice (some ⟨bb, offb, none⟩) lb.length capb)) rfl (by kernel_rfl) (by kernel_rfl) (by kernel_rfl) (by kernel_rfl) (by kernel_rfl) (fun _ _ _ h => h) (BL.cls wr) ?_ ?_
          · refine Or.inl ⟨rfl, fun w hSw => ?_⟩
            exact EffR.same (by go_simp)
          try simp only [Act.put, List.setIfInBounds_toArray, List.set_cons_zero, List.set_cons_succ]
          refine wpAnyU_take (i := 5) (oi := { dst := some 22, op := Op.move (Operand.tmp 5), type := 3, pos := "keep.go:255", after := #[], guard := none }) (v := (.int .i64 (k : Int))) rfl (by kernel_rfl) (by kernel_rfl) (by kernel_rfl) (by kernel_rfl) (by kernel_rfl) (fun _ _ _ h => h) (BL.cls wr) ?_ ?_
          · refine Or.inl ⟨rfl, fun w hSw => ?_⟩
            exact EffR.same (by go_simp)
          try simp only [Act.put, List.setIfInBounds_toArray, List.set_cons_zero, List.set_cons_succ]
          refine wpAnyU_take (i := 6) (oi := { dst := some 23, op := Op.indexAddr 61 (Operand.tmp 21) (Operand.tmp 22), type := 0, pos := "keep.go:255", after := #[{ on := 4, ground := Ground.data }, { on := 5, ground := Ground.data }], guard := none }) (v := (.pointer (some ⟨bb, offb + k * 8, none⟩))) rfl (by kernel_rfl) (by kernel_rfl) (by kernel_rfl) (by kernel_rfl) (by kernel_rfl) (fun _ _ _ h => h) (BL.cls wr) ?_ ?_
          · refine Or.inl ⟨rfl, fun w hSw => ?_⟩
            exact EffR.same (by go_simp)
          try simp only [Act.put, List.setIfInBounds_toArray, List.set_cons_zero, List.set_cons_succ]
          refine wpAnyU_take (i := 7) (oi := { dst := some 24, op := Op.load 159 (Operand.tmp 23), type := 159, pos := "keep.go:255", after := #[{ on := 6, ground := Ground.data }], guard := none }) (v := (.agg #[.int .i64 lb[k].cur, .int .i64 lb[k].loss, .int .i64 lb[k].p0, .int .i64 lb[k].p1, .int .i64 lb[k].p2, .int .i64 lb[k].p3, .int .i64 lb[k].p4, .int .i64 lb[k].rest])) rfl (by kernel_rfl) (by kernel_rfl) (by kernel_rfl) (by kernel_rfl) (by kernel_rfl) (fun _ _ _ h => h) (BL.cls wr) ?_ ?_
          · refine Or.inl ⟨rfl, fun w hSw => ?_⟩
            exact eff_load_mid 159 (.tmp 23) rfl bb (offb + k * 8) rfl [.int .i64 lb[k].cur, .int .i64 lb[k].loss, .int .i64 lb[k].p0, .int .i64 lb[k].p1, .int .i64 lb[k].p2, .int .i64 lb[k].p3, .int .i64 lb[k].p4, .int .i64 lb[k].rest] _ (fun j v h => BL.cell hSw (HCB.out j v h)) Tryz.underlying159 rfl HSZ.out
          try simp only [Act.put, List.setIfInBounds_toArray, List.set_cons_zero, List.set_cons_succ]
          refine wpAnyU_take (i := 8) (oi := { dst := some 25, op := Op.call { callee := Callee.value (Operand.func 116), args := #[Operand.tmp 20, Operand.tmp 24], argTypes := #[159, 159] }, type := 4, pos := "keep.go:255", after := #[{ on := 3, ground := Ground.data }, { on := 7, ground := Ground.data }], guard := none }) (v := (.bool false)) rfl (by kernel_rfl) (by kernel_rfl) (by kernel_rfl) (by kernel_rfl) (by kernel_rfl) (fun _ _ _ h => h) (BL.cls wr) ?_ ?_
          · refine Or.inl ⟨rfl, fun w hSw => ?_⟩
            go_simp
            show Calls _ _ _ _ _
            refine (KFall_any _ la[k].cur la[k].loss la[k].p0 la[k].p1 la[k].p2 la[k].p3 la[k].p4 la[k].rest lb[k].cur lb[k].loss lb[k].p0 lb[k].p1 lb[k].p2 lb[k].p3 lb[k].p4 lb[k].rest).mono ?_
            rintro e w1 ⟨rfl, hb⟩
            exact ⟨by rw [HNE.out], hb⟩
          try simp only [Act.put, List.setIfInBounds_toArray, List.set_cons_zero, List.set_cons_succ]
          refine wpAnyU_take (i := 9) (oi := { dst := some 26, op := Op.unOp UnOp.not 4 (Operand.tmp 25), type := 4, pos := "keep.go:255", after := #[{ on := 8, ground := Ground.data }], guard := none }) (v := (.bool true)) rfl (by kernel_rfl) (by kernel_rfl) (by kernel_rfl) (by kernel_rfl) (by kernel_rfl) (fun _ _ _ h => h) (BL.cls wr) ?_ ?_
          · refine Or.inl ⟨rfl, fun w hSw => ?_⟩
            exact EffR.same (by go_simp)
          try simp only [Act.put, List.setIfInBounds_toArray, List.set_cons_zero, List.set_cons_succ]
          refine wpAnyU_done (by kernel_rfl) (fun w1 hb1 => ?_) _
          go_wp2_with fail
          go_ret
          exact ⟨by rw [decide_eq_false HNL.out]; rfl, bgoS HBL.out hb1⟩
      · have HALL : Hid (la = lb) := by
          have := Heq.out
          rwa [List.take_of_length_le (by omega), List.take_of_length_le (by rw [← Hl.out]; omega)] at this
        go_wp2_with fail
        go_ret
        exact ⟨by rw [decide_eq_true HALL.out]; rfl, HBL.out⟩
  · have hl' : ((la.length : Int) != (lb.length : Int)) = true := by rw [bne_iff_ne]; omega
    have hne : la ≠ lb := fun e => hl (by rw [e])
    have HNE := Lib.hid hne
    clear hne
    go_enter Tryz.func54, Tryz.ntmps54
    go_wp2_with fail
    go_ret
    exact ⟨by rw [decide_eq_false HNE.out]; rfl, Below.refl _ _⟩
end Cam
/- cambistkeep.Reply; cambistlaw24.long. -/
namespace Cam
open Go Go.RowKit Go.Proofs

set_option maxRecDepth 100000 in
set_option maxHeartbeats 3200000 in
theorem KReply_any (w : World) (xc xn xa yc yn ya : Int) (vd vf ud uf : Value) (D1 D2 : List DT) (F1 F2 : List FT) (hd1 : Rs DT.vs 3 w vd D1) (hf1 : Rs FT.vs 8 w vf F1) (hd2 : Rs DT.vs 3 w ud D2) (hf2 : Rs FT.vs 8 w uf F2) :
    Calls Tryz.prog 22 #[.agg #[.int .i64 xc, .int .i64 xn, .int .i64 xa, vd, vf], .agg #[.int .i64 yc, .int .i64 yn, .int .i64 ya, ud, uf]] w fun e w' => e = .returned (.bool (decide (xc = yc ∧ xn = yn ∧ xa = ya ∧ D1 = D2 ∧ F1 = F2))) ∧ Below w.heap.size w w' := by
  obtain ⟨a1, c1, rfl, hc1, hm1⟩ := hd1.shape
  obtain ⟨a2, c2, rfl, hc2, hm2⟩ := hf1.shape
  obtain ⟨a3, c3, rfl, hc3, hm3⟩ := hd2.shape
  obtain ⟨a4, c4, rfl, hc4, hm4⟩ := hf2.shape
  obtain ⟨d, hd⟩ : ∃ d : Bool, d = decide (xc = yc ∧ xn = yn ∧ xa = ya ∧ D1 = D2 ∧ F1 = F2) := ⟨_, rfl⟩
  rw [← hd]
  have hb2 := two_allocs w (.cells #[.int .i64 xc, .int .i64 xn, .int .i64 xa, .slice a1 D1.length c1, .slice a2 F1.length c2] 63) (.cells #[.int .i64 yc, .int .i64 yn, .int .i64 ya, .slice a3 D2.length c3, .slice a4 F2.length c4] 63)
  have HD := Lib.hid hd
  have HD1 := Lib.hid (hd1.mono hb2)
  have HF1 := Lib.hid (hf1.mono hb2)
  have HD2 := Lib.hid (hd2.mono hb2)
  have HF2 := Lib.hid (hf2.mono hb2)
  have HB2 := Lib.hid hb2
  clear hd hb2 hd1 hf1 hd2 hf2 hc1 hm1 hc2 hm2 hc3 hm3 hc4 hm4
  by_cases h0 : xc = yc
  case neg =>
    have e0 : (xc == yc) = false := by simp [h0]
    have HF : Hid (d = false) := by show _ = _; rw [HD.out]; simp [h0]
    clear h0
    go_enter Tryz.func22, Tryz.ntmps22
    go_wp2_with fail
    go_ret
    exact ⟨by rw [HF.out]; rfl, HB2.out⟩
  by_cases h1 : xn = yn
  case neg =>
    subst h0
    have e1 : (xn == yn) = false := by simp [h1]
    have HF : Hid (d = false) := by show _ = _; rw [HD.out]; simp [h1]
    clear h1
    go_enter Tryz.func22, Tryz.ntmps22
    go_wp2_with fail
    go_ret
    exact ⟨by rw [HF.out]; rfl, HB2.out⟩
  by_cases h2 : xa = ya
  case neg =>
    subst h0 h1
    have e2 : (xa == ya) = false := by simp [h2]
    have HF : Hid (d = false) := by show _ = _; rw [HD.out]; simp [h2]
    clear h2
    go_enter Tryz.func22, Tryz.ntmps22
    go_wp2_with fail
    go_ret
    exact ⟨by rw [HF.out]; rfl, HB2.out⟩
  subst h0 h1 h2
  have kd := KDues_any _ _ _ D1 D2 HD1.out HD2.out
  by_cases h3 : D1 = D2
  · rw [decide_eq_true h3] at kd
    have HDF : Hid (d = decide (F1 = F2)) := by show _ = _; rw [HD.out]; simp [h3]
    clear h3
    go_enter Tryz.func22, Tryz.ntmps22
    go_wp2_with fail
    refine kd.mono ?_
    clear kd
    rintro e w2 ⟨rfl, hb3⟩
    have kf := KFalls_any w2 _ _ F1 F2 (HF1.out.mono hb3) (HF2.out.mono hb3)
    rw [← HDF.out] at kf
    have HB3 := Lib.hid (bgo HB2.out hb3 HB2.out.size)
    have q4 : w2.cell? ⟨w.heap.size, 4, none⟩ = some (.slice a2 F1.length c2) := (HT.below (HT.below (HT.new (w := w) (t := 63) (C := [.int .i64 xc, .int .i64 xn, .int .i64 xa, .slice a1 D1.length c1, .slice a2 F1.length c2])) ((Below.refl _ _).alloc (Nat.le_refl _) _)) hb3).cell (j := 4) rfl
    have q5 : w2.cell? ⟨w.heap.size + 1, 4, none⟩ = some (.slice a4 F2.length c4) := by
      have := HT.new (w := w.alloc (.cells #[.int .i64 xc, .int .i64 xn, .int .i64 xa, .slice a1 D1.length c1, .slice a2 F1.length c2] 63)) (t := 63) (C := [.int .i64 xc, .int .i64 xn, .int .i64 xa, .slice a3 D2.length c3, .slice a4 F2.length c4])
      have h := (HT.below this hb3).cell (j := 4) rfl
      rwa [show (w.alloc (.cells #[.int .i64 xc, .int .i64 xn, .int .i64 xa, .slice a1 D1.length c1, .slice a2 F1.length c2] 63)).heap.size = w.heap.size + 1 by simp] at h
    clear hb3
    go_wp2_with fail
    refine kf.mono ?_
    clear kf
    rintro e w3 ⟨rfl, hb4⟩
    have HB4 := Lib.hid (bgo HB3.out hb4 HB3.out.size)
    clear hb4
    go_wp2_with fail
    go_ret
    exact ⟨rfl, HB4.out⟩
  · rw [decide_eq_false h3] at kd
    have HF : Hid (d = false) := by show _ = _; rw [HD.out]; simp [h3]
    clear h3
    go_enter Tryz.func22, Tryz.ntmps22
    go_wp2_with fail
    refine kd.mono ?_
    clear kd
    rintro e w2 ⟨rfl, hb3⟩
    have HB3 := Lib.hid (bgo HB2.out hb3 HB2.out.size)
    clear hb3
    go_wp2_with fail
    go_ret
    exact ⟨by rw [HF.out]; rfl, HB3.out⟩

end Cam
/- what is written is told apart (plain); cambistlaw24.long. -/
namespace Cam
open Go Go.RowKit Go.Proofs

def okI (l : List Int) : Prop := ∀ n ∈ l, -9223372036854775808 ≤ n ∧ n ≤ 9223372036854775807
theorem encI_cut {a b : Int} {r s : List UInt8} (ha : -9223372036854775808 ≤ a ∧ a ≤ 9223372036854775807) (hb : -9223372036854775808 ≤ b ∧ b ≤ 9223372036854775807) (h : encI a ++ r = encI b ++ s) : a = b ∧ r = s := by
  have h1 := rI_enc a r ha
  have h2 := rI_enc b s hb
  rw [h, h2] at h1
  simp only [Prod.mk.injEq, and_true] at h1
  exact ⟨h1.1.symm, h1.2.symm⟩
theorem encIs_cut : ∀ {xs ys : List Int} {r s : List UInt8}, okI xs → okI ys → xs.length = ys.length → encIs xs ++ r = encIs ys ++ s → xs = ys ∧ r = s
  | [], [], r, s, _, _, _, h => ⟨rfl, by simpa [encIs] using h⟩
  | [], _ :: _, _, _, _, _, hl, _ => by simp at hl
  | _ :: _, [], _, _, _, _, hl, _ => by simp at hl
  | x :: xs, y :: ys, r, s, hx, hy, hl, h => by
    have e : ∀ (n : Int) (l : List Int) (t : List UInt8), encIs (n :: l) ++ t = encI n ++ (encIs l ++ t) := fun n l t => by simp [encIs]
    rw [e, e] at h
    obtain ⟨rfl, h2⟩ := encI_cut (hx x (by simp)) (hy y (by simp)) h
    obtain ⟨rfl, h3⟩ := encIs_cut (fun n hn => hx n (by simp [hn])) (fun n hn => hy n (by simp [hn])) (by simpa using hl) h2
    exact ⟨rfl, h3⟩
theorem encIs_inj {xs ys : List Int} (hx : okI xs) (hy : okI ys) (hl : xs.length = ys.length) : encIs xs = encIs ys ↔ xs = ys := by
  constructor
  · intro h
    exact (encIs_cut (r := []) (s := []) hx hy hl (by rw [h])).1
  · rintro rfl
    rfl
theorem encR_cut {α : Type} {f : α → List Int} (hi : ∀ a b, f a = f b → a = b) (hf : ∀ a b, (f a).length = (f b).length) : ∀ {L M : List α} {r s : List UInt8}, (∀ x ∈ L, okI (f x)) → (∀ x ∈ M, okI (f x)) → L.length = M.length → encR f L ++ r = encR f M ++ s → L = M ∧ r = s
  | [], [], r, s, _, _, _, h => ⟨rfl, by simpa [encR] using h⟩
  | [], _ :: _, _, _, _, _, hl, _ => by simp at hl
  | _ :: _, [], _, _, _, _, hl, _ => by simp at hl
  | x :: xs, y :: ys, r, s, hx, hy, hl, h => by
    have e : ∀ (n : α) (l : List α) (t : List UInt8), encR f (n :: l) ++ t = encIs (f n) ++ (encR f l ++ t) := fun n l t => by simp [encR]
    rw [e, e] at h
    obtain ⟨h1, h2⟩ := encIs_cut (hx x (by simp)) (hy y (by simp)) (hf x y) h
    obtain ⟨rfl, h3⟩ := encR_cut hi hf (fun n hn => hx n (by simp [hn])) (fun n hn => hy n (by simp [hn])) (by simpa using hl) h2
    exact ⟨by rw [hi x y h1], h3⟩
theorem lw_cut {α : Type} {f : α → List Int} (hi : ∀ a b, f a = f b → a = b) (hf : ∀ a b, (f a).length = (f b).length) {L M : List α} {r s : List UInt8} (hL : ∀ x ∈ L, okI (f x)) (hM : ∀ x ∈ M, okI (f x)) (h1 : L.length ≤ 1024) (h2 : M.length ≤ 1024) (h : lw f L ++ r = lw f M ++ s) : L = M ∧ r = s := by
  unfold lw at h
  rw [if_neg (by omega), if_neg (by omega), List.append_assoc, List.append_assoc] at h
  have hw : ∀ {n : Nat}, n ≤ 1024 → okI [(n : Int)] := fun hn m hm => by rw [List.mem_singleton] at hm; omega
  obtain ⟨h3, h4⟩ := encIs_cut (hw h1) (hw h2) rfl h
  simp only [List.cons.injEq, and_true] at h3
  exact encR_cut hi hf hL hM (by omega) h4
theorem encRep_inj {xc xn xa yc yn ya : Int} {D1 D2 : List DT} {F1 F2 : List FT} (hx : okI [xc, xn, xa]) (hy : okI [yc, yn, ya]) (hd1 : ∀ x ∈ D1, okI x.ints) (hd2 : ∀ x ∈ D2, okI x.ints) (hf1 : ∀ x ∈ F1, okI x.ints) (hf2 : ∀ x ∈ F2, okI x.ints)
    (h1 : repW D1 F1 = false) (h2 : repW D2 F2 = false) : encRep xc xn xa D1 F1 = encRep yc yn ya D2 F2 ↔ xc = yc ∧ xn = yn ∧ xa = ya ∧ D1 = D2 ∧ F1 = F2 := by
  unfold repW at h1 h2
  simp only [Bool.or_eq_false_iff, decide_eq_false_iff_not] at h1 h2
  constructor
  · intro h
    unfold encRep at h
    obtain ⟨h3, h4⟩ := encIs_cut hx hy rfl h
    obtain ⟨rfl, h5⟩ := lw_cut (fun a b => DT.ints_inj.1) (fun _ _ => rfl) hd1 hd2 (by omega) (by omega) h4
    obtain ⟨rfl, _⟩ := lw_cut (f := FT.ints) (r := []) (s := []) (fun a b => FT.ints_inj.1) (fun _ _ => rfl) hf1 hf2 (by omega) (by omega) (by rw [h5])
    simp only [List.cons.injEq, and_true] at h3
    exact ⟨h3.1, h3.2.1, h3.2.2, rfl, rfl⟩
  · rintro ⟨rfl, rfl, rfl, rfl, rfl⟩
    rfl

/-- long? -/
def repL (D : List DT) (F : List FT) : Bool := decide (1200 < D.length) || decide (1200 < F.length)
set_option maxRecDepth 100000 in
theorem long_any (w : World) (xc xn xa : Int) (vd vf : Value) (D : List DT) (F : List FT) (hd : Rs DT.vs 3 w vd D) (hf : Rs FT.vs 8 w vf F) :
    Calls Tryz.prog 16 #[.agg #[.int .i64 xc, .int .i64 xn, .int .i64 xa, vd, vf]] w fun e w' => e = .returned (.bool (repL D F)) ∧ Below w.heap.size w w' := by
  obtain ⟨a1, c1, rfl, hc1, hm1⟩ := hd.shape
  obtain ⟨a2, c2, rfl, hc2, hm2⟩ := hf.shape
  have HB := Lib.hid ((Below.refl w.heap.size w).alloc (Nat.le_refl _) (.cells #[.int .i64 xc, .int .i64 xn, .int .i64 xa, .slice a1 D.length c1, .slice a2 F.length c2] 63))
  obtain ⟨d, hd0⟩ : ∃ d, d = repL D F := ⟨_, rfl⟩
  rw [← hd0]
  have HD := Lib.hid hd0
  clear hd0 hd hf
  by_cases h1 : 1200 < D.length
  · have HT : Hid (d = true) := by show _ = _; rw [HD.out]; simp [repL, h1]
    go_enter Tryz.func16, Tryz.ntmps16
    go_wp2_with fail
    go_ret
    exact ⟨by rw [HT.out]; rfl, HB.out⟩
  · by_cases h2 : 1200 < F.length
    · have HT : Hid (d = true) := by show _ = _; rw [HD.out]; simp [repL, h2]
      go_enter Tryz.func16, Tryz.ntmps16
      go_wp2_with fail
      go_ret
      exact ⟨by rw [HT.out]; simp; omega, HB.out⟩
    · have HT : Hid (d = false) := by show _ = _; rw [HD.out]; simp [repL, h1, h2]
      go_enter Tryz.func16, Tryz.ntmps16
      go_wp2_with fail
      go_ret
      exact ⟨by rw [HT.out]; simp; omega, HB.out⟩

end Cam
