import Derived.Test.YtgeclnjkkjmbaaaGreatKeep
import Derived.Test.YtgeclnjkkjmbaaaGreatWrNa
/- cambistkeep.Cmd. -/
namespace Cam
open Go Go.RowKit Go.Proofs

set_option maxRecDepth 100000 in
set_option maxHeartbeats 3200000 in
theorem KCmd_any (w : World) (x0 x1 x2 x3 x4 x5 x6 x7 x8 x9 x10 x11 x12 x13 x14 x15 x16 y0 y1 y2 y3 y4 y5 y6 y7 y8 y9 y10 y11 y12 y13 y14 y15 y16 : Int) :
    Calls Tryz.prog 19 #[.agg #[.int .i64 x0, .int .i64 x1, .int .i64 x2, .int .i64 x3, .int .i64 x4, .int .i64 x5, .int .i64 x6, .int .i64 x7, .int .i64 x8, .int .i64 x9, .int .i64 x10, .int .i64 x11, .int .i64 x12, .int .i64 x13, .int .i64 x14, .int .i64 x15, .int .i64 x16], .agg #[.int .i64 y0, .int .i64 y1, .int .i64 y2, .int .i64 y3, .int .i64 y4, .int .i64 y5, .int .i64 y6, .int .i64 y7, .int .i64 y8, .int .i64 y9, .int .i64 y10, .int .i64 y11, .int .i64 y12, .int .i64 y13, .int .i64 y14, .int .i64 y15, .int .i64 y16]] w fun e w' => e = .returned (.bool (decide ([x0, x1, x2, x3, x4, x5, x6, x7, x8, x9, x10, x11, x12, x13, x14, x15, x16] = [y0, y1, y2, y3, y4, y5, y6, y7, y8, y9, y10, y11, y12, y13, y14, y15, y16]))) ∧ Below w.heap.size w w' := by
  have hb1 : Below w.heap.size w (w.alloc (.cells #[.int .i64 x0, .int .i64 x1, .int .i64 x2, .int .i64 x3, .int .i64 x4, .int .i64 x5, .int .i64 x6, .int .i64 x7, .int .i64 x8, .int .i64 x9, .int .i64 x10, .int .i64 x11, .int .i64 x12, .int .i64 x13, .int .i64 x14, .int .i64 x15, .int .i64 x16] 59)) := (Below.refl _ _).alloc (Nat.le_refl _) _
  have hb2 : Below w.heap.size w ((w.alloc (.cells #[.int .i64 x0, .int .i64 x1, .int .i64 x2, .int .i64 x3, .int .i64 x4, .int .i64 x5, .int .i64 x6, .int .i64 x7, .int .i64 x8, .int .i64 x9, .int .i64 x10, .int .i64 x11, .int .i64 x12, .int .i64 x13, .int .i64 x14, .int .i64 x15, .int .i64 x16] 59)).alloc (.cells #[.int .i64 y0, .int .i64 y1, .int .i64 y2, .int .i64 y3, .int .i64 y4, .int .i64 y5, .int .i64 y6, .int .i64 y7, .int .i64 y8, .int .i64 y9, .int .i64 y10, .int .i64 y11, .int .i64 y12, .int .i64 y13, .int .i64 y14, .int .i64 y15, .int .i64 y16] 59)) := hb1.alloc hb1.size _
  have hc1 : HT ((w.alloc (.cells #[.int .i64 x0, .int .i64 x1, .int .i64 x2, .int .i64 x3, .int .i64 x4, .int .i64 x5, .int .i64 x6, .int .i64 x7, .int .i64 x8, .int .i64 x9, .int .i64 x10, .int .i64 x11, .int .i64 x12, .int .i64 x13, .int .i64 x14, .int .i64 x15, .int .i64 x16] 59)).alloc (.cells #[.int .i64 y0, .int .i64 y1, .int .i64 y2, .int .i64 y3, .int .i64 y4, .int .i64 y5, .int .i64 y6, .int .i64 y7, .int .i64 y8, .int .i64 y9, .int .i64 y10, .int .i64 y11, .int .i64 y12, .int .i64 y13, .int .i64 y14, .int .i64 y15, .int .i64 y16] 59)) w.heap.size 59 (ivs [x0, x1, x2, x3, x4, x5, x6, x7, x8, x9, x10, x11, x12, x13, x14, x15, x16]) := (HT.new (w := w) (t := 59) (C := ivs [x0, x1, x2, x3, x4, x5, x6, x7, x8, x9, x10, x11, x12, x13, x14, x15, x16])).below ((Below.refl _ _).alloc (Nat.le_refl _) _)
  have hc2 : HT ((w.alloc (.cells #[.int .i64 x0, .int .i64 x1, .int .i64 x2, .int .i64 x3, .int .i64 x4, .int .i64 x5, .int .i64 x6, .int .i64 x7, .int .i64 x8, .int .i64 x9, .int .i64 x10, .int .i64 x11, .int .i64 x12, .int .i64 x13, .int .i64 x14, .int .i64 x15, .int .i64 x16] 59)).alloc (.cells #[.int .i64 y0, .int .i64 y1, .int .i64 y2, .int .i64 y3, .int .i64 y4, .int .i64 y5, .int .i64 y6, .int .i64 y7, .int .i64 y8, .int .i64 y9, .int .i64 y10, .int .i64 y11, .int .i64 y12, .int .i64 y13, .int .i64 y14, .int .i64 y15, .int .i64 y16] 59)) (w.heap.size + 1) 59 (ivs [y0, y1, y2, y3, y4, y5, y6, y7, y8, y9, y10, y11, y12, y13, y14, y15, y16]) := by
    have := HT.new (w := w.alloc (.cells #[.int .i64 x0, .int .i64 x1, .int .i64 x2, .int .i64 x3, .int .i64 x4, .int .i64 x5, .int .i64 x6, .int .i64 x7, .int .i64 x8, .int .i64 x9, .int .i64 x10, .int .i64 x11, .int .i64 x12, .int .i64 x13, .int .i64 x14, .int .i64 x15, .int .i64 x16] 59)) (t := 59) (C := ivs [y0, y1, y2, y3, y4, y5, y6, y7, y8, y9, y10, y11, y12, y13, y14, y15, y16])
    rw [show (w.alloc (.cells #[.int .i64 x0, .int .i64 x1, .int .i64 x2, .int .i64 x3, .int .i64 x4, .int .i64 x5, .int .i64 x6, .int .i64 x7, .int .i64 x8, .int .i64 x9, .int .i64 x10, .int .i64 x11, .int .i64 x12, .int .i64 x13, .int .i64 x14, .int .i64 x15, .int .i64 x16] 59)).heap.size = w.heap.size + 1 by simp] at this
    exact this
  have HB2 := Lib.hid hb2
  have HC1 := Lib.hid hc1
  have HC2 := Lib.hid hc2
  clear hb1 hb2 hc1 hc2
  go_enter Tryz.func19, Tryz.ntmps19
  go_wp2_with fail
  generalize hW : (w.alloc (.cells #[.int .i64 x0, .int .i64 x1, .int .i64 x2, .int .i64 x3, .int .i64 x4, .int .i64 x5, .int .i64 x6, .int .i64 x7, .int .i64 x8, .int .i64 x9, .int .i64 x10, .int .i64 x11, .int .i64 x12, .int .i64 x13, .int .i64 x14, .int .i64 x15, .int .i64 x16] 59)).alloc (.cells #[.int .i64 y0, .int .i64 y1, .int .i64 y2, .int .i64 y3, .int .i64 y4, .int .i64 y5, .int .i64 y6, .int .i64 y7, .int .i64 y8, .int .i64 y9, .int .i64 y10, .int .i64 y11, .int .i64 y12, .int .i64 y13, .int .i64 y14, .int .i64 y15, .int .i64 y16] 59) = W at *
  clear hW
  generalize hgx : w.heap.size = gx at *
  have HGX : Hid (w.heap.size = gx) := hgx
  clear hgx
  go_loopw [5] (fun v5 wr => ∃ k : Nat, k ≤ 6 ∧ v5 = .int .i64 k ∧ HT wr gx 59 (ivs [x0, x1, x2, x3, x4, x5, x6, x7, x8, x9, x10, x11, x12, x13, x14, x15, x16]) ∧ HT wr (gx + 1) 59 (ivs [y0, y1, y2, y3, y4, y5, y6, y7, y8, y9, y10, y11, y12, y13, y14, y15, y16]) ∧ (∀ j, j < k → (ivs [x0, x1, x2, x3, x4, x5, x6, x7, x8, x9, x10, x11, x12, x13, x14, x15, x16])[11 + j]? = (ivs [y0, y1, y2, y3, y4, y5, y6, y7, y8, y9, y10, y11, y12, y13, y14, y15, y16])[11 + j]?) ∧ Below gx w wr) (fun i _ => 6 - (intOf i).toNat)
  case atStart => exact ⟨0, by omega, rfl, HC1.out, HC2.out, fun j hj => by omega, HB2.out⟩
  case round =>
    obtain ⟨k, hk, rfl, hx, hy, heq, hbel⟩ := hrel
    have HX := Lib.hid hx
    have HY := Lib.hid hy
    have HEQ := Lib.hid heq
    have HBEL := Lib.hid hbel
    clear hx hy heq hbel
    by_cases hlt : k < 6
    · obtain ⟨a, ha⟩ : ∃ a, (ivs [x0, x1, x2, x3, x4, x5, x6, x7, x8, x9, x10, x11, x12, x13, x14, x15, x16])[11 + k]? = some (.int .i64 a) := ⟨_, ivs_at (by show 11 + k < 17; omega)⟩
      obtain ⟨b, hb⟩ : ∃ b, (ivs [y0, y1, y2, y3, y4, y5, y6, y7, y8, y9, y10, y11, y12, y13, y14, y15, y16])[11 + k]? = some (.int .i64 b) := ⟨_, ivs_at (by show 11 + k < 17; omega)⟩
      have hcx := HX.out.cell ha
      have hcy := HY.out.cell hb
      have HA := Lib.hid ha
      have HB := Lib.hid hb
      clear ha hb
      go_wp2_with fail
      go_quiet (fail)
      have HQ := Lib.hid (below_drewN' HBEL.out nq)
      have HX2 := Lib.hid (HX.out.below (below_drewN' (Below.refl _ _) nq))
      have HY2 := Lib.hid (HY.out.below (below_drewN' (Below.refl _ _) nq))
      by_cases hne : a = b
      · have hne' : (a != b) = false := by rw [hne]; simp
        have HNE := Lib.hid hne
        clear hne
        go_wp2_with fail
        go_roundw
        case rel => exact ⟨k + 1, by omega, by go_num, HX2.out, HY2.out, fun j hj => by
          by_cases h : j < k
          · exact HEQ.out j h
          · obtain rfl : j = k := by omega
            rw [HA.out, HB.out, HNE.out], HQ.out⟩
        case measure => simp [intOf]; omega
      · have hne' : (a != b) = true := by rw [bne_iff_ne]; exact hne
        have hll : [x0, x1, x2, x3, x4, x5, x6, x7, x8, x9, x10, x11, x12, x13, x14, x15, x16] ≠ [y0, y1, y2, y3, y4, y5, y6, y7, y8, y9, y10, y11, y12, y13, y14, y15, y16] := fun h => hne (by have h1 := HA.out; rw [h, HB.out] at h1; injection h1 with h1; injection h1 with _ h2; exact h2.symm)
        have HLL := Lib.hid hll
        clear hne hll
        go_wp2_with fail
        go_ret
        exact ⟨by rw [decide_eq_false HLL.out]; rfl, by rw [HGX.out]; exact HQ.out⟩
    · obtain rfl : k = 6 := by omega
      have HALL : Hid (x0 = y0 → x1 = y1 → x2 = y2 → x3 = y3 → x4 = y4 → x5 = y5 → x6 = y6 → x7 = y7 → x8 = y8 → x9 = y9 → decide ([x0, x1, x2, x3, x4, x5, x6, x7, x8, x9, x10, x11, x12, x13, x14, x15, x16] = [y0, y1, y2, y3, y4, y5, y6, y7, y8, y9, y10, y11, y12, y13, y14, y15, y16]) = (x10 == y10)) := by
        show x0 = y0 → x1 = y1 → x2 = y2 → x3 = y3 → x4 = y4 → x5 = y5 → x6 = y6 → x7 = y7 → x8 = y8 → x9 = y9 → _
        have h0 := HEQ.out 0 (by omega)
        have h1 := HEQ.out 1 (by omega)
        have h2 := HEQ.out 2 (by omega)
        have h3 := HEQ.out 3 (by omega)
        have h4 := HEQ.out 4 (by omega)
        have h5 := HEQ.out 5 (by omega)
        simp at h0 h1 h2 h3 h4 h5
        intros
        subst_vars
        rw [Bool.eq_iff_iff]
        simp
      have hx0 := HX.out.cell (j := 0) rfl
      have hy0 := HY.out.cell (j := 0) rfl
      have hx1 := HX.out.cell (j := 1) rfl
      have hy1 := HY.out.cell (j := 1) rfl
      have hx2 := HX.out.cell (j := 2) rfl
      have hy2 := HY.out.cell (j := 2) rfl
      have hx3 := HX.out.cell (j := 3) rfl
      have hy3 := HY.out.cell (j := 3) rfl
      have hx4 := HX.out.cell (j := 4) rfl
      have hy4 := HY.out.cell (j := 4) rfl
      have hx5 := HX.out.cell (j := 5) rfl
      have hy5 := HY.out.cell (j := 5) rfl
      have hx6 := HX.out.cell (j := 6) rfl
      have hy6 := HY.out.cell (j := 6) rfl
      have hx7 := HX.out.cell (j := 7) rfl
      have hy7 := HY.out.cell (j := 7) rfl
      have hx8 := HX.out.cell (j := 8) rfl
      have hy8 := HY.out.cell (j := 8) rfl
      have hx9 := HX.out.cell (j := 9) rfl
      have hy9 := HY.out.cell (j := 9) rfl
      have hx10 := HX.out.cell (j := 10) rfl
      have hy10 := HY.out.cell (j := 10) rfl
      go_wp2_with fail
      · rename_i g0 g1 g2 g3 g4 g5 g6 g7 g8 g9
        go_ret
        exact ⟨by rw [HALL.out g0 g1 g2 g3 g4 g5 g6 g7 g8 g9]; rfl, by rw [HGX.out]; exact HBEL.out⟩
      · rename_i hn
        go_ret
        exact ⟨by rw [decide_eq_false (show [x0, x1, x2, x3, x4, x5, x6, x7, x8, x9, x10, x11, x12, x13, x14, x15, x16] ≠ [y0, y1, y2, y3, y4, y5, y6, y7, y8, y9, y10, y11, y12, y13, y14, y15, y16] from fun h => hn (congrArg (fun L : List Int => L.getD 9 0) h))]; rfl, by rw [HGX.out]; exact HBEL.out⟩
      · rename_i hn
        go_ret
        exact ⟨by rw [decide_eq_false (show [x0, x1, x2, x3, x4, x5, x6, x7, x8, x9, x10, x11, x12, x13, x14, x15, x16] ≠ [y0, y1, y2, y3, y4, y5, y6, y7, y8, y9, y10, y11, y12, y13, y14, y15, y16] from fun h => hn (congrArg (fun L : List Int => L.getD 8 0) h))]; rfl, by rw [HGX.out]; exact HBEL.out⟩
      · rename_i hn
        go_ret
        exact ⟨by rw [decide_eq_false (show [x0, x1, x2, x3, x4, x5, x6, x7, x8, x9, x10, x11, x12, x13, x14, x15, x16] ≠ [y0, y1, y2, y3, y4, y5, y6, y7, y8, y9, y10, y11, y12, y13, y14, y15, y16] from fun h => hn (congrArg (fun L : List Int => L.getD 7 0) h))]; rfl, by rw [HGX.out]; exact HBEL.out⟩
      · rename_i hn
        go_ret
        exact ⟨by rw [decide_eq_false (show [x0, x1, x2, x3, x4, x5, x6, x7, x8, x9, x10, x11, x12, x13, x14, x15, x16] ≠ [y0, y1, y2, y3, y4, y5, y6, y7, y8, y9, y10, y11, y12, y13, y14, y15, y16] from fun h => hn (congrArg (fun L : List Int => L.getD 6 0) h))]; rfl, by rw [HGX.out]; exact HBEL.out⟩
      · rename_i hn
        go_ret
        exact ⟨by rw [decide_eq_false (show [x0, x1, x2, x3, x4, x5, x6, x7, x8, x9, x10, x11, x12, x13, x14, x15, x16] ≠ [y0, y1, y2, y3, y4, y5, y6, y7, y8, y9, y10, y11, y12, y13, y14, y15, y16] from fun h => hn (congrArg (fun L : List Int => L.getD 5 0) h))]; rfl, by rw [HGX.out]; exact HBEL.out⟩
      · rename_i hn
        go_ret
        exact ⟨by rw [decide_eq_false (show [x0, x1, x2, x3, x4, x5, x6, x7, x8, x9, x10, x11, x12, x13, x14, x15, x16] ≠ [y0, y1, y2, y3, y4, y5, y6, y7, y8, y9, y10, y11, y12, y13, y14, y15, y16] from fun h => hn (congrArg (fun L : List Int => L.getD 4 0) h))]; rfl, by rw [HGX.out]; exact HBEL.out⟩
      · rename_i hn
        go_ret
        exact ⟨by rw [decide_eq_false (show [x0, x1, x2, x3, x4, x5, x6, x7, x8, x9, x10, x11, x12, x13, x14, x15, x16] ≠ [y0, y1, y2, y3, y4, y5, y6, y7, y8, y9, y10, y11, y12, y13, y14, y15, y16] from fun h => hn (congrArg (fun L : List Int => L.getD 3 0) h))]; rfl, by rw [HGX.out]; exact HBEL.out⟩
      · rename_i hn
        go_ret
        exact ⟨by rw [decide_eq_false (show [x0, x1, x2, x3, x4, x5, x6, x7, x8, x9, x10, x11, x12, x13, x14, x15, x16] ≠ [y0, y1, y2, y3, y4, y5, y6, y7, y8, y9, y10, y11, y12, y13, y14, y15, y16] from fun h => hn (congrArg (fun L : List Int => L.getD 2 0) h))]; rfl, by rw [HGX.out]; exact HBEL.out⟩
      · rename_i hn
        go_ret
        exact ⟨by rw [decide_eq_false (show [x0, x1, x2, x3, x4, x5, x6, x7, x8, x9, x10, x11, x12, x13, x14, x15, x16] ≠ [y0, y1, y2, y3, y4, y5, y6, y7, y8, y9, y10, y11, y12, y13, y14, y15, y16] from fun h => hn (congrArg (fun L : List Int => L.getD 1 0) h))]; rfl, by rw [HGX.out]; exact HBEL.out⟩
      · rename_i hn
        go_ret
        exact ⟨by rw [decide_eq_false (show [x0, x1, x2, x3, x4, x5, x6, x7, x8, x9, x10, x11, x12, x13, x14, x15, x16] ≠ [y0, y1, y2, y3, y4, y5, y6, y7, y8, y9, y10, y11, y12, y13, y14, y15, y16] from fun h => hn (congrArg (fun L : List Int => L.getD 0 0) h))]; rfl, by rw [HGX.out]; exact HBEL.out⟩

end Cam
