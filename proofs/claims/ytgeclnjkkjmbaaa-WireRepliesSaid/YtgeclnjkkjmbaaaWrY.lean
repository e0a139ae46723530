import Derived.Test.YtgeclnjkkjmbaaaWrX
/- cambistkeep: Due, Fall. -/
namespace Cam
open Go Go.RowKit Go.Proofs

theorem two_allocs (w : World) (o1 o2 : Obj) : Below w.heap.size w ((w.alloc o1).alloc o2) := ((Below.refl _ _).alloc (Nat.le_refl _) _).alloc (Below.size ((Below.refl _ _).alloc (Nat.le_refl _) o1)) _
set_option maxRecDepth 100000 in
set_option maxHeartbeats 3200000 in
theorem KDue_any (w : World) (x0 x1 x2 y0 y1 y2 : Int) :
    Calls Try.prog 59 #[.agg #[.int .i64 x0, .int .i64 x1, .int .i64 x2], .agg #[.int .i64 y0, .int .i64 y1, .int .i64 y2]] w fun e w' => e = .returned (.bool (decide ([x0, x1, x2] = [y0, y1, y2]))) ∧ Below w.heap.size w w' := by
  have hb1 : Below w.heap.size w (w.alloc (.cells #[.int .i64 x0, .int .i64 x1, .int .i64 x2] 127)) := (Below.refl _ _).alloc (Nat.le_refl _) _
  have hb2 : Below w.heap.size w ((w.alloc (.cells #[.int .i64 x0, .int .i64 x1, .int .i64 x2] 127)).alloc (.cells #[.int .i64 y0, .int .i64 y1, .int .i64 y2] 127)) := hb1.alloc hb1.size _
  have hc1 : HT ((w.alloc (.cells #[.int .i64 x0, .int .i64 x1, .int .i64 x2] 127)).alloc (.cells #[.int .i64 y0, .int .i64 y1, .int .i64 y2] 127)) w.heap.size 127 (ivs [x0, x1, x2]) := (HT.new (w := w) (t := 127) (C := ivs [x0, x1, x2])).below ((Below.refl _ _).alloc (Nat.le_refl _) _)
  have hc2 : HT ((w.alloc (.cells #[.int .i64 x0, .int .i64 x1, .int .i64 x2] 127)).alloc (.cells #[.int .i64 y0, .int .i64 y1, .int .i64 y2] 127)) (w.heap.size + 1) 127 (ivs [y0, y1, y2]) := by
    have := HT.new (w := w.alloc (.cells #[.int .i64 x0, .int .i64 x1, .int .i64 x2] 127)) (t := 127) (C := ivs [y0, y1, y2])
    rw [show (w.alloc (.cells #[.int .i64 x0, .int .i64 x1, .int .i64 x2] 127)).heap.size = w.heap.size + 1 by simp] at this
    exact this
  have HB2 := Lib.hid hb2
  have HC1 := Lib.hid hc1
  have HC2 := Lib.hid hc2
  clear hb1 hb2 hc1 hc2
  obtain ⟨d, hd⟩ : ∃ d : Bool, d = decide ([x0, x1, x2] = [y0, y1, y2]) := ⟨_, rfl⟩
  rw [← hd]
  have HD := Lib.hid hd
  clear hd
  go_enter Try.func59, Try.ntmps59
  have HX := HC1
  have HY := HC2
  have HBEL := HB2
  have HALL : Hid (x0 = y0 → x1 = y1 → decide ([x0, x1, x2] = [y0, y1, y2]) = (x2 == y2)) := by
    show x0 = y0 → x1 = y1 → _
    intros
    subst_vars
    rw [Bool.eq_iff_iff]
    simp
  have hx0 := HX.out.cell (j := 0) rfl
  have hy0 := HY.out.cell (j := 0) rfl
  have hx1 := HX.out.cell (j := 1) rfl
  have hy1 := HY.out.cell (j := 1) rfl
  have hx2 := HX.out.cell (j := 2) rfl
  have hy2 := HY.out.cell (j := 2) rfl
  go_wp2_with fail
  · rename_i g0 g1
    go_ret
    exact ⟨by rw [HD.out, HALL.out g0 g1]; rfl, two_allocs _ _ _⟩
  · rename_i hn
    go_ret
    exact ⟨by rw [HD.out, decide_eq_false (show [x0, x1, x2] ≠ [y0, y1, y2] from fun h => hn (congrArg (fun L : List Int => L.getD 1 0) h))]; rfl, two_allocs _ _ _⟩
  · rename_i hn
    go_ret
    exact ⟨by rw [HD.out, decide_eq_false (show [x0, x1, x2] ≠ [y0, y1, y2] from fun h => hn (congrArg (fun L : List Int => L.getD 0 0) h))]; rfl, two_allocs _ _ _⟩
set_option maxRecDepth 100000 in
set_option maxHeartbeats 3200000 in
theorem KFall_any (w : World) (x0 x1 x2 x3 x4 x5 x6 x7 y0 y1 y2 y3 y4 y5 y6 y7 : Int) :
    Calls Try.prog 60 #[.agg #[.int .i64 x0, .int .i64 x1, .int .i64 x2, .int .i64 x3, .int .i64 x4, .int .i64 x5, .int .i64 x6, .int .i64 x7], .agg #[.int .i64 y0, .int .i64 y1, .int .i64 y2, .int .i64 y3, .int .i64 y4, .int .i64 y5, .int .i64 y6, .int .i64 y7]] w fun e w' => e = .returned (.bool (decide ([x0, x1, x2, x3, x4, x5, x6, x7] = [y0, y1, y2, y3, y4, y5, y6, y7]))) ∧ Below w.heap.size w w' := by
  have hb1 : Below w.heap.size w (w.alloc (.cells #[.int .i64 x0, .int .i64 x1, .int .i64 x2, .int .i64 x3, .int .i64 x4, .int .i64 x5, .int .i64 x6, .int .i64 x7] 132)) := (Below.refl _ _).alloc (Nat.le_refl _) _
  have hb2 : Below w.heap.size w ((w.alloc (.cells #[.int .i64 x0, .int .i64 x1, .int .i64 x2, .int .i64 x3, .int .i64 x4, .int .i64 x5, .int .i64 x6, .int .i64 x7] 132)).alloc (.cells #[.int .i64 y0, .int .i64 y1, .int .i64 y2, .int .i64 y3, .int .i64 y4, .int .i64 y5, .int .i64 y6, .int .i64 y7] 132)) := hb1.alloc hb1.size _
  have hc1 : HT ((w.alloc (.cells #[.int .i64 x0, .int .i64 x1, .int .i64 x2, .int .i64 x3, .int .i64 x4, .int .i64 x5, .int .i64 x6, .int .i64 x7] 132)).alloc (.cells #[.int .i64 y0, .int .i64 y1, .int .i64 y2, .int .i64 y3, .int .i64 y4, .int .i64 y5, .int .i64 y6, .int .i64 y7] 132)) w.heap.size 132 (ivs [x0, x1, x2, x3, x4, x5, x6, x7]) := (HT.new (w := w) (t := 132) (C := ivs [x0, x1, x2, x3, x4, x5, x6, x7])).below ((Below.refl _ _).alloc (Nat.le_refl _) _)
  have hc2 : HT ((w.alloc (.cells #[.int .i64 x0, .int .i64 x1, .int .i64 x2, .int .i64 x3, .int .i64 x4, .int .i64 x5, .int .i64 x6, .int .i64 x7] 132)).alloc (.cells #[.int .i64 y0, .int .i64 y1, .int .i64 y2, .int .i64 y3, .int .i64 y4, .int .i64 y5, .int .i64 y6, .int .i64 y7] 132)) (w.heap.size + 1) 132 (ivs [y0, y1, y2, y3, y4, y5, y6, y7]) := by
    have := HT.new (w := w.alloc (.cells #[.int .i64 x0, .int .i64 x1, .int .i64 x2, .int .i64 x3, .int .i64 x4, .int .i64 x5, .int .i64 x6, .int .i64 x7] 132)) (t := 132) (C := ivs [y0, y1, y2, y3, y4, y5, y6, y7])
    rw [show (w.alloc (.cells #[.int .i64 x0, .int .i64 x1, .int .i64 x2, .int .i64 x3, .int .i64 x4, .int .i64 x5, .int .i64 x6, .int .i64 x7] 132)).heap.size = w.heap.size + 1 by simp] at this
    exact this
  have HB2 := Lib.hid hb2
  have HC1 := Lib.hid hc1
  have HC2 := Lib.hid hc2
  clear hb1 hb2 hc1 hc2
  obtain ⟨d, hd⟩ : ∃ d : Bool, d = decide ([x0, x1, x2, x3, x4, x5, x6, x7] = [y0, y1, y2, y3, y4, y5, y6, y7]) := ⟨_, rfl⟩
  rw [← hd]
  have HD := Lib.hid hd
  clear hd
  go_enter Try.func60, Try.ntmps60
  go_wp2_with fail
  generalize hW : (w.alloc (.cells #[.int .i64 x0, .int .i64 x1, .int .i64 x2, .int .i64 x3, .int .i64 x4, .int .i64 x5, .int .i64 x6, .int .i64 x7] 132)).alloc (.cells #[.int .i64 y0, .int .i64 y1, .int .i64 y2, .int .i64 y3, .int .i64 y4, .int .i64 y5, .int .i64 y6, .int .i64 y7] 132) = W at *
  clear hW
  generalize hgx : w.heap.size = gx at *
  have HGX : Hid (w.heap.size = gx) := hgx
  clear hgx
  go_loopw [5] (fun v5 wr => ∃ k : Nat, k ≤ 5 ∧ v5 = .int .i64 k ∧ HT wr gx 132 (ivs [x0, x1, x2, x3, x4, x5, x6, x7]) ∧ HT wr (gx + 1) 132 (ivs [y0, y1, y2, y3, y4, y5, y6, y7]) ∧ (∀ j, j < k → (ivs [x0, x1, x2, x3, x4, x5, x6, x7])[2 + j]? = (ivs [y0, y1, y2, y3, y4, y5, y6, y7])[2 + j]?) ∧ Below gx w wr) (fun i _ => 5 - (intOf i).toNat)
  case atStart => exact ⟨0, by omega, rfl, HC1.out, HC2.out, fun j hj => by omega, HB2.out⟩
  case round =>
    obtain ⟨k, hk, rfl, hx, hy, heq, hbel⟩ := hrel
    have HX := Lib.hid hx
    have HY := Lib.hid hy
    have HEQ := Lib.hid heq
    have HBEL := Lib.hid hbel
    clear hx hy heq hbel
    by_cases hlt : k < 5
    · obtain ⟨a, ha⟩ : ∃ a, (ivs [x0, x1, x2, x3, x4, x5, x6, x7])[2 + k]? = some (.int .i64 a) := ⟨_, ivs_at (by show 2 + k < 8; omega)⟩
      obtain ⟨b, hb⟩ : ∃ b, (ivs [y0, y1, y2, y3, y4, y5, y6, y7])[2 + k]? = some (.int .i64 b) := ⟨_, ivs_at (by show 2 + k < 8; omega)⟩
      have hcx := HX.out.cell ha
      have hcy := HY.out.cell hb
      have HA := Lib.hid ha
      have HB := Lib.hid hb
      clear ha hb
      go_wp2_with fail
      go_quiet (fail)
      have HQ := Lib.hid (below_drewN' HBEL.out nq)
      have HX2 := Lib.hid (HX.out.below (below_drewN' (Below.refl _ _) nq))
      have HY2 := Lib.hid (HY.out.below (below_drewN' (Below.refl _ _) nq))
      by_cases hne : a = b
      · have hne' : (a != b) = false := by rw [hne]; simp
        have HNE := Lib.hid hne
        clear hne
        go_wp2_with fail
        go_roundw
        case rel => exact ⟨k + 1, by omega, by go_num, HX2.out, HY2.out, fun j hj => by
          by_cases h : j < k
          · exact HEQ.out j h
          · obtain rfl : j = k := by omega
            rw [HA.out, HB.out, HNE.out], HQ.out⟩
        case measure => simp [intOf]; omega
      · have hne' : (a != b) = true := by rw [bne_iff_ne]; exact hne
        have hll : [x0, x1, x2, x3, x4, x5, x6, x7] ≠ [y0, y1, y2, y3, y4, y5, y6, y7] := fun h => hne (by have h1 := HA.out; rw [h, HB.out] at h1; injection h1 with h1; injection h1 with _ h2; exact h2.symm)
        have HLL := Lib.hid hll
        clear hne hll
        go_wp2_with fail
        go_ret
        exact ⟨by rw [HD.out, decide_eq_false HLL.out]; rfl, by rw [HGX.out]; exact HQ.out⟩
    · obtain rfl : k = 5 := by omega
      have HALL : Hid (x0 = y0 → x1 = y1 → decide ([x0, x1, x2, x3, x4, x5, x6, x7] = [y0, y1, y2, y3, y4, y5, y6, y7]) = (x7 == y7)) := by
        show x0 = y0 → x1 = y1 → _
        have h0 := HEQ.out 0 (by omega)
        have h1 := HEQ.out 1 (by omega)
        have h2 := HEQ.out 2 (by omega)
        have h3 := HEQ.out 3 (by omega)
        have h4 := HEQ.out 4 (by omega)
        simp at h0 h1 h2 h3 h4
        intros
        subst_vars
        rw [Bool.eq_iff_iff]
        simp
      have hx0 := HX.out.cell (j := 0) rfl
      have hy0 := HY.out.cell (j := 0) rfl
      have hx1 := HX.out.cell (j := 1) rfl
      have hy1 := HY.out.cell (j := 1) rfl
      have hx7 := HX.out.cell (j := 7) rfl
      have hy7 := HY.out.cell (j := 7) rfl
      go_wp2_with fail
      · rename_i g0 g1
        go_ret
        exact ⟨by rw [HD.out, HALL.out g0 g1]; rfl, by rw [HGX.out]; exact HBEL.out⟩
      · rename_i hn
        go_ret
        exact ⟨by rw [HD.out, decide_eq_false (show [x0, x1, x2, x3, x4, x5, x6, x7] ≠ [y0, y1, y2, y3, y4, y5, y6, y7] from fun h => hn (congrArg (fun L : List Int => L.getD 1 0) h))]; rfl, by rw [HGX.out]; exact HBEL.out⟩
      · rename_i hn
        go_ret
        exact ⟨by rw [HD.out, decide_eq_false (show [x0, x1, x2, x3, x4, x5, x6, x7] ≠ [y0, y1, y2, y3, y4, y5, y6, y7] from fun h => hn (congrArg (fun L : List Int => L.getD 0 0) h))]; rfl, by rw [HGX.out]; exact HBEL.out⟩
end Cam
