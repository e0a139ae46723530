import Derived.Test.YteabnccmomdnpaaClP
import Derived.Deep.RegionHeld3
/- cambistkeep: Due, Calls. -/
namespace Cam
open Go Go.RowKit Go.Proofs

theorem keepK {w W w1 : World} {p0 p1 p2 p3 q0 q1 q2 q3 : Addr} {x0 x1 x2 x3 y0 y1 y2 y3 : Value} (hb : Below W.heap.size W w1)
    (h : W.cell? p0 = some x0 ∧ W.cell? p1 = some x1 ∧ W.cell? p2 = some x2 ∧ W.cell? p3 = some x3 ∧ W.cell? q0 = some y0 ∧ W.cell? q1 = some y1 ∧ W.cell? q2 = some y2 ∧ W.cell? q3 = some y3 ∧ Below w.heap.size w W) :
    w1.cell? p0 = some x0 ∧ w1.cell? p1 = some x1 ∧ w1.cell? p2 = some x2 ∧ w1.cell? p3 = some x3 ∧ w1.cell? q0 = some y0 ∧ w1.cell? q1 = some y1 ∧ w1.cell? q2 = some y2 ∧ w1.cell? q3 = some y3 ∧ Below w.heap.size w w1 := by
  have c : ∀ {p : Addr} {x : Value}, W.cell? p = some x → w1.cell? p = some x := fun h => (hb.cell (World.block_lt_of_cell? W _ h)).trans h
  obtain ⟨h0, h1, h2, h3, h4, h5, h6, h7, h8⟩ := h
  exact ⟨c h0, c h1, c h2, c h3, c h4, c h5, c h6, c h7, h8.next hb⟩
def dEq (xw xc xa yw yc ya : Int) : Bool := decide (xw = yw ∧ xc = yc ∧ xa = ya)
theorem Due_any (w : World) (xw xc xa yw yc ya : Int) :
    Calls Try.prog 25 #[.agg #[.int .i64 xw, .int .i64 xc, .int .i64 xa], .agg #[.int .i64 yw, .int .i64 yc, .int .i64 ya]] w fun e w' => e = .returned (.bool (dEq xw xc xa yw yc ya)) ∧ Below w.heap.size w w' := by
  have hb : Below w.heap.size w ((w.alloc (.cells #[.int .i64 xw, .int .i64 xc, .int .i64 xa] 26)).alloc (.cells #[.int .i64 yw, .int .i64 yc, .int .i64 ya] 26)) := ((Below.refl _ _).alloc (Nat.le_refl _) _).alloc (by simp) _
  have H : Hid (dEq xw xc xa yw yc ya = decide (xw = yw ∧ xc = yc ∧ xa = ya)) := rfl
  by_cases e0 : xw = yw
  · subst e0
    by_cases e1 : xc = yc
    · subst e1
      by_cases e2 : xa = ya
      · subst e2
        go_enter Try.func25, Try.ntmps25
        go_wp2_with fail
        go_ret
        exact ⟨by rw [H.out]; simp, hb⟩
      · have e2' : (xa == ya) = false := by simpa using e2
        go_enter Try.func25, Try.ntmps25
        go_wp2_with fail
        go_ret
        exact ⟨by rw [H.out]; simp [e2], hb⟩
    · have e1' : (xc == yc) = false := by simpa using e1
      go_enter Try.func25, Try.ntmps25
      go_wp2_with fail
      go_ret
      exact ⟨by rw [H.out]; simp [e1], hb⟩
  · have e0' : (xw == yw) = false := by simpa using e0
    go_enter Try.func25, Try.ntmps25
    go_wp2_with fail
    go_ret
    exact ⟨by rw [H.out]; simp [e0], hb⟩

set_option maxRecDepth 100000 in
set_option maxHeartbeats 3200000 in
theorem keepCalls_any (w : World) (va vb : Value) (la lb : List CT) (ha : Cs w va la) (hb : Cs w vb lb) (hlen : la.length ≤ 100000 ∧ lb.length ≤ 100000) :
    Calls Try.prog 9 #[va, vb] w fun e w' => e = .returned (.bool (decide (la = lb))) ∧ Below w.heap.size w w' := by
  obtain ⟨aa, capa, rfl, hcapa, hma⟩ := ha.shape
  obtain ⟨ab, capb, rfl, hcapb, hmb⟩ := hb.shape
  by_cases hl : la.length = lb.length
  · have hl' : ((la.length : Int) != (lb.length : Int)) = false := by rw [hl]; simp
    have Hl := Lib.hid hl
    have hlle : la.length ≤ lb.length := by omega
    clear hl
    go_enter Try.func9, Try.ntmps9
    go_wp2
    go_loopw [5] (fun i wr => ∃ k : Nat, k ≤ la.length ∧ i = .int .i64 k ∧ Hid (la.take k = lb.take k) ∧ Below w.heap.size w wr) (fun i _ => la.length - (intOf i).toNat)
    case atStart => exact ⟨0, Nat.zero_le _, rfl, rfl, Below.refl _ _⟩
    case round =>
      obtain ⟨k, hk, rfl, Heq, hbel⟩ := hrel
      by_cases hlt : k < la.length
      · obtain ⟨ba, offa, rfl, _, hca⟩ := Cs.at4 (ha.mono hbel) (by omega)
        obtain ⟨bb, offb, rfl, _, hcb⟩ := Cs.at4 (hb.mono hbel) (by omega)
        obtain ⟨a0, a1, a2, a3⟩ := hca k hlt
        obtain ⟨b0, b1, b2, b3⟩ := hcb k (by omega)
        have HNX : Hid (la[k].who = lb[k].who ∧ la[k].cur = lb[k].cur ∧ la[k].amt = lb[k].amt ∧ la[k].tick = lb[k].tick → la.take (k + 1) = lb.take (k + 1)) := by
          rintro ⟨e0, e1, e2, e3⟩
          rw [take_snoc _ _ hlt, take_snoc _ _ (by omega), Heq.out]
          have : la[k] = lb[k] := by
            generalize la[k] = x at *
            generalize lb[k] = y at *
            cases x
            cases y
            simp only at e0 e1 e2 e3
            subst e0 e1 e2 e3
            rfl
          rw [this]
        have HNE0 : Hid (¬ (la[k].who = lb[k].who ∧ la[k].cur = lb[k].cur ∧ la[k].amt = lb[k].amt ∧ la[k].tick = lb[k].tick) → ¬ la = lb) := by
          intro h e
          subst e
          exact h ⟨rfl, rfl, rfl, rfl⟩
        generalize la[k].who = xw at *
        generalize la[k].cur = xc at *
        generalize la[k].amt = xa at *
        generalize la[k].tick = xt at *
        generalize lb[k].who = yw at *
        generalize lb[k].cur = yc at *
        generalize lb[k].amt = ya at *
        generalize lb[k].tick = yt at *
        have hSd : wr.drew.cell? ⟨ba, offa + k * 4, none⟩ = some (.int .i64 xw) ∧ wr.drew.cell? ⟨ba, offa + k * 4 + 1, none⟩ = some (.int .i64 xc) ∧ wr.drew.cell? ⟨ba, offa + k * 4 + 2, none⟩ = some (.int .i64 xa) ∧ wr.drew.cell? ⟨ba, offa + k * 4 + 3, none⟩ = some (.int .i64 xt) ∧ wr.drew.cell? ⟨bb, offb + k * 4, none⟩ = some (.int .i64 yw) ∧ wr.drew.cell? ⟨bb, offb + k * 4 + 1, none⟩ = some (.int .i64 yc) ∧ wr.drew.cell? ⟨bb, offb + k * 4 + 2, none⟩ = some (.int .i64 ya) ∧ wr.drew.cell? ⟨bb, offb + k * 4 + 3, none⟩ = some (.int .i64 yt) ∧ Below w.heap.size w wr.drew := ⟨a0, a1, a2, a3, b0, b1, b2, b3, hbel.drew⟩
        have due := fun w => Due_any w xw xc xa yw yc ya
        clear hca hcb a0 a1 a2 a3 b0 b1 b2 b3 hbel ha hb
        have hk0 : (0 : Int) ≤ k := by omega
        have hk1 : (k : Int) < la.length := by omega
        have hk2 : (k : Int) < lb.length := by omega
        by_cases hd : xw = yw ∧ xc = yc ∧ xa = ya
        · rw [show dEq xw xc xa yw yc ya = true from decide_eq_true hd] at due
          obtain ⟨rfl, rfl, rfl⟩ := hd
          by_cases ht : xt = yt
          · subst ht
            clear HNE0
            go_wp2
            refine wp_region_held_drew (S := (fun wx => wx.cell? ⟨ba, offa + k * 4, none⟩ = some (.int .i64 xw) ∧ wx.cell? ⟨ba, offa + k * 4 + 1, none⟩ = some (.int .i64 xc) ∧ wx.cell? ⟨ba, offa + k * 4 + 2, none⟩ = some (.int .i64 xa) ∧ wx.cell? ⟨ba, offa + k * 4 + 3, none⟩ = some (.int .i64 xt) ∧ wx.cell? ⟨bb, offb + k * 4, none⟩ = some (.int .i64 xw) ∧ wx.cell? ⟨bb, offb + k * 4 + 1, none⟩ = some (.int .i64 xc) ∧ wx.cell? ⟨bb, offb + k * 4 + 2, none⟩ = some (.int .i64 xa) ∧ wx.cell? ⟨bb, offb + k * 4 + 3, none⟩ = some (.int .i64 xt) ∧ Below w.heap.size w wx)) (by kernel_rfl) hSd (fun hS0 => ?_)
            clear hSd
            refine wpAnyH_take (i := 0) (oi := { dst := some 17, op := Op.move (Operand.tmp 0), type := 22, pos := "keep.go:210", after := #[], guard := none }) (v := .slice (some ⟨ba, offa, none⟩) la.length capa) rfl (by kernel_rfl) (by kernel_rfl) (by kernel_rfl) (fun _ _ _ h => h) (Or.inl ⟨by rfl, by intro w hSw; go_simp⟩) hS0 ?_
            try simp only [Act.put, List.setIfInBounds_toArray, List.set_cons_zero, List.set_cons_succ]
            refine wpAnyH_take (i := 1) (oi := { dst := some 18, op := Op.move (Operand.tmp 5), type := 3, pos := "keep.go:210", after := #[], guard := none }) (v := .int .i64 k) rfl (by kernel_rfl) (by kernel_rfl) (by kernel_rfl) (fun _ _ _ h => h) (Or.inl ⟨by rfl, by intro w hSw; go_simp⟩) hS0 ?_
            try simp only [Act.put, List.setIfInBounds_toArray, List.set_cons_zero, List.set_cons_succ]
            refine wpAnyH_take (i := 2) (oi := { dst := some 19, op := Op.indexAddr 22 (Operand.tmp 17) (Operand.tmp 18), type := 0, pos := "keep.go:210", after := #[{ on := 0, ground := Ground.data }, { on := 1, ground := Ground.data }], guard := none }) (v := .pointer (some ⟨ba, offa + k * 4, none⟩)) rfl (by kernel_rfl) (by kernel_rfl) (by kernel_rfl) (fun _ _ _ h => h) (Or.inl ⟨by rfl, by intro w hSw; go_simp⟩) hS0 ?_
            try simp only [Act.put, List.setIfInBounds_toArray, List.set_cons_zero, List.set_cons_succ]
            refine wpAnyH_take (i := 3) (oi := { dst := some 20, op := Op.fieldAddr 28 (Operand.tmp 19) 0, type := 0, pos := "keep.go:210", after := #[{ on := 2, ground := Ground.data }], guard := none }) (v := .pointer (some ⟨ba, offa + k * 4, none⟩)) rfl (by kernel_rfl) (by kernel_rfl) (by kernel_rfl) (fun _ _ _ h => h) (Or.inl ⟨by rfl, by intro w hSw; go_simp⟩) hS0 ?_
            try simp only [Act.put, List.setIfInBounds_toArray, List.set_cons_zero, List.set_cons_succ]
            refine wpAnyH_take (i := 4) (oi := { dst := some 21, op := Op.load 26 (Operand.tmp 20), type := 26, pos := "keep.go:210", after := #[{ on := 3, ground := Ground.data }], guard := none }) (v := .agg #[.int .i64 xw, .int .i64 xc, .int .i64 xa]) rfl (by kernel_rfl) (by kernel_rfl) (by kernel_rfl) (fun _ _ _ h => h) (Or.inl ⟨by rfl, by intro w hSw; obtain ⟨h0, h1, h2, h3, g0, g1, g2, g3, _⟩ := hSw; go_simp⟩) hS0 ?_
            try simp only [Act.put, List.setIfInBounds_toArray, List.set_cons_zero, List.set_cons_succ]
            refine wpAnyH_take (i := 5) (oi := { dst := some 22, op := Op.move (Operand.tmp 1), type := 22, pos := "keep.go:210", after := #[], guard := none }) (v := .slice (some ⟨bb, offb, none⟩) lb.length capb) rfl (by kernel_rfl) (by kernel_rfl) (by kernel_rfl) (fun _ _ _ h => h) (Or.inl ⟨by rfl, by intro w hSw; go_simp⟩) hS0 ?_
            try simp only [Act.put, List.setIfInBounds_toArray, List.set_cons_zero, List.set_cons_succ]
            refine wpAnyH_take (i := 6) (oi := { dst := some 23, op := Op.move (Operand.tmp 5), type := 3, pos := "keep.go:210", after := #[], guard := none }) (v := .int .i64 k) rfl (by kernel_rfl) (by kernel_rfl) (by kernel_rfl) (fun _ _ _ h => h) (Or.inl ⟨by rfl, by intro w hSw; go_simp⟩) hS0 ?_
            try simp only [Act.put, List.setIfInBounds_toArray, List.set_cons_zero, List.set_cons_succ]
            refine wpAnyH_take (i := 7) (oi := { dst := some 24, op := Op.indexAddr 22 (Operand.tmp 22) (Operand.tmp 23), type := 0, pos := "keep.go:210", after := #[{ on := 5, ground := Ground.data }, { on := 6, ground := Ground.data }], guard := none }) (v := .pointer (some ⟨bb, offb + k * 4, none⟩)) rfl (by kernel_rfl) (by kernel_rfl) (by kernel_rfl) (fun _ _ _ h => h) (Or.inl ⟨by rfl, by intro w hSw; go_simp⟩) hS0 ?_
            try simp only [Act.put, List.setIfInBounds_toArray, List.set_cons_zero, List.set_cons_succ]
            refine wpAnyH_take (i := 8) (oi := { dst := some 25, op := Op.fieldAddr 28 (Operand.tmp 24) 0, type := 0, pos := "keep.go:210", after := #[{ on := 7, ground := Ground.data }], guard := none }) (v := .pointer (some ⟨bb, offb + k * 4, none⟩)) rfl (by kernel_rfl) (by kernel_rfl) (by kernel_rfl) (fun _ _ _ h => h) (Or.inl ⟨by rfl, by intro w hSw; go_simp⟩) hS0 ?_
            try simp only [Act.put, List.setIfInBounds_toArray, List.set_cons_zero, List.set_cons_succ]
            refine wpAnyH_take (i := 9) (oi := { dst := some 26, op := Op.load 26 (Operand.tmp 25), type := 26, pos := "keep.go:210", after := #[{ on := 8, ground := Ground.data }], guard := none }) (v := .agg #[.int .i64 xw, .int .i64 xc, .int .i64 xa]) rfl (by kernel_rfl) (by kernel_rfl) (by kernel_rfl) (fun _ _ _ h => h) (Or.inl ⟨by rfl, by intro w hSw; obtain ⟨h0, h1, h2, h3, g0, g1, g2, g3, _⟩ := hSw; go_simp⟩) hS0 ?_
            try simp only [Act.put, List.setIfInBounds_toArray, List.set_cons_zero, List.set_cons_succ]
            refine wpAnyH_ready (rs := [10]) (by kernel_rfl) (by simp) ?_
            refine AllReadyH.cons (o := { dst := some 27, op := Op.call { callee := Callee.value (Operand.func 25), args := #[Operand.tmp 21, Operand.tmp 26], argTypes := #[26, 26] }, type := 4, pos := "keep.go:210", after := #[{ on := 4, ground := Ground.data }, { on := 9, ground := Ground.data }], guard := none }) rfl (fun K hK => ?_) AllReadyH.nil
            go_simp
            go_at_call 25
            (with_reducible refine (due _).mono ?_)
            rintro e w1 ⟨rfl, hb1⟩
            have hS1 := keepK hb1 hS0
            clear hb1
            go_simp
            refine hK.out _ _ hS1 (fun _ => ?_)
            clear hK K
            try simp only [Act.put, List.setIfInBounds_toArray, List.set_cons_zero, List.set_cons_succ]
            refine wpAnyH_take (i := 11) (oi := { dst := some 28, op := Op.unOp UnOp.not 4 (Operand.tmp 27), type := 4, pos := "keep.go:210", after := #[{ on := 10, ground := Ground.data }], guard := none }) (v := .bool false) rfl (by kernel_rfl) (by kernel_rfl) (by kernel_rfl) (fun _ _ _ h => h) (Or.inl ⟨by rfl, by intro w hSw; go_simp⟩) hS1 ?_
            try simp only [Act.put, List.setIfInBounds_toArray, List.set_cons_zero, List.set_cons_succ]
            refine wpAnyH_take (i := 12) (oi := { dst := some 29, op := Op.move (Operand.tmp 28), type := 4, pos := "keep.go:210", after := #[{ on := 11, ground := Ground.data }, { on := 10, ground := Ground.chain }], guard := none }) (v := .bool false) rfl (by kernel_rfl) (by kernel_rfl) (by kernel_rfl) (fun _ _ _ h => h) (Or.inl ⟨by rfl, by intro w hSw; go_simp⟩) hS1 ?_
            try simp only [Act.put, List.setIfInBounds_toArray, List.set_cons_zero, List.set_cons_succ]
            refine wpAnyH_take (i := 13) (oi := { dst := some 30, op := Op.move (Operand.tmp 0), type := 22, pos := "keep.go:210", after := #[{ on := 12, ground := Ground.guard }], guard := some (12, false) }) (v := .slice (some ⟨ba, offa, none⟩) la.length capa) rfl (by kernel_rfl) (by kernel_rfl) (by kernel_rfl) (fun _ _ _ h => h) (Or.inl ⟨by rfl, by intro w hSw; go_simp⟩) hS1 ?_
            try simp only [Act.put, List.setIfInBounds_toArray, List.set_cons_zero, List.set_cons_succ]
            refine wpAnyH_take (i := 14) (oi := { dst := some 31, op := Op.move (Operand.tmp 5), type := 3, pos := "keep.go:210", after := #[{ on := 12, ground := Ground.guard }], guard := some (12, false) }) (v := .int .i64 k) rfl (by kernel_rfl) (by kernel_rfl) (by kernel_rfl) (fun _ _ _ h => h) (Or.inl ⟨by rfl, by intro w hSw; go_simp⟩) hS1 ?_
            try simp only [Act.put, List.setIfInBounds_toArray, List.set_cons_zero, List.set_cons_succ]
            refine wpAnyH_take (i := 15) (oi := { dst := some 32, op := Op.indexAddr 22 (Operand.tmp 30) (Operand.tmp 31), type := 0, pos := "keep.go:210", after := #[{ on := 13, ground := Ground.data }, { on := 14, ground := Ground.data }, { on := 12, ground := Ground.guard }], guard := some (12, false) }) (v := .pointer (some ⟨ba, offa + k * 4, none⟩)) rfl (by kernel_rfl) (by kernel_rfl) (by kernel_rfl) (fun _ _ _ h => h) (Or.inl ⟨by rfl, by intro w hSw; go_simp⟩) hS1 ?_
            try simp only [Act.put, List.setIfInBounds_toArray, List.set_cons_zero, List.set_cons_succ]
            refine wpAnyH_take (i := 16) (oi := { dst := some 33, op := Op.fieldAddr 28 (Operand.tmp 32) 1, type := 0, pos := "keep.go:210", after := #[{ on := 15, ground := Ground.data }, { on := 12, ground := Ground.guard }], guard := some (12, false) }) (v := .pointer (some ⟨ba, offa + k * 4 + 3, none⟩)) rfl (by kernel_rfl) (by kernel_rfl) (by kernel_rfl) (fun _ _ _ h => h) (Or.inl ⟨by rfl, by intro w hSw; go_simp⟩) hS1 ?_
            try simp only [Act.put, List.setIfInBounds_toArray, List.set_cons_zero, List.set_cons_succ]
            refine wpAnyH_take (i := 17) (oi := { dst := some 34, op := Op.load 3 (Operand.tmp 33), type := 3, pos := "keep.go:210", after := #[{ on := 16, ground := Ground.data }, { on := 12, ground := Ground.guard }], guard := some (12, false) }) (v := .int .i64 xt) rfl (by kernel_rfl) (by kernel_rfl) (by kernel_rfl) (fun _ _ _ h => h) (Or.inl ⟨by rfl, by intro w hSw; obtain ⟨h0, h1, h2, h3, g0, g1, g2, g3, _⟩ := hSw; go_simp⟩) hS1 ?_
            try simp only [Act.put, List.setIfInBounds_toArray, List.set_cons_zero, List.set_cons_succ]
            refine wpAnyH_take (i := 18) (oi := { dst := some 35, op := Op.move (Operand.tmp 1), type := 22, pos := "keep.go:210", after := #[{ on := 12, ground := Ground.guard }], guard := some (12, false) }) (v := .slice (some ⟨bb, offb, none⟩) lb.length capb) rfl (by kernel_rfl) (by kernel_rfl) (by kernel_rfl) (fun _ _ _ h => h) (Or.inl ⟨by rfl, by intro w hSw; go_simp⟩) hS1 ?_
            try simp only [Act.put, List.setIfInBounds_toArray, List.set_cons_zero, List.set_cons_succ]
            refine wpAnyH_take (i := 19) (oi := { dst := some 36, op := Op.move (Operand.tmp 5), type := 3, pos := "keep.go:210", after := #[{ on := 12, ground := Ground.guard }], guard := some (12, false) }) (v := .int .i64 k) rfl (by kernel_rfl) (by kernel_rfl) (by kernel_rfl) (fun _ _ _ h => h) (Or.inl ⟨by rfl, by intro w hSw; go_simp⟩) hS1 ?_
            try simp only [Act.put, List.setIfInBounds_toArray, List.set_cons_zero, List.set_cons_succ]
            refine wpAnyH_take (i := 20) (oi := { dst := some 37, op := Op.indexAddr 22 (Operand.tmp 35) (Operand.tmp 36), type := 0, pos := "keep.go:210", after := #[{ on := 18, ground := Ground.data }, { on := 19, ground := Ground.data }, { on := 12, ground := Ground.guard }], guard := some (12, false) }) (v := .pointer (some ⟨bb, offb + k * 4, none⟩)) rfl (by kernel_rfl) (by kernel_rfl) (by kernel_rfl) (fun _ _ _ h => h) (Or.inl ⟨by rfl, by intro w hSw; go_simp⟩) hS1 ?_
            try simp only [Act.put, List.setIfInBounds_toArray, List.set_cons_zero, List.set_cons_succ]
            refine wpAnyH_take (i := 21) (oi := { dst := some 38, op := Op.fieldAddr 28 (Operand.tmp 37) 1, type := 0, pos := "keep.go:210", after := #[{ on := 20, ground := Ground.data }, { on := 12, ground := Ground.guard }], guard := some (12, false) }) (v := .pointer (some ⟨bb, offb + k * 4 + 3, none⟩)) rfl (by kernel_rfl) (by kernel_rfl) (by kernel_rfl) (fun _ _ _ h => h) (Or.inl ⟨by rfl, by intro w hSw; go_simp⟩) hS1 ?_
            try simp only [Act.put, List.setIfInBounds_toArray, List.set_cons_zero, List.set_cons_succ]
            refine wpAnyH_take (i := 22) (oi := { dst := some 39, op := Op.load 3 (Operand.tmp 38), type := 3, pos := "keep.go:210", after := #[{ on := 21, ground := Ground.data }, { on := 12, ground := Ground.guard }], guard := some (12, false) }) (v := .int .i64 xt) rfl (by kernel_rfl) (by kernel_rfl) (by kernel_rfl) (fun _ _ _ h => h) (Or.inl ⟨by rfl, by intro w hSw; obtain ⟨h0, h1, h2, h3, g0, g1, g2, g3, _⟩ := hSw; go_simp⟩) hS1 ?_
            try simp only [Act.put, List.setIfInBounds_toArray, List.set_cons_zero, List.set_cons_succ]
            refine wpAnyH_take (i := 23) (oi := { dst := some 40, op := Op.binOp BinOp.neq 3 (Operand.tmp 34) (Operand.tmp 39) 3, type := 4, pos := "keep.go:210", after := #[{ on := 17, ground := Ground.data }, { on := 22, ground := Ground.data }, { on := 12, ground := Ground.guard }], guard := some (12, false) }) (v := .bool false) rfl (by kernel_rfl) (by kernel_rfl) (by kernel_rfl) (fun _ _ _ h => h) (Or.inl ⟨by rfl, by intro w hSw; go_simp⟩) hS1 ?_
            try simp only [Act.put, List.setIfInBounds_toArray, List.set_cons_zero, List.set_cons_succ]
            refine wpAnyH_take (i := 24) (oi := { dst := some 41, op := Op.pick (Operand.tmp 29) (Operand.const (Value.bool true)) (Operand.tmp 40), type := 4, pos := "keep.go:210", after := #[{ on := 12, ground := Ground.data }, { on := 23, ground := Ground.data }], guard := none }) (v := .bool false) rfl (by kernel_rfl) (by kernel_rfl) (by kernel_rfl) (fun _ _ _ h => h) (Or.inl ⟨by rfl, by intro w hSw; go_simp⟩) hS1 ?_
            try simp only [Act.put, List.setIfInBounds_toArray, List.set_cons_zero, List.set_cons_succ]
            refine wpAnyH_done (by kernel_rfl) ?_ _
            have hbe := hS1.2.2.2.2.2.2.2.2
            clear hS0 hS1
            go_wp2_with fail
            exact ⟨⟨k + 1, by omega, by push_cast; rfl, HNX.out (by simp), hbe⟩, by simp [intOf]; omega⟩
          · have HNE := Lib.hid (HNE0.out (fun h => ht h.2.2.2))
            have ht' : (xt != yt) = true := by rw [bne_iff_ne]; exact ht
            clear HNE0 HNX ht
            go_wp2
            refine wp_region_held_drew (S := (fun wx => wx.cell? ⟨ba, offa + k * 4, none⟩ = some (.int .i64 xw) ∧ wx.cell? ⟨ba, offa + k * 4 + 1, none⟩ = some (.int .i64 xc) ∧ wx.cell? ⟨ba, offa + k * 4 + 2, none⟩ = some (.int .i64 xa) ∧ wx.cell? ⟨ba, offa + k * 4 + 3, none⟩ = some (.int .i64 xt) ∧ wx.cell? ⟨bb, offb + k * 4, none⟩ = some (.int .i64 xw) ∧ wx.cell? ⟨bb, offb + k * 4 + 1, none⟩ = some (.int .i64 xc) ∧ wx.cell? ⟨bb, offb + k * 4 + 2, none⟩ = some (.int .i64 xa) ∧ wx.cell? ⟨bb, offb + k * 4 + 3, none⟩ = some (.int .i64 yt) ∧ Below w.heap.size w wx)) (by kernel_rfl) hSd (fun hS0 => ?_)
            clear hSd
            refine wpAnyH_take (i := 0) (oi := { dst := some 17, op := Op.move (Operand.tmp 0), type := 22, pos := "keep.go:210", after := #[], guard := none }) (v := .slice (some ⟨ba, offa, none⟩) la.length capa) rfl (by kernel_rfl) (by kernel_rfl) (by kernel_rfl) (fun _ _ _ h => h) (Or.inl ⟨by rfl, by intro w hSw; go_simp⟩) hS0 ?_
            try simp only [Act.put, List.setIfInBounds_toArray, List.set_cons_zero, List.set_cons_succ]
            refine wpAnyH_take (i := 1) (oi := { dst := some 18, op := Op.move (Operand.tmp 5), type := 3, pos := "keep.go:210", after := #[], guard := none }) (v := .int .i64 k) rfl (by kernel_rfl) (by kernel_rfl) (by kernel_rfl) (fun _ _ _ h => h) (Or.inl ⟨by rfl, by intro w hSw; go_simp⟩) hS0 ?_
            try simp only [Act.put, List.setIfInBounds_toArray, List.set_cons_zero, List.set_cons_succ]
            refine wpAnyH_take (i := 2) (oi := { dst := some 19, op := Op.indexAddr 22 (Operand.tmp 17) (Operand.tmp 18), type := 0, pos := "keep.go:210", after := #[{ on := 0, ground := Ground.data }, { on := 1, ground := Ground.data }], guard := none }) (v := .pointer (some ⟨ba, offa + k * 4, none⟩)) rfl (by kernel_rfl) (by kernel_rfl) (by kernel_rfl) (fun _ _ _ h => h) (Or.inl ⟨by rfl, by intro w hSw; go_simp⟩) hS0 ?_
            try simp only [Act.put, List.setIfInBounds_toArray, List.set_cons_zero, List.set_cons_succ]
            refine wpAnyH_take (i := 3) (oi := { dst := some 20, op := Op.fieldAddr 28 (Operand.tmp 19) 0, type := 0, pos := "keep.go:210", after := #[{ on := 2, ground := Ground.data }], guard := none }) (v := .pointer (some ⟨ba, offa + k * 4, none⟩)) rfl (by kernel_rfl) (by kernel_rfl) (by kernel_rfl) (fun _ _ _ h => h) (Or.inl ⟨by rfl, by intro w hSw; go_simp⟩) hS0 ?_
            try simp only [Act.put, List.setIfInBounds_toArray, List.set_cons_zero, List.set_cons_succ]
            refine wpAnyH_take (i := 4) (oi := { dst := some 21, op := Op.load 26 (Operand.tmp 20), type := 26, pos := "keep.go:210", after := #[{ on := 3, ground := Ground.data }], guard := none }) (v := .agg #[.int .i64 xw, .int .i64 xc, .int .i64 xa]) rfl (by kernel_rfl) (by kernel_rfl) (by kernel_rfl) (fun _ _ _ h => h) (Or.inl ⟨by rfl, by intro w hSw; obtain ⟨h0, h1, h2, h3, g0, g1, g2, g3, _⟩ := hSw; go_simp⟩) hS0 ?_
            try simp only [Act.put, List.setIfInBounds_toArray, List.set_cons_zero, List.set_cons_succ]
            refine wpAnyH_take (i := 5) (oi := { dst := some 22, op := Op.move (Operand.tmp 1), type := 22, pos := "keep.go:210", after := #[], guard := none }) (v := .slice (some ⟨bb, offb, none⟩) lb.length capb) rfl (by kernel_rfl) (by kernel_rfl) (by kernel_rfl) (fun _ _ _ h => h) (Or.inl ⟨by rfl, by intro w hSw; go_simp⟩) hS0 ?_
            try simp only [Act.put, List.setIfInBounds_toArray, List.set_cons_zero, List.set_cons_succ]
            refine wpAnyH_take (i := 6) (oi := { dst := some 23, op := Op.move (Operand.tmp 5), type := 3, pos := "keep.go:210", after := #[], guard := none }) (v := .int .i64 k) rfl (by kernel_rfl) (by kernel_rfl) (by kernel_rfl) (fun _ _ _ h => h) (Or.inl ⟨by rfl, by intro w hSw; go_simp⟩) hS0 ?_
            try simp only [Act.put, List.setIfInBounds_toArray, List.set_cons_zero, List.set_cons_succ]
            refine wpAnyH_take (i := 7) (oi := { dst := some 24, op := Op.indexAddr 22 (Operand.tmp 22) (Operand.tmp 23), type := 0, pos := "keep.go:210", after := #[{ on := 5, ground := Ground.data }, { on := 6, ground := Ground.data }], guard := none }) (v := .pointer (some ⟨bb, offb + k * 4, none⟩)) rfl (by kernel_rfl) (by kernel_rfl) (by kernel_rfl) (fun _ _ _ h => h) (Or.inl ⟨by rfl, by intro w hSw; go_simp⟩) hS0 ?_
            try simp only [Act.put, List.setIfInBounds_toArray, List.set_cons_zero, List.set_cons_succ]
            refine wpAnyH_take (i := 8) (oi := { dst := some 25, op := Op.fieldAddr 28 (Operand.tmp 24) 0, type := 0, pos := "keep.go:210", after := #[{ on := 7, ground := Ground.data }], guard := none }) (v := .pointer (some ⟨bb, offb + k * 4, none⟩)) rfl (by kernel_rfl) (by kernel_rfl) (by kernel_rfl) (fun _ _ _ h => h) (Or.inl ⟨by rfl, by intro w hSw; go_simp⟩) hS0 ?_
            try simp only [Act.put, List.setIfInBounds_toArray, List.set_cons_zero, List.set_cons_succ]
            refine wpAnyH_take (i := 9) (oi := { dst := some 26, op := Op.load 26 (Operand.tmp 25), type := 26, pos := "keep.go:210", after := #[{ on := 8, ground := Ground.data }], guard := none }) (v := .agg #[.int .i64 xw, .int .i64 xc, .int .i64 xa]) rfl (by kernel_rfl) (by kernel_rfl) (by kernel_rfl) (fun _ _ _ h => h) (Or.inl ⟨by rfl, by intro w hSw; obtain ⟨h0, h1, h2, h3, g0, g1, g2, g3, _⟩ := hSw; go_simp⟩) hS0 ?_
            try simp only [Act.put, List.setIfInBounds_toArray, List.set_cons_zero, List.set_cons_succ]
            refine wpAnyH_ready (rs := [10]) (by kernel_rfl) (by simp) ?_
            refine AllReadyH.cons (o := { dst := some 27, op := Op.call { callee := Callee.value (Operand.func 25), args := #[Operand.tmp 21, Operand.tmp 26], argTypes := #[26, 26] }, type := 4, pos := "keep.go:210", after := #[{ on := 4, ground := Ground.data }, { on := 9, ground := Ground.data }], guard := none }) rfl (fun K hK => ?_) AllReadyH.nil
            go_simp
            go_at_call 25
            (with_reducible refine (due _).mono ?_)
            rintro e w1 ⟨rfl, hb1⟩
            have hS1 := keepK hb1 hS0
            clear hb1
            go_simp
            refine hK.out _ _ hS1 (fun _ => ?_)
            clear hK K
            try simp only [Act.put, List.setIfInBounds_toArray, List.set_cons_zero, List.set_cons_succ]
            refine wpAnyH_take (i := 11) (oi := { dst := some 28, op := Op.unOp UnOp.not 4 (Operand.tmp 27), type := 4, pos := "keep.go:210", after := #[{ on := 10, ground := Ground.data }], guard := none }) (v := .bool false) rfl (by kernel_rfl) (by kernel_rfl) (by kernel_rfl) (fun _ _ _ h => h) (Or.inl ⟨by rfl, by intro w hSw; go_simp⟩) hS1 ?_
            try simp only [Act.put, List.setIfInBounds_toArray, List.set_cons_zero, List.set_cons_succ]
            refine wpAnyH_take (i := 12) (oi := { dst := some 29, op := Op.move (Operand.tmp 28), type := 4, pos := "keep.go:210", after := #[{ on := 11, ground := Ground.data }, { on := 10, ground := Ground.chain }], guard := none }) (v := .bool false) rfl (by kernel_rfl) (by kernel_rfl) (by kernel_rfl) (fun _ _ _ h => h) (Or.inl ⟨by rfl, by intro w hSw; go_simp⟩) hS1 ?_
            try simp only [Act.put, List.setIfInBounds_toArray, List.set_cons_zero, List.set_cons_succ]
            refine wpAnyH_take (i := 13) (oi := { dst := some 30, op := Op.move (Operand.tmp 0), type := 22, pos := "keep.go:210", after := #[{ on := 12, ground := Ground.guard }], guard := some (12, false) }) (v := .slice (some ⟨ba, offa, none⟩) la.length capa) rfl (by kernel_rfl) (by kernel_rfl) (by kernel_rfl) (fun _ _ _ h => h) (Or.inl ⟨by rfl, by intro w hSw; go_simp⟩) hS1 ?_
            try simp only [Act.put, List.setIfInBounds_toArray, List.set_cons_zero, List.set_cons_succ]
            refine wpAnyH_take (i := 14) (oi := { dst := some 31, op := Op.move (Operand.tmp 5), type := 3, pos := "keep.go:210", after := #[{ on := 12, ground := Ground.guard }], guard := some (12, false) }) (v := .int .i64 k) rfl (by kernel_rfl) (by kernel_rfl) (by kernel_rfl) (fun _ _ _ h => h) (Or.inl ⟨by rfl, by intro w hSw; go_simp⟩) hS1 ?_
            try simp only [Act.put, List.setIfInBounds_toArray, List.set_cons_zero, List.set_cons_succ]
            refine wpAnyH_take (i := 15) (oi := { dst := some 32, op := Op.indexAddr 22 (Operand.tmp 30) (Operand.tmp 31), type := 0, pos := "keep.go:210", after := #[{ on := 13, ground := Ground.data }, { on := 14, ground := Ground.data }, { on := 12, ground := Ground.guard }], guard := some (12, false) }) (v := .pointer (some ⟨ba, offa + k * 4, none⟩)) rfl (by kernel_rfl) (by kernel_rfl) (by kernel_rfl) (fun _ _ _ h => h) (Or.inl ⟨by rfl, by intro w hSw; go_simp⟩) hS1 ?_
            try simp only [Act.put, List.setIfInBounds_toArray, List.set_cons_zero, List.set_cons_succ]
            refine wpAnyH_take (i := 16) (oi := { dst := some 33, op := Op.fieldAddr 28 (Operand.tmp 32) 1, type := 0, pos := "keep.go:210", after := #[{ on := 15, ground := Ground.data }, { on := 12, ground := Ground.guard }], guard := some (12, false) }) (v := .pointer (some ⟨ba, offa + k * 4 + 3, none⟩)) rfl (by kernel_rfl) (by kernel_rfl) (by kernel_rfl) (fun _ _ _ h => h) (Or.inl ⟨by rfl, by intro w hSw; go_simp⟩) hS1 ?_
            try simp only [Act.put, List.setIfInBounds_toArray, List.set_cons_zero, List.set_cons_succ]
            refine wpAnyH_take (i := 17) (oi := { dst := some 34, op := Op.load 3 (Operand.tmp 33), type := 3, pos := "keep.go:210", after := #[{ on := 16, ground := Ground.data }, { on := 12, ground := Ground.guard }], guard := some (12, false) }) (v := .int .i64 xt) rfl (by kernel_rfl) (by kernel_rfl) (by kernel_rfl) (fun _ _ _ h => h) (Or.inl ⟨by rfl, by intro w hSw; obtain ⟨h0, h1, h2, h3, g0, g1, g2, g3, _⟩ := hSw; go_simp⟩) hS1 ?_
            try simp only [Act.put, List.setIfInBounds_toArray, List.set_cons_zero, List.set_cons_succ]
            refine wpAnyH_take (i := 18) (oi := { dst := some 35, op := Op.move (Operand.tmp 1), type := 22, pos := "keep.go:210", after := #[{ on := 12, ground := Ground.guard }], guard := some (12, false) }) (v := .slice (some ⟨bb, offb, none⟩) lb.length capb) rfl (by kernel_rfl) (by kernel_rfl) (by kernel_rfl) (fun _ _ _ h => h) (Or.inl ⟨by rfl, by intro w hSw; go_simp⟩) hS1 ?_
            try simp only [Act.put, List.setIfInBounds_toArray, List.set_cons_zero, List.set_cons_succ]
            refine wpAnyH_take (i := 19) (oi := { dst := some 36, op := Op.move (Operand.tmp 5), type := 3, pos := "keep.go:210", after := #[{ on := 12, ground := Ground.guard }], guard := some (12, false) }) (v := .int .i64 k) rfl (by kernel_rfl) (by kernel_rfl) (by kernel_rfl) (fun _ _ _ h => h) (Or.inl ⟨by rfl, by intro w hSw; go_simp⟩) hS1 ?_
            try simp only [Act.put, List.setIfInBounds_toArray, List.set_cons_zero, List.set_cons_succ]
            refine wpAnyH_take (i := 20) (oi := { dst := some 37, op := Op.indexAddr 22 (Operand.tmp 35) (Operand.tmp 36), type := 0, pos := "keep.go:210", after := #[{ on := 18, ground := Ground.data }, { on := 19, ground := Ground.data }, { on := 12, ground := Ground.guard }], guard := some (12, false) }) (v := .pointer (some ⟨bb, offb + k * 4, none⟩)) rfl (by kernel_rfl) (by kernel_rfl) (by kernel_rfl) (fun _ _ _ h => h) (Or.inl ⟨by rfl, by intro w hSw; go_simp⟩) hS1 ?_
            try simp only [Act.put, List.setIfInBounds_toArray, List.set_cons_zero, List.set_cons_succ]
            refine wpAnyH_take (i := 21) (oi := { dst := some 38, op := Op.fieldAddr 28 (Operand.tmp 37) 1, type := 0, pos := "keep.go:210", after := #[{ on := 20, ground := Ground.data }, { on := 12, ground := Ground.guard }], guard := some (12, false) }) (v := .pointer (some ⟨bb, offb + k * 4 + 3, none⟩)) rfl (by kernel_rfl) (by kernel_rfl) (by kernel_rfl) (fun _ _ _ h => h) (Or.inl ⟨by rfl, by intro w hSw; go_simp⟩) hS1 ?_
            try simp only [Act.put, List.setIfInBounds_toArray, List.set_cons_zero, List.set_cons_succ]
            refine wpAnyH_take (i := 22) (oi := { dst := some 39, op := Op.load 3 (Operand.tmp 38), type := 3, pos := "keep.go:210", after := #[{ on := 21, ground := Ground.data }, { on := 12, ground := Ground.guard }], guard := some (12, false) }) (v := .int .i64 yt) rfl (by kernel_rfl) (by kernel_rfl) (by kernel_rfl) (fun _ _ _ h => h) (Or.inl ⟨by rfl, by intro w hSw; obtain ⟨h0, h1, h2, h3, g0, g1, g2, g3, _⟩ := hSw; go_simp⟩) hS1 ?_
            try simp only [Act.put, List.setIfInBounds_toArray, List.set_cons_zero, List.set_cons_succ]
            refine wpAnyH_take (i := 23) (oi := { dst := some 40, op := Op.binOp BinOp.neq 3 (Operand.tmp 34) (Operand.tmp 39) 3, type := 4, pos := "keep.go:210", after := #[{ on := 17, ground := Ground.data }, { on := 22, ground := Ground.data }, { on := 12, ground := Ground.guard }], guard := some (12, false) }) (v := .bool true) rfl (by kernel_rfl) (by kernel_rfl) (by kernel_rfl) (fun _ _ _ h => h) (Or.inl ⟨by rfl, by intro w hSw; go_simp⟩) hS1 ?_
            try simp only [Act.put, List.setIfInBounds_toArray, List.set_cons_zero, List.set_cons_succ]
            refine wpAnyH_take (i := 24) (oi := { dst := some 41, op := Op.pick (Operand.tmp 29) (Operand.const (Value.bool true)) (Operand.tmp 40), type := 4, pos := "keep.go:210", after := #[{ on := 12, ground := Ground.data }, { on := 23, ground := Ground.data }], guard := none }) (v := .bool true) rfl (by kernel_rfl) (by kernel_rfl) (by kernel_rfl) (fun _ _ _ h => h) (Or.inl ⟨by rfl, by intro w hSw; go_simp⟩) hS1 ?_
            try simp only [Act.put, List.setIfInBounds_toArray, List.set_cons_zero, List.set_cons_succ]
            refine wpAnyH_done (by kernel_rfl) ?_ _
            have hbe := hS1.2.2.2.2.2.2.2.2
            clear hS0 hS1
            go_wp2_with fail
            go_ret
            exact ⟨by rw [decide_eq_false HNE.out]; rfl, hbe⟩
        · rw [show dEq xw xc xa yw yc ya = false from decide_eq_false hd] at due
          have HNE := Lib.hid (HNE0.out (fun h => hd ⟨h.1, h.2.1, h.2.2.1⟩))
          clear HNE0 HNX hd
          go_wp2
          refine wp_region_held_drew (S := (fun wx => wx.cell? ⟨ba, offa + k * 4, none⟩ = some (.int .i64 xw) ∧ wx.cell? ⟨ba, offa + k * 4 + 1, none⟩ = some (.int .i64 xc) ∧ wx.cell? ⟨ba, offa + k * 4 + 2, none⟩ = some (.int .i64 xa) ∧ wx.cell? ⟨ba, offa + k * 4 + 3, none⟩ = some (.int .i64 xt) ∧ wx.cell? ⟨bb, offb + k * 4, none⟩ = some (.int .i64 yw) ∧ wx.cell? ⟨bb, offb + k * 4 + 1, none⟩ = some (.int .i64 yc) ∧ wx.cell? ⟨bb, offb + k * 4 + 2, none⟩ = some (.int .i64 ya) ∧ wx.cell? ⟨bb, offb + k * 4 + 3, none⟩ = some (.int .i64 yt) ∧ Below w.heap.size w wx)) (by kernel_rfl) hSd (fun hS0 => ?_)
          clear hSd
          refine wpAnyH_take (i := 0) (oi := { dst := some 17, op := Op.move (Operand.tmp 0), type := 22, pos := "keep.go:210", after := #[], guard := none }) (v := .slice (some ⟨ba, offa, none⟩) la.length capa) rfl (by kernel_rfl) (by kernel_rfl) (by kernel_rfl) (fun _ _ _ h => h) (Or.inl ⟨by rfl, by intro w hSw; go_simp⟩) hS0 ?_
          try simp only [Act.put, List.setIfInBounds_toArray, List.set_cons_zero, List.set_cons_succ]
          refine wpAnyH_take (i := 1) (oi := { dst := some 18, op := Op.move (Operand.tmp 5), type := 3, pos := "keep.go:210", after := #[], guard := none }) (v := .int .i64 k) rfl (by kernel_rfl) (by kernel_rfl) (by kernel_rfl) (fun _ _ _ h => h) (Or.inl ⟨by rfl, by intro w hSw; go_simp⟩) hS0 ?_
          try simp only [Act.put, List.setIfInBounds_toArray, List.set_cons_zero, List.set_cons_succ]
          refine wpAnyH_take (i := 2) (oi := { dst := some 19, op := Op.indexAddr 22 (Operand.tmp 17) (Operand.tmp 18), type := 0, pos := "keep.go:210", after := #[{ on := 0, ground := Ground.data }, { on := 1, ground := Ground.data }], guard := none }) (v := .pointer (some ⟨ba, offa + k * 4, none⟩)) rfl (by kernel_rfl) (by kernel_rfl) (by kernel_rfl) (fun _ _ _ h => h) (Or.inl ⟨by rfl, by intro w hSw; go_simp⟩) hS0 ?_
          try simp only [Act.put, List.setIfInBounds_toArray, List.set_cons_zero, List.set_cons_succ]
          refine wpAnyH_take (i := 3) (oi := { dst := some 20, op := Op.fieldAddr 28 (Operand.tmp 19) 0, type := 0, pos := "keep.go:210", after := #[{ on := 2, ground := Ground.data }], guard := none }) (v := .pointer (some ⟨ba, offa + k * 4, none⟩)) rfl (by kernel_rfl) (by kernel_rfl) (by kernel_rfl) (fun _ _ _ h => h) (Or.inl ⟨by rfl, by intro w hSw; go_simp⟩) hS0 ?_
          try simp only [Act.put, List.setIfInBounds_toArray, List.set_cons_zero, List.set_cons_succ]
          refine wpAnyH_take (i := 4) (oi := { dst := some 21, op := Op.load 26 (Operand.tmp 20), type := 26, pos := "keep.go:210", after := #[{ on := 3, ground := Ground.data }], guard := none }) (v := .agg #[.int .i64 xw, .int .i64 xc, .int .i64 xa]) rfl (by kernel_rfl) (by kernel_rfl) (by kernel_rfl) (fun _ _ _ h => h) (Or.inl ⟨by rfl, by intro w hSw; obtain ⟨h0, h1, h2, h3, g0, g1, g2, g3, _⟩ := hSw; go_simp⟩) hS0 ?_
          try simp only [Act.put, List.setIfInBounds_toArray, List.set_cons_zero, List.set_cons_succ]
          refine wpAnyH_take (i := 5) (oi := { dst := some 22, op := Op.move (Operand.tmp 1), type := 22, pos := "keep.go:210", after := #[], guard := none }) (v := .slice (some ⟨bb, offb, none⟩) lb.length capb) rfl (by kernel_rfl) (by kernel_rfl) (by kernel_rfl) (fun _ _ _ h => h) (Or.inl ⟨by rfl, by intro w hSw; go_simp⟩) hS0 ?_
          try simp only [Act.put, List.setIfInBounds_toArray, List.set_cons_zero, List.set_cons_succ]
          refine wpAnyH_take (i := 6) (oi := { dst := some 23, op := Op.move (Operand.tmp 5), type := 3, pos := "keep.go:210", after := #[], guard := none }) (v := .int .i64 k) rfl (by kernel_rfl) (by kernel_rfl) (by kernel_rfl) (fun _ _ _ h => h) (Or.inl ⟨by rfl, by intro w hSw; go_simp⟩) hS0 ?_
          try simp only [Act.put, List.setIfInBounds_toArray, List.set_cons_zero, List.set_cons_succ]
          refine wpAnyH_take (i := 7) (oi := { dst := some 24, op := Op.indexAddr 22 (Operand.tmp 22) (Operand.tmp 23), type := 0, pos := "keep.go:210", after := #[{ on := 5, ground := Ground.data }, { on := 6, ground := Ground.data }], guard := none }) (v := .pointer (some ⟨bb, offb + k * 4, none⟩)) rfl (by kernel_rfl) (by kernel_rfl) (by kernel_rfl) (fun _ _ _ h => h) (Or.inl ⟨by rfl, by intro w hSw; go_simp⟩) hS0 ?_
          try simp only [Act.put, List.setIfInBounds_toArray, List.set_cons_zero, List.set_cons_succ]
          refine wpAnyH_take (i := 8) (oi := { dst := some 25, op := Op.fieldAddr 28 (Operand.tmp 24) 0, type := 0, pos := "keep.go:210", after := #[{ on := 7, ground := Ground.data }], guard := none }) (v := .pointer (some ⟨bb, offb + k * 4, none⟩)) rfl (by kernel_rfl) (by kernel_rfl) (by kernel_rfl) (fun _ _ _ h => h) (Or.inl ⟨by rfl, by intro w hSw; go_simp⟩) hS0 ?_
          try simp only [Act.put, List.setIfInBounds_toArray, List.set_cons_zero, List.set_cons_succ]
          refine wpAnyH_take (i := 9) (oi := { dst := some 26, op := Op.load 26 (Operand.tmp 25), type := 26, pos := "keep.go:210", after := #[{ on := 8, ground := Ground.data }], guard := none }) (v := .agg #[.int .i64 yw, .int .i64 yc, .int .i64 ya]) rfl (by kernel_rfl) (by kernel_rfl) (by kernel_rfl) (fun _ _ _ h => h) (Or.inl ⟨by rfl, by intro w hSw; obtain ⟨h0, h1, h2, h3, g0, g1, g2, g3, _⟩ := hSw; go_simp⟩) hS0 ?_
          try simp only [Act.put, List.setIfInBounds_toArray, List.set_cons_zero, List.set_cons_succ]
          refine wpAnyH_ready (rs := [10]) (by kernel_rfl) (by simp) ?_
          refine AllReadyH.cons (o := { dst := some 27, op := Op.call { callee := Callee.value (Operand.func 25), args := #[Operand.tmp 21, Operand.tmp 26], argTypes := #[26, 26] }, type := 4, pos := "keep.go:210", after := #[{ on := 4, ground := Ground.data }, { on := 9, ground := Ground.data }], guard := none }) rfl (fun K hK => ?_) AllReadyH.nil
          go_simp
          go_at_call 25
          (with_reducible refine (due _).mono ?_)
          rintro e w1 ⟨rfl, hb1⟩
          have hS1 := keepK hb1 hS0
          clear hb1
          go_simp
          refine hK.out _ _ hS1 (fun _ => ?_)
          clear hK K
          try simp only [Act.put, List.setIfInBounds_toArray, List.set_cons_zero, List.set_cons_succ]
          refine wpAnyH_take (i := 11) (oi := { dst := some 28, op := Op.unOp UnOp.not 4 (Operand.tmp 27), type := 4, pos := "keep.go:210", after := #[{ on := 10, ground := Ground.data }], guard := none }) (v := .bool true) rfl (by kernel_rfl) (by kernel_rfl) (by kernel_rfl) (fun _ _ _ h => h) (Or.inl ⟨by rfl, by intro w hSw; go_simp⟩) hS1 ?_
          try simp only [Act.put, List.setIfInBounds_toArray, List.set_cons_zero, List.set_cons_succ]
          refine wpAnyH_take (i := 12) (oi := { dst := some 29, op := Op.move (Operand.tmp 28), type := 4, pos := "keep.go:210", after := #[{ on := 11, ground := Ground.data }, { on := 10, ground := Ground.chain }], guard := none }) (v := .bool true) rfl (by kernel_rfl) (by kernel_rfl) (by kernel_rfl) (fun _ _ _ h => h) (Or.inl ⟨by rfl, by intro w hSw; go_simp⟩) hS1 ?_
          try simp only [Act.put, List.setIfInBounds_toArray, List.set_cons_zero, List.set_cons_succ]
          refine wpAnyH_take (i := 13) (oi := { dst := some 30, op := Op.move (Operand.tmp 0), type := 22, pos := "keep.go:210", after := #[{ on := 12, ground := Ground.guard }], guard := some (12, false) }) (v := undef) rfl (by kernel_rfl) (by kernel_rfl) (by kernel_rfl) (fun _ _ _ h => h) (Or.inr ⟨by rfl, rfl⟩) hS1 ?_
          try simp only [Act.put, List.setIfInBounds_toArray, List.set_cons_zero, List.set_cons_succ]
          refine wpAnyH_take (i := 14) (oi := { dst := some 31, op := Op.move (Operand.tmp 5), type := 3, pos := "keep.go:210", after := #[{ on := 12, ground := Ground.guard }], guard := some (12, false) }) (v := undef) rfl (by kernel_rfl) (by kernel_rfl) (by kernel_rfl) (fun _ _ _ h => h) (Or.inr ⟨by rfl, rfl⟩) hS1 ?_
          try simp only [Act.put, List.setIfInBounds_toArray, List.set_cons_zero, List.set_cons_succ]
          refine wpAnyH_take (i := 15) (oi := { dst := some 32, op := Op.indexAddr 22 (Operand.tmp 30) (Operand.tmp 31), type := 0, pos := "keep.go:210", after := #[{ on := 13, ground := Ground.data }, { on := 14, ground := Ground.data }, { on := 12, ground := Ground.guard }], guard := some (12, false) }) (v := undef) rfl (by kernel_rfl) (by kernel_rfl) (by kernel_rfl) (fun _ _ _ h => h) (Or.inr ⟨by rfl, rfl⟩) hS1 ?_
          try simp only [Act.put, List.setIfInBounds_toArray, List.set_cons_zero, List.set_cons_succ]
          refine wpAnyH_take (i := 16) (oi := { dst := some 33, op := Op.fieldAddr 28 (Operand.tmp 32) 1, type := 0, pos := "keep.go:210", after := #[{ on := 15, ground := Ground.data }, { on := 12, ground := Ground.guard }], guard := some (12, false) }) (v := undef) rfl (by kernel_rfl) (by kernel_rfl) (by kernel_rfl) (fun _ _ _ h => h) (Or.inr ⟨by rfl, rfl⟩) hS1 ?_
          try simp only [Act.put, List.setIfInBounds_toArray, List.set_cons_zero, List.set_cons_succ]
          refine wpAnyH_take (i := 17) (oi := { dst := some 34, op := Op.load 3 (Operand.tmp 33), type := 3, pos := "keep.go:210", after := #[{ on := 16, ground := Ground.data }, { on := 12, ground := Ground.guard }], guard := some (12, false) }) (v := undef) rfl (by kernel_rfl) (by kernel_rfl) (by kernel_rfl) (fun _ _ _ h => h) (Or.inr ⟨by rfl, rfl⟩) hS1 ?_
          try simp only [Act.put, List.setIfInBounds_toArray, List.set_cons_zero, List.set_cons_succ]
          refine wpAnyH_take (i := 18) (oi := { dst := some 35, op := Op.move (Operand.tmp 1), type := 22, pos := "keep.go:210", after := #[{ on := 12, ground := Ground.guard }], guard := some (12, false) }) (v := undef) rfl (by kernel_rfl) (by kernel_rfl) (by kernel_rfl) (fun _ _ _ h => h) (Or.inr ⟨by rfl, rfl⟩) hS1 ?_
          try simp only [Act.put, List.setIfInBounds_toArray, List.set_cons_zero, List.set_cons_succ]
          refine wpAnyH_take (i := 19) (oi := { dst := some 36, op := Op.move (Operand.tmp 5), type := 3, pos := "keep.go:210", after := #[{ on := 12, ground := Ground.guard }], guard := some (12, false) }) (v := undef) rfl (by kernel_rfl) (by kernel_rfl) (by kernel_rfl) (fun _ _ _ h => h) (Or.inr ⟨by rfl, rfl⟩) hS1 ?_
          try simp only [Act.put, List.setIfInBounds_toArray, List.set_cons_zero, List.set_cons_succ]
          refine wpAnyH_take (i := 20) (oi := { dst := some 37, op := Op.indexAddr 22 (Operand.tmp 35) (Operand.tmp 36), type := 0, pos := "keep.go:210", after := #[{ on := 18, ground := Ground.data }, { on := 19, ground := Ground.data }, { on := 12, ground := Ground.guard }], guard := some (12, false) }) (v := undef) rfl (by kernel_rfl) (by kernel_rfl) (by kernel_rfl) (fun _ _ _ h => h) (Or.inr ⟨by rfl, rfl⟩) hS1 ?_
          try simp only [Act.put, List.setIfInBounds_toArray, List.set_cons_zero, List.set_cons_succ]
          refine wpAnyH_take (i := 21) (oi := { dst := some 38, op := Op.fieldAddr 28 (Operand.tmp 37) 1, type := 0, pos := "keep.go:210", after := #[{ on := 20, ground := Ground.data }, { on := 12, ground := Ground.guard }], guard := some (12, false) }) (v := undef) rfl (by kernel_rfl) (by kernel_rfl) (by kernel_rfl) (fun _ _ _ h => h) (Or.inr ⟨by rfl, rfl⟩) hS1 ?_
          try simp only [Act.put, List.setIfInBounds_toArray, List.set_cons_zero, List.set_cons_succ]
          refine wpAnyH_take (i := 22) (oi := { dst := some 39, op := Op.load 3 (Operand.tmp 38), type := 3, pos := "keep.go:210", after := #[{ on := 21, ground := Ground.data }, { on := 12, ground := Ground.guard }], guard := some (12, false) }) (v := undef) rfl (by kernel_rfl) (by kernel_rfl) (by kernel_rfl) (fun _ _ _ h => h) (Or.inr ⟨by rfl, rfl⟩) hS1 ?_
          try simp only [Act.put, List.setIfInBounds_toArray, List.set_cons_zero, List.set_cons_succ]
          refine wpAnyH_take (i := 23) (oi := { dst := some 40, op := Op.binOp BinOp.neq 3 (Operand.tmp 34) (Operand.tmp 39) 3, type := 4, pos := "keep.go:210", after := #[{ on := 17, ground := Ground.data }, { on := 22, ground := Ground.data }, { on := 12, ground := Ground.guard }], guard := some (12, false) }) (v := undef) rfl (by kernel_rfl) (by kernel_rfl) (by kernel_rfl) (fun _ _ _ h => h) (Or.inr ⟨by rfl, rfl⟩) hS1 ?_
          try simp only [Act.put, List.setIfInBounds_toArray, List.set_cons_zero, List.set_cons_succ]
          refine wpAnyH_take (i := 24) (oi := { dst := some 41, op := Op.pick (Operand.tmp 29) (Operand.const (Value.bool true)) (Operand.tmp 40), type := 4, pos := "keep.go:210", after := #[{ on := 12, ground := Ground.data }, { on := 23, ground := Ground.data }], guard := none }) (v := .bool true) rfl (by kernel_rfl) (by kernel_rfl) (by kernel_rfl) (fun _ _ _ h => h) (Or.inl ⟨by rfl, by intro w hSw; go_simp⟩) hS1 ?_
          try simp only [Act.put, List.setIfInBounds_toArray, List.set_cons_zero, List.set_cons_succ]
          refine wpAnyH_done (by kernel_rfl) ?_ _
          have hbe := hS1.2.2.2.2.2.2.2.2
          clear hS0 hS1
          go_wp2_with fail
          go_ret
          exact ⟨by rw [decide_eq_false HNE.out]; rfl, hbe⟩
      · have hall : la = lb := by
          have := Heq.out
          rwa [List.take_of_length_le (by omega), List.take_of_length_le (by rw [← Hl.out]; omega)] at this
        have Hall := Lib.hid hall
        clear hall
        go_wp2
        go_ret
        exact ⟨by rw [decide_eq_true Hall.out]; rfl, hbel⟩
  · have hl' : ((la.length : Int) != (lb.length : Int)) = true := by rw [bne_iff_ne]; omega
    have hne : la ≠ lb := fun e => hl (by rw [e])
    go_enter Try.func9, Try.ntmps9
    go_wp2
    go_ret
    exact ⟨by rw [decide_eq_false hne]; rfl, Below.refl _ _⟩

end Cam
