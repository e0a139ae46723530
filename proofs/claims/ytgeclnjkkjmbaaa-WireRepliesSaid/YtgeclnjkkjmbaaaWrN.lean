import Derived.Test.YtgeclnjkkjmbaaaWrL
import Derived.Test.YtgeclnjkkjmbaaaWrE
import Derived.Deep.MidRow
/- cambistlaw24: wakes, WireCmds. -/
namespace Cam
open Go Go.RowKit Go.Proofs

theorem eff_load_mid {P : Program} {op : Oper} {a : Act} {w : World} (ty : TypeId) (x : Operand) (ho : op.op = .load ty x)
    (b o : Nat) (hx : a.eval x = .pointer (some ⟨b, o, none⟩)) (cs : List Value) (d : TypeDesc) (hc : w.rangeAt b o cs)
    (hu : P.underlying ty = some d) (hd : d.isRow = true) (hi : (P.info? ty).map (·.size) = some cs.length) : EffR P (.agg cs.toArray) w ((execOp a.eval op).run P w) :=
  EffR.same (by
    unfold execOp
    simp only [ho, hx, Instr.loadAt, Instr.sureAddr, Sem.run_bind, Sem.run_pure, Result.andThen_ok, run_loadVar_mid w b o ty cs d hc hu hd hi])
def WK : List UInt8 := [0, 0, 6, 0, 0, 0, 0, 0, 0, 0, 0, 0, 0, 0, 0, 0, 0]
theorem wk_enc : encIs [0, 0, 3, 0, 0, 0, 0, 0, 0, 0, 0, 0, 0, 0, 0, 0, 0] = WK := by decide +kernel
theorem wk_read : (readC WK).1.getD 2 0 = 3 := by decide +kernel
theorem bgo {w w1 w2 : World} {g g2 : Nat} (h : Below g w w1) (h2 : Below g2 w1 w2) (hg : g ≤ g2) : Below g w w2 := h.trans (h2.mono hg)
set_option maxRecDepth 100000 in
theorem wakes_any (w : World) : Calls Try.prog 16 #[] w fun e w' => e = .returned (.bool true) ∧ Below w.heap.size w w' := by
  have wc := Cmd_any w 0 0 3 0 0 0 0 0 0 0 0 0 0 0 0 0 0 (by intro n hn; simp at hn; omega)
  rw [wk_enc] at wc
  go_enter Try.func16, Try.ntmps16
  go_wp2_with fail
  refine wc.mono ?_
  clear wc
  rintro e w1 ⟨v, rfl, hown, hb⟩
  obtain ⟨a, cap, rfl, _, _⟩ := hown.bs.shape
  obtain ⟨b, off, rfl, _, hcell⟩ := hown.bs.at (by decide)
  have hc2 : w1.cell? ⟨b, off + 2, none⟩ = some (.int .u8 6) := hcell 2 (by decide)
  have kd := Kind_any w1 _ WK hown.bs (by decide)
  rw [wk_read] at kd
  have HBB := Lib.hid hb
  rw [show WK.length = 17 from rfl] at kd ⊢
  clear hcell hown hb
  go_wp2_with fail
  refine kd.mono ?_
  clear kd
  rintro e w2 ⟨rfl, hb2⟩
  go_wp2_with fail
  go_ret
  exact ⟨rfl, HBB.out.next hb2⟩

theorem ivs_lit (L : List Int) (h : L.length = 17) : ∃ z0 z1 z2 z3 z4 z5 z6 z7 z8 z9 z10 z11 z12 z13 z14 z15 z16, L = [z0, z1, z2, z3, z4, z5, z6, z7, z8, z9, z10, z11, z12, z13, z14, z15, z16] := by
  match L, h with
  | [z0, z1, z2, z3, z4, z5, z6, z7, z8, z9, z10, z11, z12, z13, z14, z15, z16], _ => exact ⟨z0, z1, z2, z3, z4, z5, z6, z7, z8, z9, z10, z11, z12, z13, z14, z15, z16, rfl⟩
theorem readC_two (l : List UInt8) : (readC l).2 = 0 ∨ (readC l).2 = 6 := by
  unfold readC
  split
  · exact .inr rfl
  · split
    · exact .inl rfl
    · exact .inr rfl
set_option maxRecDepth 100000 in
set_option maxHeartbeats 3200000 in
theorem WireCmds_walk (w : World) (x0 x1 x2 x3 x4 x5 x6 x7 x8 x9 x10 x11 x12 x13 x14 x15 x16 : Int) (hr : ∀ n ∈ [x0, x1, x2, x3, x4, x5, x6, x7, x8, x9, x10, x11, x12, x13, x14, x15, x16], -9223372036854775808 ≤ n ∧ n ≤ 9223372036854775807) (vb : Value) (l : List UInt8) (hb0 : Bs w vb l) :
    Calls Try.prog 3 #[.agg #[.int .i64 x0, .int .i64 x1, .int .i64 x2, .int .i64 x3, .int .i64 x4, .int .i64 x5, .int .i64 x6, .int .i64 x7, .int .i64 x8, .int .i64 x9, .int .i64 x10, .int .i64 x11, .int .i64 x12, .int .i64 x13, .int .i64 x14, .int .i64 x15, .int .i64 x16], vb] w fun e w' => e = .returned (.bool true) ∧ Below w.heap.size w w' := by
  have hbx := (Below.refl w.heap.size w).alloc (Nat.le_refl _) (.cells #[.int .i64 x0, .int .i64 x1, .int .i64 x2, .int .i64 x3, .int .i64 x4, .int .i64 x5, .int .i64 x6, .int .i64 x7, .int .i64 x8, .int .i64 x9, .int .i64 x10, .int .i64 x11, .int .i64 x12, .int .i64 x13, .int .i64 x14, .int .i64 x15, .int .i64 x16] 24)
  have hc : HT (w.alloc (.cells #[.int .i64 x0, .int .i64 x1, .int .i64 x2, .int .i64 x3, .int .i64 x4, .int .i64 x5, .int .i64 x6, .int .i64 x7, .int .i64 x8, .int .i64 x9, .int .i64 x10, .int .i64 x11, .int .i64 x12, .int .i64 x13, .int .i64 x14, .int .i64 x15, .int .i64 x16] 24)) w.heap.size 24 [.int .i64 x0, .int .i64 x1, .int .i64 x2, .int .i64 x3, .int .i64 x4, .int .i64 x5, .int .i64 x6, .int .i64 x7, .int .i64 x8, .int .i64 x9, .int .i64 x10, .int .i64 x11, .int .i64 x12, .int .i64 x13, .int .i64 x14, .int .i64 x15, .int .i64 x16] := HT.new (w := w)
  have HBX := Lib.hid hbx
  have HC := Lib.hid (fun (j : Nat) (u : Value) (h : [.int .i64 x0, .int .i64 x1, .int .i64 x2, .int .i64 x3, .int .i64 x4, .int .i64 x5, .int .i64 x6, .int .i64 x7, .int .i64 x8, .int .i64 x9, .int .i64 x10, .int .i64 x11, .int .i64 x12, .int .i64 x13, .int .i64 x14, .int .i64 x15, .int .i64 x16][j]? = some u) => hc.cell h)
  have HR := Lib.hid hr
  have HB0 := Lib.hid (hb0.mono hbx)
  obtain ⟨ab, cb, rfl, hcb, hmb⟩ := hb0.shape
  clear hbx hc hr hb0
  by_cases hl : 131072 < l.length
  · go_enter Try.func3, Try.ntmps3
    go_wp2_with fail
    go_ret
    exact ⟨rfl, HBX.out⟩
  have HL := Lib.hid hl
  have HLEN : Hid (l.length ≤ 70368744177664) := by show _ ≤ _; omega
  go_enter Try.func3, Try.ntmps3
  go_wp2_with fail
  generalize hW : (w.alloc (.cells #[.int .i64 x0, .int .i64 x1, .int .i64 x2, .int .i64 x3, .int .i64 x4, .int .i64 x5, .int .i64 x6, .int .i64 x7, .int .i64 x8, .int .i64 x9, .int .i64 x10, .int .i64 x11, .int .i64 x12, .int .i64 x13, .int .i64 x14, .int .i64 x15, .int .i64 x16] 24)) = W at *
  clear hW
  generalize hgc : w.heap.size = gc at HC ⊢
  have HGC : Hid (w.heap.size = gc) := hgc
  clear hgc
  go_upto_region 3 with fail
  go_cut [18] (fun v18 wx => ∃ u : Unit, v18 = .bool false ∧ Below W.heap.size W wx)
  case first =>
    refine wp_region_bl 6 (by kernel_rfl) ?_
    refine wpAnyU_take (i := 0) (oi := { dst := some 13, op := Op.load 24 (Operand.tmp 2), type := 24, pos := "law.go:42", after := #[], guard := none }) (v := (.agg #[.int .i64 x0, .int .i64 x1, .int .i64 x2, .int .i64 x3, .int .i64 x4, .int .i64 x5, .int .i64 x6, .int .i64 x7, .int .i64 x8, .int .i64 x9, .int .i64 x10, .int .i64 x11, .int .i64 x12, .int .i64 x13, .int .i64 x14, .int .i64 x15, .int .i64 x16])) rfl (by kernel_rfl) (by kernel_rfl) (by kernel_rfl) (by kernel_rfl) (by kernel_rfl) (fun _ _ _ h => h) (BL.cls W) ?_ ?_
    · refine Or.inl ⟨rfl, fun w hSw => ?_⟩
      exact eff_load_mid 24 (.tmp 2) rfl gc 0 rfl [.int .i64 x0, .int .i64 x1, .int .i64 x2, .int .i64 x3, .int .i64 x4, .int .i64 x5, .int .i64 x6, .int .i64 x7, .int .i64 x8, .int .i64 x9, .int .i64 x10, .int .i64 x11, .int .i64 x12, .int .i64 x13, .int .i64 x14, .int .i64 x15, .int .i64 x16] _ (fun j v h => by rw [Nat.zero_add]; exact BL.cell hSw (HC.out j v h))  Try.underlying24 rfl (by rw [cmdSize]; rfl)
    try simp only [Act.put, List.setIfInBounds_toArray, List.set_cons_zero, List.set_cons_succ]
    refine wpAnyU_take (i := 2) (oi := { dst := some 15, op := Op.load 24 (Operand.tmp 2), type := 24, pos := "law.go:42", after := #[], guard := none }) (v := (.agg #[.int .i64 x0, .int .i64 x1, .int .i64 x2, .int .i64 x3, .int .i64 x4, .int .i64 x5, .int .i64 x6, .int .i64 x7, .int .i64 x8, .int .i64 x9, .int .i64 x10, .int .i64 x11, .int .i64 x12, .int .i64 x13, .int .i64 x14, .int .i64 x15, .int .i64 x16])) rfl (by kernel_rfl) (by kernel_rfl) (by kernel_rfl) (by kernel_rfl) (by kernel_rfl) (fun _ _ _ h => h) (BL.cls W) ?_ ?_
    · refine Or.inl ⟨rfl, fun w hSw => ?_⟩
      exact eff_load_mid 24 (.tmp 2) rfl gc 0 rfl [.int .i64 x0, .int .i64 x1, .int .i64 x2, .int .i64 x3, .int .i64 x4, .int .i64 x5, .int .i64 x6, .int .i64 x7, .int .i64 x8, .int .i64 x9, .int .i64 x10, .int .i64 x11, .int .i64 x12, .int .i64 x13, .int .i64 x14, .int .i64 x15, .int .i64 x16] _ (fun j v h => by rw [Nat.zero_add]; exact BL.cell hSw (HC.out j v h))  Try.underlying24 rfl (by rw [cmdSize]; rfl)
    try simp only [Act.put, List.setIfInBounds_toArray, List.set_cons_zero, List.set_cons_succ]
    refine wpAnyU_ready (rs := [1]) (by kernel_rfl) (by simp) ?_
    refine AllReadyU.cons (o := { dst := some 14, op := Op.call { callee := Callee.value (Operand.func 9), args := #[Operand.tmp 13], argTypes := #[24] }, type := 25, pos := "law.go:42", after := #[{ on := 0, ground := Ground.data }], guard := none }) rfl (fun wA1 hA1 K hK => ?_) AllReadyU.nil
    go_simp
    refine (Cmd_any wA1 x0 x1 x2 x3 x4 x5 x6 x7 x8 x9 x10 x11 x12 x13 x14 x15 x16 HR.out).mono ?_
    rintro e w9 ⟨v9, rfl, ho9, hb9⟩
    obtain ⟨ax, nx, cx, rfl, hnx, ho9⟩ := ho9.named
    have HX := Lib.hid ho9.bs
    have HB1 := Lib.hid (Below.next hA1 hb9)
    clear ho9 hb9 hnx
    refine hK.out _ _ (BL w9) (BL.cls' HB1.out) (Below.refl _ _) ?_
    obtain ⟨wx, hwx⟩ : ∃ wx, wx = w9 := ⟨_, rfl⟩
    rw [← hwx] at HX HB1 ⊢
    clear hwx
    clear hK K
    try simp only [Act.put, List.setIfInBounds_toArray, List.set_cons_zero, List.set_cons_succ]
    refine wpAnyU_ready (rs := [3]) (by kernel_rfl) (by simp) ?_
    refine AllReadyU.cons (o := { dst := some 16, op := Op.call { callee := Callee.value (Operand.func 10), args := #[Operand.tmp 15], argTypes := #[24] }, type := 25, pos := "law.go:42", after := #[{ on := 2, ground := Ground.data }, { on := 1, ground := Ground.chain }], guard := none }) rfl (fun wA3 hA3 K hK => ?_) AllReadyU.nil
    go_simp
    refine (rCmd_any wA3 x0 x1 x2 x3 x4 x5 x6 x7 x8 x9 x10 x11 x12 x13 x14 x15 x16 HR.out).mono ?_
    rintro e w9 ⟨v9, rfl, ho9, hb9⟩
    obtain ⟨ay, ny, cy, rfl, hny, ho9⟩ := ho9.named
    have HY := Lib.hid ho9.bs
    have HX2 := Lib.hid ((HX.out.mono hA3).mono hb9)
    have HB := Lib.hid (Below.next (Below.next HB1.out hA3) hb9)
    clear ho9 hb9 hny
    refine hK.out _ _ (BL w9) (BL.cls' HB.out) (Below.refl _ _) ?_
    clear hK K
    try simp only [Act.put, List.setIfInBounds_toArray, List.set_cons_zero, List.set_cons_succ]
    refine wpAnyU_ready (rs := [4]) (by kernel_rfl) (by simp) ?_
    refine AllReadyU.cons (o := { dst := some 17, op := Op.call { callee := Callee.value (Operand.func 8), args := #[Operand.tmp 14, Operand.tmp 16], argTypes := #[25, 25] }, type := 4, pos := "law.go:42", after := #[{ on := 1, ground := Ground.data }, { on := 3, ground := Ground.data }, { on := 3, ground := Ground.chain }], guard := none }) rfl (fun wA4 hA4 K hK => ?_) AllReadyU.nil
    go_simp
    refine (Bytes_any wA4 _ _ _ _ (HX2.out.mono hA4) (HY.out.mono hA4)).mono ?_
    rintro e w8 ⟨rfl, hb8⟩
    rw [decide_eq_true rfl]
    have HB8 := Lib.hid (Below.next (Below.next HB.out hA4) hb8)
    clear hb8
    refine hK.out _ _ (BL w8) (BL.cls' HB8.out) (Below.refl _ _) ?_
    clear hK K
    try simp only [Act.put, List.setIfInBounds_toArray, List.set_cons_zero, List.set_cons_succ]
    refine wpAnyU_take (i := 5) (oi := { dst := some 18, op := Op.unOp UnOp.not 4 (Operand.tmp 17), type := 4, pos := "law.go:42", after := #[{ on := 4, ground := Ground.data }], guard := none }) (v := (.bool (!true))) rfl (by kernel_rfl) (by kernel_rfl) (by kernel_rfl) (by kernel_rfl) (by kernel_rfl) (fun _ _ _ h => h) (BL.cls' HB8.out) ?_ ?_
    · refine Or.inl ⟨rfl, fun w hSw => ?_⟩
      exact EffR.same (by go_simp)
    try simp only [Act.put, List.setIfInBounds_toArray, List.set_cons_zero, List.set_cons_succ]
    refine wpAnyU_done (by kernel_rfl) (fun w1 hb1 => ?_) _
    go_wp2_with fail
    go_meet
    exact ⟨(), rfl, Below.next HB8.out hb1⟩
  case rest =>
    obtain ⟨_, rfl, hb3⟩ := hcut
    have tw := Twin_any wc _ l (HB0.out.mono hb3) (by have := HLEN.out; omega)
    have hB3 := bgo HBX.out hb3 HBX.out.size
    have HB3 := Lib.hid hB3
    have hbs3 := Lib.hid (HB0.out.mono hb3)
    clear hb3 hB3 hl
    go_wp2_with fail
    refine tw.mono ?_
    clear tw
    rintro e w4 ⟨v5, rfl, ho5, hb5⟩
    obtain ⟨a5, n5, c5, rfl, hn5, ho5⟩ := ho5.named
    have rc := ReadCmd_any w4 _ l ho5.bs HLEN.out
    have HB5 := Lib.hid (bgo HB3.out hb5 HB3.out.size)
    have HO5 := Lib.hid ho5.bs
    have HBB5 := Lib.hid (hbs3.out.mono hb5)
    obtain ⟨z0, z1, z2, z3, z4, z5, z6, z7, z8, z9, z10, z11, z12, z13, z14, z15, z16, hz⟩ := ivs_lit _ (readC_len l)
    unfold RcPost at rc
    have HZ := Lib.hid hz
    rw [hz] at rc
    obtain ⟨e5, he5⟩ : ∃ e, e = (readC l).2 := ⟨_, rfl⟩
    have HE : Hid ((e5 = 0 ∨ e5 = 6) ∧ e5 = (readC l).2) := ⟨by rw [he5]; exact readC_two l, he5⟩
    rw [← he5] at rc
    clear ho5 hb5 hn5 hbs3 hz he5
    go_wp2_with fail
    refine rc.mono ?_
    clear rc
    rintro e w5 ⟨rfl, hb6⟩
    have hal : Below w5.heap.size w5 ((w5.alloc (.cells #[.int .i64 0, .int .i64 0, .int .i64 0, .int .i64 0, .int .i64 0, .int .i64 0, .int .i64 0, .int .i64 0, .int .i64 0, .int .i64 0, .int .i64 0, .int .i64 0, .int .i64 0, .int .i64 0, .int .i64 0, .int .i64 0, .int .i64 0] 24)).setRow w5.heap.size #[.int .i64 z0, .int .i64 z1, .int .i64 z2, .int .i64 z3, .int .i64 z4, .int .i64 z5, .int .i64 z6, .int .i64 z7, .int .i64 z8, .int .i64 z9, .int .i64 z10, .int .i64 z11, .int .i64 z12, .int .i64 z13, .int .i64 z14, .int .i64 z15, .int .i64 z16]) := ((Below.refl _ _).alloc (Nat.le_refl _) _).trans (setRow_below (Nat.le_refl _) _)
    have hga : HT ((w5.alloc (.cells #[.int .i64 0, .int .i64 0, .int .i64 0, .int .i64 0, .int .i64 0, .int .i64 0, .int .i64 0, .int .i64 0, .int .i64 0, .int .i64 0, .int .i64 0, .int .i64 0, .int .i64 0, .int .i64 0, .int .i64 0, .int .i64 0, .int .i64 0] 24)).setRow w5.heap.size #[.int .i64 z0, .int .i64 z1, .int .i64 z2, .int .i64 z3, .int .i64 z4, .int .i64 z5, .int .i64 z6, .int .i64 z7, .int .i64 z8, .int .i64 z9, .int .i64 z10, .int .i64 z11, .int .i64 z12, .int .i64 z13, .int .i64 z14, .int .i64 z15, .int .i64 z16]) w5.heap.size 24 (ivs [z0, z1, z2, z3, z4, z5, z6, z7, z8, z9, z10, z11, z12, z13, z14, z15, z16]) := setRow_heap _ _ _ _ _ _ (HT.new (w := w5) (t := 24) (C := [.int .i64 0, .int .i64 0, .int .i64 0, .int .i64 0, .int .i64 0, .int .i64 0, .int .i64 0, .int .i64 0, .int .i64 0, .int .i64 0, .int .i64 0, .int .i64 0, .int .i64 0, .int .i64 0, .int .i64 0, .int .i64 0, .int .i64 0]))
    have HNEW : Hid ((w5.alloc (.cells #[.int .i64 0, .int .i64 0, .int .i64 0, .int .i64 0, .int .i64 0, .int .i64 0, .int .i64 0, .int .i64 0, .int .i64 0, .int .i64 0, .int .i64 0, .int .i64 0, .int .i64 0, .int .i64 0, .int .i64 0, .int .i64 0, .int .i64 0] 24)).heap[w5.heap.size]? = some (.cells #[.int .i64 0, .int .i64 0, .int .i64 0, .int .i64 0, .int .i64 0, .int .i64 0, .int .i64 0, .int .i64 0, .int .i64 0, .int .i64 0, .int .i64 0, .int .i64 0, .int .i64 0, .int .i64 0, .int .i64 0, .int .i64 0, .int .i64 0] 24 (0, 0))) := HT.new (w := w5) (t := 24) (C := [.int .i64 0, .int .i64 0, .int .i64 0, .int .i64 0, .int .i64 0, .int .i64 0, .int .i64 0, .int .i64 0, .int .i64 0, .int .i64 0, .int .i64 0, .int .i64 0, .int .i64 0, .int .i64 0, .int .i64 0, .int .i64 0, .int .i64 0])
    have HSZ : Hid ((Try.prog.info? 24).map (·.size) = some (#[.int .i64 z0, .int .i64 z1, .int .i64 z2, .int .i64 z3, .int .i64 z4, .int .i64 z5, .int .i64 z6, .int .i64 z7, .int .i64 z8, .int .i64 z9, .int .i64 z10, .int .i64 z11, .int .i64 z12, .int .i64 z13, .int .i64 z14, .int .i64 z15, .int .i64 z16] : Array Value).size) := by show _ = _; rw [cmdSize]; rfl
    have HAL := Lib.hid hal
    have HGA0 := Lib.hid hga
    have HO6 := Lib.hid ((HO5.out.mono hb6).mono hal)
    have HB6 := Lib.hid ((HBB5.out.mono hb6).mono hal)
    have HBL6 := Lib.hid (bgo (bgo HB5.out hb6 HB5.out.size) hal (bgo HB5.out hb6 HB5.out.size).size)
    clear hb6 hal hga HO5 HBB5 HB5
    go_wp2_with (first
      | (refine wpList_store_row rfl 24 (.tmp 6) (.tmp 24) rfl w5.heap.size #[.int .i64 z0, .int .i64 z1, .int .i64 z2, .int .i64 z3, .int .i64 z4, .int .i64 z5, .int .i64 z6, .int .i64 z7, .int .i64 z8, .int .i64 z9, .int .i64 z10, .int .i64 z11, .int .i64 z12, .int .i64 z13, .int .i64 z14, .int .i64 z15, .int .i64 z16] rfl rfl 24 #[.int .i64 0, .int .i64 0, .int .i64 0, .int .i64 0, .int .i64 0, .int .i64 0, .int .i64 0, .int .i64 0, .int .i64 0, .int .i64 0, .int .i64 0, .int .i64 0, .int .i64 0, .int .i64 0, .int .i64 0, .int .i64 0, .int .i64 0] HNEW.out HSZ.out rfl (ivs_one [z0, z1, z2, z3, z4, z5, z6, z7, z8, z9, z10, z11, z12, z13, z14, z15, z16]) ?_)
      | fail)
    generalize hw6 : (w5.alloc (.cells #[.int .i64 0, .int .i64 0, .int .i64 0, .int .i64 0, .int .i64 0, .int .i64 0, .int .i64 0, .int .i64 0, .int .i64 0, .int .i64 0, .int .i64 0, .int .i64 0, .int .i64 0, .int .i64 0, .int .i64 0, .int .i64 0, .int .i64 0] 24)).setRow w5.heap.size #[.int .i64 z0, .int .i64 z1, .int .i64 z2, .int .i64 z3, .int .i64 z4, .int .i64 z5, .int .i64 z6, .int .i64 z7, .int .i64 z8, .int .i64 z9, .int .i64 z10, .int .i64 z11, .int .i64 z12, .int .i64 z13, .int .i64 z14, .int .i64 z15, .int .i64 z16] = w6 at HGA0 HO6 HB6 HBL6 HAL ⊢
    generalize hga : w5.heap.size = ga at HGA0 HAL ⊢
    clear hw6 hga HNEW
    have rr := rReadCmd_any w6 _ l HB6.out HLEN.out
    rw [HZ.out, ← HE.out.2] at rr
    refine rr.mono ?_
    clear rr
    rintro e w7 ⟨rfl, hb7⟩
    have hal : Below w7.heap.size w7 ((w7.alloc (.cells #[.int .i64 0, .int .i64 0, .int .i64 0, .int .i64 0, .int .i64 0, .int .i64 0, .int .i64 0, .int .i64 0, .int .i64 0, .int .i64 0, .int .i64 0, .int .i64 0, .int .i64 0, .int .i64 0, .int .i64 0, .int .i64 0, .int .i64 0] 24)).setRow w7.heap.size #[.int .i64 z0, .int .i64 z1, .int .i64 z2, .int .i64 z3, .int .i64 z4, .int .i64 z5, .int .i64 z6, .int .i64 z7, .int .i64 z8, .int .i64 z9, .int .i64 z10, .int .i64 z11, .int .i64 z12, .int .i64 z13, .int .i64 z14, .int .i64 z15, .int .i64 z16]) := ((Below.refl _ _).alloc (Nat.le_refl _) _).trans (setRow_below (Nat.le_refl _) _)
    have hgb : HT ((w7.alloc (.cells #[.int .i64 0, .int .i64 0, .int .i64 0, .int .i64 0, .int .i64 0, .int .i64 0, .int .i64 0, .int .i64 0, .int .i64 0, .int .i64 0, .int .i64 0, .int .i64 0, .int .i64 0, .int .i64 0, .int .i64 0, .int .i64 0, .int .i64 0] 24)).setRow w7.heap.size #[.int .i64 z0, .int .i64 z1, .int .i64 z2, .int .i64 z3, .int .i64 z4, .int .i64 z5, .int .i64 z6, .int .i64 z7, .int .i64 z8, .int .i64 z9, .int .i64 z10, .int .i64 z11, .int .i64 z12, .int .i64 z13, .int .i64 z14, .int .i64 z15, .int .i64 z16]) w7.heap.size 24 (ivs [z0, z1, z2, z3, z4, z5, z6, z7, z8, z9, z10, z11, z12, z13, z14, z15, z16]) := setRow_heap _ _ _ _ _ _ (HT.new (w := w7) (t := 24) (C := [.int .i64 0, .int .i64 0, .int .i64 0, .int .i64 0, .int .i64 0, .int .i64 0, .int .i64 0, .int .i64 0, .int .i64 0, .int .i64 0, .int .i64 0, .int .i64 0, .int .i64 0, .int .i64 0, .int .i64 0, .int .i64 0, .int .i64 0]))
    have HNEW : Hid ((w7.alloc (.cells #[.int .i64 0, .int .i64 0, .int .i64 0, .int .i64 0, .int .i64 0, .int .i64 0, .int .i64 0, .int .i64 0, .int .i64 0, .int .i64 0, .int .i64 0, .int .i64 0, .int .i64 0, .int .i64 0, .int .i64 0, .int .i64 0, .int .i64 0] 24)).heap[w7.heap.size]? = some (.cells #[.int .i64 0, .int .i64 0, .int .i64 0, .int .i64 0, .int .i64 0, .int .i64 0, .int .i64 0, .int .i64 0, .int .i64 0, .int .i64 0, .int .i64 0, .int .i64 0, .int .i64 0, .int .i64 0, .int .i64 0, .int .i64 0, .int .i64 0] 24 (0, 0))) := HT.new (w := w7) (t := 24) (C := [.int .i64 0, .int .i64 0, .int .i64 0, .int .i64 0, .int .i64 0, .int .i64 0, .int .i64 0, .int .i64 0, .int .i64 0, .int .i64 0, .int .i64 0, .int .i64 0, .int .i64 0, .int .i64 0, .int .i64 0, .int .i64 0, .int .i64 0])
    have HGA1 := Lib.hid ((HGA0.out.below hb7).below hal)
    have HGB0 := Lib.hid hgb
    have HO7 := Lib.hid ((HO6.out.mono hb7).mono hal)
    have HB7 := Lib.hid ((HB6.out.mono hb7).mono hal)
    have HBL7 := Lib.hid (bgo (bgo HBL6.out hb7 HBL6.out.size) hal (bgo HBL6.out hb7 HBL6.out.size).size)
    clear hb7 hal hgb HO6 HB6 HBL6 HAL HGA0
    go_wp2_with (first
      | (refine wpList_store_row rfl 24 (.tmp 8) (.tmp 29) rfl w7.heap.size #[.int .i64 z0, .int .i64 z1, .int .i64 z2, .int .i64 z3, .int .i64 z4, .int .i64 z5, .int .i64 z6, .int .i64 z7, .int .i64 z8, .int .i64 z9, .int .i64 z10, .int .i64 z11, .int .i64 z12, .int .i64 z13, .int .i64 z14, .int .i64 z15, .int .i64 z16] rfl rfl 24 #[.int .i64 0, .int .i64 0, .int .i64 0, .int .i64 0, .int .i64 0, .int .i64 0, .int .i64 0, .int .i64 0, .int .i64 0, .int .i64 0, .int .i64 0, .int .i64 0, .int .i64 0, .int .i64 0, .int .i64 0, .int .i64 0, .int .i64 0] HNEW.out HSZ.out rfl (ivs_one [z0, z1, z2, z3, z4, z5, z6, z7, z8, z9, z10, z11, z12, z13, z14, z15, z16]) ?_)
      | fail)
    generalize hw6 : (w7.alloc (.cells #[.int .i64 0, .int .i64 0, .int .i64 0, .int .i64 0, .int .i64 0, .int .i64 0, .int .i64 0, .int .i64 0, .int .i64 0, .int .i64 0, .int .i64 0, .int .i64 0, .int .i64 0, .int .i64 0, .int .i64 0, .int .i64 0, .int .i64 0] 24)).setRow w7.heap.size #[.int .i64 z0, .int .i64 z1, .int .i64 z2, .int .i64 z3, .int .i64 z4, .int .i64 z5, .int .i64 z6, .int .i64 z7, .int .i64 z8, .int .i64 z9, .int .i64 z10, .int .i64 z11, .int .i64 z12, .int .i64 z13, .int .i64 z14, .int .i64 z15, .int .i64 z16] = w8 at HGA1 HGB0 HO7 HB7 HBL7 ⊢
    generalize hgb : w7.heap.size = gb at HGB0 ⊢
    clear hw6 hgb HNEW
    have HB8 := Lib.hid HBL7.out
    have HGA := Lib.hid HGA1.out
    have HGB := Lib.hid HGB0.out
    have HTT := Lib.hid HO7.out
    have HB := Lib.hid HB7.out
    clear HGA1 HGB0 HO7 HB7 HBL7
    go_upto_region 8 with fail
    rcases HE.out.1 with h0 | h0
    · subst h0
      try simp only [decide_true]
      refine wp_region_bl 32 (by kernel_rfl) ?_
      refine wpAnyU_take (i := 0) (oi := { dst := some 31, op := Op.load 24 (Operand.tmp 6), type := 24, pos := "law.go:48", after := #[], guard := none }) (v := (.agg #[.int .i64 z0, .int .i64 z1, .int .i64 z2, .int .i64 z3, .int .i64 z4, .int .i64 z5, .int .i64 z6, .int .i64 z7, .int .i64 z8, .int .i64 z9, .int .i64 z10, .int .i64 z11, .int .i64 z12, .int .i64 z13, .int .i64 z14, .int .i64 z15, .int .i64 z16])) rfl (by kernel_rfl) (by kernel_rfl) (by kernel_rfl) (by kernel_rfl) (by kernel_rfl) (fun _ _ _ h => h) (BL.cls w8) ?_ ?_
      · refine Or.inl ⟨rfl, fun w hSw => ?_⟩
        exact eff_load_mid 24 (.tmp 6) rfl ga 0 rfl [.int .i64 z0, .int .i64 z1, .int .i64 z2, .int .i64 z3, .int .i64 z4, .int .i64 z5, .int .i64 z6, .int .i64 z7, .int .i64 z8, .int .i64 z9, .int .i64 z10, .int .i64 z11, .int .i64 z12, .int .i64 z13, .int .i64 z14, .int .i64 z15, .int .i64 z16] _ (fun j v h => by rw [Nat.zero_add]; exact BL.cell hSw (HGA.out.cell h))  Try.underlying24 rfl (by rw [cmdSize]; rfl)
      try simp only [Act.put, List.setIfInBounds_toArray, List.set_cons_zero, List.set_cons_succ]
      refine wpAnyU_take (i := 1) (oi := { dst := some 32, op := Op.load 24 (Operand.tmp 8), type := 24, pos := "law.go:48", after := #[], guard := none }) (v := (.agg #[.int .i64 z0, .int .i64 z1, .int .i64 z2, .int .i64 z3, .int .i64 z4, .int .i64 z5, .int .i64 z6, .int .i64 z7, .int .i64 z8, .int .i64 z9, .int .i64 z10, .int .i64 z11, .int .i64 z12, .int .i64 z13, .int .i64 z14, .int .i64 z15, .int .i64 z16])) rfl (by kernel_rfl) (by kernel_rfl) (by kernel_rfl) (by kernel_rfl) (by kernel_rfl) (fun _ _ _ h => h) (BL.cls w8) ?_ ?_
      · refine Or.inl ⟨rfl, fun w hSw => ?_⟩
        exact eff_load_mid 24 (.tmp 8) rfl gb 0 rfl [.int .i64 z0, .int .i64 z1, .int .i64 z2, .int .i64 z3, .int .i64 z4, .int .i64 z5, .int .i64 z6, .int .i64 z7, .int .i64 z8, .int .i64 z9, .int .i64 z10, .int .i64 z11, .int .i64 z12, .int .i64 z13, .int .i64 z14, .int .i64 z15, .int .i64 z16] _ (fun j v h => by rw [Nat.zero_add]; exact BL.cell hSw (HGB.out.cell h))  Try.underlying24 rfl (by rw [cmdSize]; rfl)
      try simp only [Act.put, List.setIfInBounds_toArray, List.set_cons_zero, List.set_cons_succ]
      refine wpAnyU_take (i := 2) (oi := { dst := some 33, op := Op.call { callee := Callee.value (Operand.func 14), args := #[Operand.tmp 31, Operand.tmp 32], argTypes := #[24, 24] }, type := 4, pos := "law.go:48", after := #[{ on := 0, ground := Ground.data }, { on := 1, ground := Ground.data }], guard := none }) (v := (.bool true)) rfl (by kernel_rfl) (by kernel_rfl) (by kernel_rfl) (by kernel_rfl) (by kernel_rfl) (fun _ _ _ h => h) (BL.cls w8) ?_ ?_
      · refine Or.inl ⟨rfl, fun w hSw => ?_⟩
        go_simp
        show Calls _ _ _ _ _
        refine (KCmd_any _ z0 z1 z2 z3 z4 z5 z6 z7 z8 z9 z10 z11 z12 z13 z14 z15 z16 z0 z1 z2 z3 z4 z5 z6 z7 z8 z9 z10 z11 z12 z13 z14 z15 z16).mono ?_
        rintro e w1 ⟨rfl, hb⟩
        exact ⟨by rw [decide_eq_true rfl], hb⟩
      try simp only [Act.put, List.setIfInBounds_toArray, List.set_cons_zero, List.set_cons_succ]
      refine wpAnyU_take (i := 3) (oi := { dst := some 34, op := Op.move (Operand.tmp 33), type := 4, pos := "law.go:48", after := #[{ on := 2, ground := Ground.data }, { on := 2, ground := Ground.chain }], guard := none }) (v := (.bool true)) rfl (by kernel_rfl) (by kernel_rfl) (by kernel_rfl) (by kernel_rfl) (by kernel_rfl) (fun _ _ _ h => h) (BL.cls w8) ?_ ?_
      · refine Or.inl ⟨rfl, fun w hSw => ?_⟩
        exact EffR.same (by go_simp)
      try simp only [Act.put, List.setIfInBounds_toArray, List.set_cons_zero, List.set_cons_succ]
      refine wpAnyU_take (i := 4) (oi := { dst := some 35, op := Op.move (Operand.tmp 9), type := 4, pos := "law.go:48", after := #[{ on := 3, ground := Ground.guard }], guard := some (3, true) }) (v := (.bool true)) rfl (by kernel_rfl) (by kernel_rfl) (by kernel_rfl) (by kernel_rfl) (by kernel_rfl) (fun _ _ _ h => h) (BL.cls w8) ?_ ?_
      · refine Or.inl ⟨rfl, fun w hSw => ?_⟩
        exact EffR.same (by go_simp)
      try simp only [Act.put, List.setIfInBounds_toArray, List.set_cons_zero, List.set_cons_succ]
      refine wpAnyU_take (i := 5) (oi := { dst := some 36, op := Op.move (Operand.tmp 7), type := 29, pos := "law.go:48", after := #[{ on := 3, ground := Ground.guard }], guard := some (3, true) }) (v := (.int .i64 0)) rfl (by kernel_rfl) (by kernel_rfl) (by kernel_rfl) (by kernel_rfl) (by kernel_rfl) (fun _ _ _ h => h) (BL.cls w8) ?_ ?_
      · refine Or.inl ⟨rfl, fun w hSw => ?_⟩
        exact EffR.same (by go_simp)
      try simp only [Act.put, List.setIfInBounds_toArray, List.set_cons_zero, List.set_cons_succ]
      refine wpAnyU_take (i := 6) (oi := { dst := some 37, op := Op.binOp BinOp.eql 29 (Operand.tmp 36) (Operand.const (Value.int IntKind.i64 0)) 29, type := 4, pos := "law.go:48", after := #[{ on := 5, ground := Ground.data }, { on := 3, ground := Ground.guard }], guard := some (3, true) }) (v := (.bool true)) rfl (by kernel_rfl) (by kernel_rfl) (by kernel_rfl) (by kernel_rfl) (by kernel_rfl) (fun _ _ _ h => h) (BL.cls w8) ?_ ?_
      · refine Or.inl ⟨rfl, fun w hSw => ?_⟩
        exact EffR.same (by go_simp)
      try simp only [Act.put, List.setIfInBounds_toArray, List.set_cons_zero, List.set_cons_succ]
      refine wpAnyU_take (i := 7) (oi := { dst := some 38, op := Op.binOp BinOp.eql 4 (Operand.tmp 35) (Operand.tmp 37) 4, type := 4, pos := "law.go:48", after := #[{ on := 4, ground := Ground.data }, { on := 6, ground := Ground.data }, { on := 3, ground := Ground.guard }], guard := some (3, true) }) (v := (.bool true)) rfl (by kernel_rfl) (by kernel_rfl) (by kernel_rfl) (by kernel_rfl) (by kernel_rfl) (fun _ _ _ h => h) (BL.cls w8) ?_ ?_
      · refine Or.inl ⟨rfl, fun w hSw => ?_⟩
        exact EffR.same (by go_simp)
      try simp only [Act.put, List.setIfInBounds_toArray, List.set_cons_zero, List.set_cons_succ]
      refine wpAnyU_take (i := 8) (oi := { dst := some 39, op := Op.pick (Operand.tmp 34) (Operand.tmp 38) (Operand.const (Value.bool false)), type := 4, pos := "law.go:48", after := #[{ on := 3, ground := Ground.data }, { on := 7, ground := Ground.data }], guard := none }) (v := (.bool true)) rfl (by kernel_rfl) (by kernel_rfl) (by kernel_rfl) (by kernel_rfl) (by kernel_rfl) (fun _ _ _ h => h) (BL.cls w8) ?_ ?_
      · refine Or.inl ⟨rfl, fun w hSw => ?_⟩
        exact EffR.same (by go_simp)
      try simp only [Act.put, List.setIfInBounds_toArray, List.set_cons_zero, List.set_cons_succ]
      refine wpAnyU_take (i := 9) (oi := { dst := some 40, op := Op.move (Operand.tmp 39), type := 4, pos := "law.go:48", after := #[{ on := 8, ground := Ground.data }, { on := 3, ground := Ground.chain }], guard := none }) (v := (.bool true)) rfl (by kernel_rfl) (by kernel_rfl) (by kernel_rfl) (by kernel_rfl) (by kernel_rfl) (fun _ _ _ h => h) (BL.cls w8) ?_ ?_
      · refine Or.inl ⟨rfl, fun w hSw => ?_⟩
        exact EffR.same (by go_simp)
      try simp only [Act.put, List.setIfInBounds_toArray, List.set_cons_zero, List.set_cons_succ]
      refine wpAnyU_take (i := 10) (oi := { dst := some 41, op := Op.move (Operand.tmp 9), type := 4, pos := "law.go:48", after := #[{ on := 9, ground := Ground.guard }], guard := some (9, true) }) (v := (.bool true)) rfl (by kernel_rfl) (by kernel_rfl) (by kernel_rfl) (by kernel_rfl) (by kernel_rfl) (fun _ _ _ h => h) (BL.cls w8) ?_ ?_
      · refine Or.inl ⟨rfl, fun w hSw => ?_⟩
        exact EffR.same (by go_simp)
      try simp only [Act.put, List.setIfInBounds_toArray, List.set_cons_zero, List.set_cons_succ]
      refine wpAnyU_take (i := 11) (oi := { dst := some 42, op := Op.move (Operand.tmp 41), type := 4, pos := "law.go:48", after := #[{ on := 10, ground := Ground.data }, { on := 9, ground := Ground.chain }, { on := 9, ground := Ground.guard }], guard := some (9, true) }) (v := (.bool true)) rfl (by kernel_rfl) (by kernel_rfl) (by kernel_rfl) (by kernel_rfl) (by kernel_rfl) (fun _ _ _ h => h) (BL.cls w8) ?_ ?_
      · refine Or.inl ⟨rfl, fun w hSw => ?_⟩
        exact EffR.same (by go_simp)
      try simp only [Act.put, List.setIfInBounds_toArray, List.set_cons_zero, List.set_cons_succ]
      refine wpAnyU_take (i := 12) (oi := { dst := some 43, op := Op.move (Operand.tmp 7), type := 29, pos := "law.go:48", after := #[{ on := 11, ground := Ground.guard }], guard := some (11, false) }) (v := undef) rfl (by kernel_rfl) (by kernel_rfl) (by kernel_rfl) (by kernel_rfl) (by kernel_rfl) (fun _ _ _ h => h) (BL.cls w8) ?_ ?_
      · exact Or.inr ⟨rfl, rfl⟩
      try simp only [Act.put, List.setIfInBounds_toArray, List.set_cons_zero, List.set_cons_succ]
      refine wpAnyU_take (i := 13) (oi := { dst := some 44, op := Op.binOp BinOp.eql 29 (Operand.tmp 43) (Operand.const (Value.int IntKind.i64 6)) 29, type := 4, pos := "law.go:48", after := #[{ on := 12, ground := Ground.data }, { on := 11, ground := Ground.guard }], guard := some (11, false) }) (v := undef) rfl (by kernel_rfl) (by kernel_rfl) (by kernel_rfl) (by kernel_rfl) (by kernel_rfl) (fun _ _ _ h => h) (BL.cls w8) ?_ ?_
      · exact Or.inr ⟨rfl, rfl⟩
      try simp only [Act.put, List.setIfInBounds_toArray, List.set_cons_zero, List.set_cons_succ]
      refine wpAnyU_take (i := 14) (oi := { dst := some 45, op := Op.pick (Operand.tmp 42) (Operand.const (Value.bool true)) (Operand.tmp 44), type := 4, pos := "law.go:48", after := #[{ on := 11, ground := Ground.data }, { on := 13, ground := Ground.data }, { on := 9, ground := Ground.guard }], guard := some (9, true) }) (v := (.bool true)) rfl (by kernel_rfl) (by kernel_rfl) (by kernel_rfl) (by kernel_rfl) (by kernel_rfl) (fun _ _ _ h => h) (BL.cls w8) ?_ ?_
      · refine Or.inl ⟨rfl, fun w hSw => ?_⟩
        exact EffR.same (by go_simp)
      try simp only [Act.put, List.setIfInBounds_toArray, List.set_cons_zero, List.set_cons_succ]
      refine wpAnyU_take (i := 15) (oi := { dst := some 46, op := Op.pick (Operand.tmp 40) (Operand.tmp 45) (Operand.const (Value.bool false)), type := 4, pos := "law.go:48", after := #[{ on := 9, ground := Ground.data }, { on := 14, ground := Ground.data }], guard := none }) (v := (.bool true)) rfl (by kernel_rfl) (by kernel_rfl) (by kernel_rfl) (by kernel_rfl) (by kernel_rfl) (fun _ _ _ h => h) (BL.cls w8) ?_ ?_
      · refine Or.inl ⟨rfl, fun w hSw => ?_⟩
        exact EffR.same (by go_simp)
      try simp only [Act.put, List.setIfInBounds_toArray, List.set_cons_zero, List.set_cons_succ]
      refine wpAnyU_take (i := 16) (oi := { dst := some 47, op := Op.move (Operand.tmp 46), type := 4, pos := "law.go:48", after := #[{ on := 15, ground := Ground.data }, { on := 11, ground := Ground.chain }], guard := none }) (v := (.bool true)) rfl (by kernel_rfl) (by kernel_rfl) (by kernel_rfl) (by kernel_rfl) (by kernel_rfl) (fun _ _ _ h => h) (BL.cls w8) ?_ ?_
      · refine Or.inl ⟨rfl, fun w hSw => ?_⟩
        exact EffR.same (by go_simp)
      try simp only [Act.put, List.setIfInBounds_toArray, List.set_cons_zero, List.set_cons_succ]
      refine wpAnyU_take (i := 17) (oi := { dst := some 48, op := Op.move (Operand.tmp 5), type := 25, pos := "law.go:48", after := #[{ on := 16, ground := Ground.guard }], guard := some (16, true) }) (v := (.slice a5 n5 c5)) rfl (by kernel_rfl) (by kernel_rfl) (by kernel_rfl) (by kernel_rfl) (by kernel_rfl) (fun _ _ _ h => h) (BL.cls w8) ?_ ?_
      · refine Or.inl ⟨rfl, fun w hSw => ?_⟩
        exact EffR.same (by go_simp)
      try simp only [Act.put, List.setIfInBounds_toArray, List.set_cons_zero, List.set_cons_succ]
      refine wpAnyU_take (i := 18) (oi := { dst := some 49, op := Op.call { callee := Callee.value (Operand.func 15), args := #[Operand.tmp 48], argTypes := #[25] }, type := 3, pos := "law.go:48", after := #[{ on := 17, ground := Ground.data }, { on := 16, ground := Ground.chain }, { on := 16, ground := Ground.guard }], guard := some (16, true) }) (v := (.int .i64 z2)) rfl (by kernel_rfl) (by kernel_rfl) (by kernel_rfl) (by kernel_rfl) (by kernel_rfl) (fun _ _ _ h => h) (BL.cls w8) ?_ ?_
      · refine Or.inl ⟨rfl, fun w hSw => ?_⟩
        go_simp
        show Calls _ _ _ _ _
        refine (Kind_any _ _ l (HTT.out.mono hSw) HLEN.out).mono ?_
        rintro e w1 ⟨rfl, hb⟩
        exact ⟨by rw [HZ.out]; rfl, hb⟩
      try simp only [Act.put, List.setIfInBounds_toArray, List.set_cons_zero, List.set_cons_succ]
      refine wpAnyU_take (i := 19) (oi := { dst := some 50, op := Op.fieldAddr 24 (Operand.tmp 8) 2, type := 0, pos := "law.go:48", after := #[{ on := 16, ground := Ground.guard }], guard := some (16, true) }) (v := (.pointer (some ⟨gb, 2, none⟩))) rfl (by kernel_rfl) (by kernel_rfl) (by kernel_rfl) (by kernel_rfl) (by kernel_rfl) (fun _ _ _ h => h) (BL.cls w8) ?_ ?_
      · refine Or.inl ⟨rfl, fun w hSw => ?_⟩
        exact EffR.same (by go_simp)
      try simp only [Act.put, List.setIfInBounds_toArray, List.set_cons_zero, List.set_cons_succ]
      refine wpAnyU_take (i := 20) (oi := { dst := some 51, op := Op.load 3 (Operand.tmp 50), type := 3, pos := "law.go:48", after := #[{ on := 19, ground := Ground.data }, { on := 16, ground := Ground.guard }], guard := some (16, true) }) (v := (.int .i64 z2)) rfl (by kernel_rfl) (by kernel_rfl) (by kernel_rfl) (by kernel_rfl) (by kernel_rfl) (fun _ _ _ h => h) (BL.cls w8) ?_ ?_
      · refine Or.inl ⟨rfl, fun w hSw => ?_⟩
        have e0 := BL.cell hSw (HGB.out.cell (j := 2) rfl)
        exact EffR.same (by go_simp)
      try simp only [Act.put, List.setIfInBounds_toArray, List.set_cons_zero, List.set_cons_succ]
      refine wpAnyU_take (i := 21) (oi := { dst := some 52, op := Op.binOp BinOp.eql 3 (Operand.tmp 49) (Operand.tmp 51) 3, type := 4, pos := "law.go:48", after := #[{ on := 18, ground := Ground.data }, { on := 20, ground := Ground.data }, { on := 16, ground := Ground.guard }], guard := some (16, true) }) (v := (.bool true)) rfl (by kernel_rfl) (by kernel_rfl) (by kernel_rfl) (by kernel_rfl) (by kernel_rfl) (fun _ _ _ h => h) (BL.cls w8) ?_ ?_
      · refine Or.inl ⟨rfl, fun w hSw => ?_⟩
        exact EffR.same (by go_simp)
      try simp only [Act.put, List.setIfInBounds_toArray, List.set_cons_zero, List.set_cons_succ]
      refine wpAnyU_take (i := 22) (oi := { dst := some 53, op := Op.pick (Operand.tmp 47) (Operand.tmp 52) (Operand.const (Value.bool false)), type := 4, pos := "law.go:48", after := #[{ on := 16, ground := Ground.data }, { on := 21, ground := Ground.data }], guard := none }) (v := (.bool true)) rfl (by kernel_rfl) (by kernel_rfl) (by kernel_rfl) (by kernel_rfl) (by kernel_rfl) (fun _ _ _ h => h) (BL.cls w8) ?_ ?_
      · refine Or.inl ⟨rfl, fun w hSw => ?_⟩
        exact EffR.same (by go_simp)
      try simp only [Act.put, List.setIfInBounds_toArray, List.set_cons_zero, List.set_cons_succ]
      refine wpAnyU_take (i := 23) (oi := { dst := some 54, op := Op.move (Operand.tmp 53), type := 4, pos := "law.go:48", after := #[{ on := 22, ground := Ground.data }, { on := 18, ground := Ground.chain }], guard := none }) (v := (.bool true)) rfl (by kernel_rfl) (by kernel_rfl) (by kernel_rfl) (by kernel_rfl) (by kernel_rfl) (fun _ _ _ h => h) (BL.cls w8) ?_ ?_
      · refine Or.inl ⟨rfl, fun w hSw => ?_⟩
        exact EffR.same (by go_simp)
      try simp only [Act.put, List.setIfInBounds_toArray, List.set_cons_zero, List.set_cons_succ]
      refine wpAnyU_take (i := 24) (oi := { dst := some 55, op := Op.move (Operand.tmp 5), type := 25, pos := "law.go:48", after := #[{ on := 23, ground := Ground.guard }], guard := some (23, true) }) (v := (.slice a5 n5 c5)) rfl (by kernel_rfl) (by kernel_rfl) (by kernel_rfl) (by kernel_rfl) (by kernel_rfl) (fun _ _ _ h => h) (BL.cls w8) ?_ ?_
      · refine Or.inl ⟨rfl, fun w hSw => ?_⟩
        exact EffR.same (by go_simp)
      try simp only [Act.put, List.setIfInBounds_toArray, List.set_cons_zero, List.set_cons_succ]
      refine wpAnyU_take (i := 25) (oi := { dst := some 56, op := Op.move (Operand.tmp 1), type := 25, pos := "law.go:48", after := #[{ on := 23, ground := Ground.guard }], guard := some (23, true) }) (v := (.slice ab l.length cb)) rfl (by kernel_rfl) (by kernel_rfl) (by kernel_rfl) (by kernel_rfl) (by kernel_rfl) (fun _ _ _ h => h) (BL.cls w8) ?_ ?_
      · refine Or.inl ⟨rfl, fun w hSw => ?_⟩
        exact EffR.same (by go_simp)
      try simp only [Act.put, List.setIfInBounds_toArray, List.set_cons_zero, List.set_cons_succ]
      refine wpAnyU_take (i := 26) (oi := { dst := some 57, op := Op.call { callee := Callee.value (Operand.func 8), args := #[Operand.tmp 55, Operand.tmp 56], argTypes := #[25, 25] }, type := 4, pos := "law.go:48", after := #[{ on := 24, ground := Ground.data }, { on := 25, ground := Ground.data }, { on := 23, ground := Ground.chain }, { on := 23, ground := Ground.guard }], guard := some (23, true) }) (v := (.bool true)) rfl (by kernel_rfl) (by kernel_rfl) (by kernel_rfl) (by kernel_rfl) (by kernel_rfl) (fun _ _ _ h => h) (BL.cls w8) ?_ ?_
      · refine Or.inl ⟨rfl, fun w hSw => ?_⟩
        go_simp
        show Calls _ _ _ _ _
        refine (Bytes_any _ _ _ l l (HTT.out.mono hSw) (HB.out.mono hSw)).mono ?_
        rintro e w1 ⟨rfl, hb⟩
        exact ⟨by rw [decide_eq_true rfl], hb⟩
      try simp only [Act.put, List.setIfInBounds_toArray, List.set_cons_zero, List.set_cons_succ]
      refine wpAnyU_take (i := 27) (oi := { dst := some 58, op := Op.pick (Operand.tmp 54) (Operand.tmp 57) (Operand.const (Value.bool false)), type := 4, pos := "law.go:48", after := #[{ on := 23, ground := Ground.data }, { on := 26, ground := Ground.data }], guard := none }) (v := (.bool true)) rfl (by kernel_rfl) (by kernel_rfl) (by kernel_rfl) (by kernel_rfl) (by kernel_rfl) (fun _ _ _ h => h) (BL.cls w8) ?_ ?_
      · refine Or.inl ⟨rfl, fun w hSw => ?_⟩
        exact EffR.same (by go_simp)
      try simp only [Act.put, List.setIfInBounds_toArray, List.set_cons_zero, List.set_cons_succ]
      refine wpAnyU_take (i := 28) (oi := { dst := some 59, op := Op.move (Operand.tmp 58), type := 4, pos := "law.go:48", after := #[{ on := 27, ground := Ground.data }, { on := 26, ground := Ground.chain }], guard := none }) (v := (.bool true)) rfl (by kernel_rfl) (by kernel_rfl) (by kernel_rfl) (by kernel_rfl) (by kernel_rfl) (fun _ _ _ h => h) (BL.cls w8) ?_ ?_
      · refine Or.inl ⟨rfl, fun w hSw => ?_⟩
        exact EffR.same (by go_simp)
      try simp only [Act.put, List.setIfInBounds_toArray, List.set_cons_zero, List.set_cons_succ]
      refine wpAnyU_take (i := 29) (oi := { dst := some 60, op := Op.call { callee := Callee.value (Operand.func 16), args := #[], argTypes := #[] }, type := 4, pos := "law.go:48", after := #[{ on := 28, ground := Ground.chain }, { on := 28, ground := Ground.guard }], guard := some (28, true) }) (v := (.bool true)) rfl (by kernel_rfl) (by kernel_rfl) (by kernel_rfl) (by kernel_rfl) (by kernel_rfl) (fun _ _ _ h => h) (BL.cls w8) ?_ ?_
      · refine Or.inl ⟨rfl, fun w hSw => ?_⟩
        go_simp
        show Calls _ _ _ _ _
        refine (wakes_any _).mono ?_
        rintro e w1 ⟨rfl, hb⟩
        exact ⟨rfl, hb⟩
      try simp only [Act.put, List.setIfInBounds_toArray, List.set_cons_zero, List.set_cons_succ]
      refine wpAnyU_take (i := 30) (oi := { dst := some 61, op := Op.pick (Operand.tmp 59) (Operand.tmp 60) (Operand.const (Value.bool false)), type := 4, pos := "law.go:48", after := #[{ on := 28, ground := Ground.data }, { on := 29, ground := Ground.data }], guard := none }) (v := (.bool true)) rfl (by kernel_rfl) (by kernel_rfl) (by kernel_rfl) (by kernel_rfl) (by kernel_rfl) (fun _ _ _ h => h) (BL.cls w8) ?_ ?_
      · refine Or.inl ⟨rfl, fun w hSw => ?_⟩
        exact EffR.same (by go_simp)
      try simp only [Act.put, List.setIfInBounds_toArray, List.set_cons_zero, List.set_cons_succ]
      refine wpAnyU_take (i := 31) (oi := { dst := some 4, op := Op.assign (Operand.tmp 61), type := 4, pos := "law.go:48", after := #[{ on := 30, ground := Ground.data }, { on := 29, ground := Ground.chain }, { on := 0, ground := Ground.phase }, { on := 1, ground := Ground.phase }, { on := 2, ground := Ground.phase }, { on := 3, ground := Ground.phase }, { on := 4, ground := Ground.phase }, { on := 5, ground := Ground.phase }, { on := 6, ground := Ground.phase }, { on := 7, ground := Ground.phase }, { on := 8, ground := Ground.phase }, { on := 9, ground := Ground.phase }, { on := 10, ground := Ground.phase }, { on := 11, ground := Ground.phase }, { on := 12, ground := Ground.phase }, { on := 13, ground := Ground.phase }, { on := 14, ground := Ground.phase }, { on := 15, ground := Ground.phase }, { on := 16, ground := Ground.phase }, { on := 17, ground := Ground.phase }, { on := 18, ground := Ground.phase }, { on := 19, ground := Ground.phase }, { on := 20, ground := Ground.phase }, { on := 21, ground := Ground.phase }, { on := 22, ground := Ground.phase }, { on := 23, ground := Ground.phase }, { on := 24, ground := Ground.phase }, { on := 25, ground := Ground.phase }, { on := 26, ground := Ground.phase }, { on := 27, ground := Ground.phase }, { on := 28, ground := Ground.phase }, { on := 29, ground := Ground.phase }, { on := 30, ground := Ground.phase }], guard := none }) (v := (.bool true)) rfl (by kernel_rfl) (by kernel_rfl) (by kernel_rfl) (by kernel_rfl) (by kernel_rfl) (fun _ _ _ h => h) (BL.cls w8) ?_ ?_
      · refine Or.inl ⟨rfl, fun w hSw => ?_⟩
        exact EffR.same (by go_simp)
      try simp only [Act.put, List.setIfInBounds_toArray, List.set_cons_zero, List.set_cons_succ]
      refine wpAnyU_done (by kernel_rfl) (fun w1 hb1 => ?_) _
      go_wp2_with fail
      go_ret
      exact ⟨rfl, bgo HB8.out hb1 HB8.out.size⟩
    · subst h0
      rw [show decide ((6 : Int) = 0) = false from rfl]
      refine wp_region_bl 32 (by kernel_rfl) ?_
      refine wpAnyU_take (i := 0) (oi := { dst := some 31, op := Op.load 24 (Operand.tmp 6), type := 24, pos := "law.go:48", after := #[], guard := none }) (v := (.agg #[.int .i64 z0, .int .i64 z1, .int .i64 z2, .int .i64 z3, .int .i64 z4, .int .i64 z5, .int .i64 z6, .int .i64 z7, .int .i64 z8, .int .i64 z9, .int .i64 z10, .int .i64 z11, .int .i64 z12, .int .i64 z13, .int .i64 z14, .int .i64 z15, .int .i64 z16])) rfl (by kernel_rfl) (by kernel_rfl) (by kernel_rfl) (by kernel_rfl) (by kernel_rfl) (fun _ _ _ h => h) (BL.cls w8) ?_ ?_
      · refine Or.inl ⟨rfl, fun w hSw => ?_⟩
        exact eff_load_mid 24 (.tmp 6) rfl ga 0 rfl [.int .i64 z0, .int .i64 z1, .int .i64 z2, .int .i64 z3, .int .i64 z4, .int .i64 z5, .int .i64 z6, .int .i64 z7, .int .i64 z8, .int .i64 z9, .int .i64 z10, .int .i64 z11, .int .i64 z12, .int .i64 z13, .int .i64 z14, .int .i64 z15, .int .i64 z16] _ (fun j v h => by rw [Nat.zero_add]; exact BL.cell hSw (HGA.out.cell h))  Try.underlying24 rfl (by rw [cmdSize]; rfl)
      try simp only [Act.put, List.setIfInBounds_toArray, List.set_cons_zero, List.set_cons_succ]
      refine wpAnyU_take (i := 1) (oi := { dst := some 32, op := Op.load 24 (Operand.tmp 8), type := 24, pos := "law.go:48", after := #[], guard := none }) (v := (.agg #[.int .i64 z0, .int .i64 z1, .int .i64 z2, .int .i64 z3, .int .i64 z4, .int .i64 z5, .int .i64 z6, .int .i64 z7, .int .i64 z8, .int .i64 z9, .int .i64 z10, .int .i64 z11, .int .i64 z12, .int .i64 z13, .int .i64 z14, .int .i64 z15, .int .i64 z16])) rfl (by kernel_rfl) (by kernel_rfl) (by kernel_rfl) (by kernel_rfl) (by kernel_rfl) (fun _ _ _ h => h) (BL.cls w8) ?_ ?_
      · refine Or.inl ⟨rfl, fun w hSw => ?_⟩
        exact eff_load_mid 24 (.tmp 8) rfl gb 0 rfl [.int .i64 z0, .int .i64 z1, .int .i64 z2, .int .i64 z3, .int .i64 z4, .int .i64 z5, .int .i64 z6, .int .i64 z7, .int .i64 z8, .int .i64 z9, .int .i64 z10, .int .i64 z11, .int .i64 z12, .int .i64 z13, .int .i64 z14, .int .i64 z15, .int .i64 z16] _ (fun j v h => by rw [Nat.zero_add]; exact BL.cell hSw (HGB.out.cell h))  Try.underlying24 rfl (by rw [cmdSize]; rfl)
      try simp only [Act.put, List.setIfInBounds_toArray, List.set_cons_zero, List.set_cons_succ]
      refine wpAnyU_take (i := 2) (oi := { dst := some 33, op := Op.call { callee := Callee.value (Operand.func 14), args := #[Operand.tmp 31, Operand.tmp 32], argTypes := #[24, 24] }, type := 4, pos := "law.go:48", after := #[{ on := 0, ground := Ground.data }, { on := 1, ground := Ground.data }], guard := none }) (v := (.bool true)) rfl (by kernel_rfl) (by kernel_rfl) (by kernel_rfl) (by kernel_rfl) (by kernel_rfl) (fun _ _ _ h => h) (BL.cls w8) ?_ ?_
      · refine Or.inl ⟨rfl, fun w hSw => ?_⟩
        go_simp
        show Calls _ _ _ _ _
        refine (KCmd_any _ z0 z1 z2 z3 z4 z5 z6 z7 z8 z9 z10 z11 z12 z13 z14 z15 z16 z0 z1 z2 z3 z4 z5 z6 z7 z8 z9 z10 z11 z12 z13 z14 z15 z16).mono ?_
        rintro e w1 ⟨rfl, hb⟩
        exact ⟨by rw [decide_eq_true rfl], hb⟩
      try simp only [Act.put, List.setIfInBounds_toArray, List.set_cons_zero, List.set_cons_succ]
      refine wpAnyU_take (i := 3) (oi := { dst := some 34, op := Op.move (Operand.tmp 33), type := 4, pos := "law.go:48", after := #[{ on := 2, ground := Ground.data }, { on := 2, ground := Ground.chain }], guard := none }) (v := (.bool true)) rfl (by kernel_rfl) (by kernel_rfl) (by kernel_rfl) (by kernel_rfl) (by kernel_rfl) (fun _ _ _ h => h) (BL.cls w8) ?_ ?_
      · refine Or.inl ⟨rfl, fun w hSw => ?_⟩
        exact EffR.same (by go_simp)
      try simp only [Act.put, List.setIfInBounds_toArray, List.set_cons_zero, List.set_cons_succ]
      refine wpAnyU_take (i := 4) (oi := { dst := some 35, op := Op.move (Operand.tmp 9), type := 4, pos := "law.go:48", after := #[{ on := 3, ground := Ground.guard }], guard := some (3, true) }) (v := (.bool false)) rfl (by kernel_rfl) (by kernel_rfl) (by kernel_rfl) (by kernel_rfl) (by kernel_rfl) (fun _ _ _ h => h) (BL.cls w8) ?_ ?_
      · refine Or.inl ⟨rfl, fun w hSw => ?_⟩
        exact EffR.same (by go_simp)
      try simp only [Act.put, List.setIfInBounds_toArray, List.set_cons_zero, List.set_cons_succ]
      refine wpAnyU_take (i := 5) (oi := { dst := some 36, op := Op.move (Operand.tmp 7), type := 29, pos := "law.go:48", after := #[{ on := 3, ground := Ground.guard }], guard := some (3, true) }) (v := (.int .i64 6)) rfl (by kernel_rfl) (by kernel_rfl) (by kernel_rfl) (by kernel_rfl) (by kernel_rfl) (fun _ _ _ h => h) (BL.cls w8) ?_ ?_
      · refine Or.inl ⟨rfl, fun w hSw => ?_⟩
        exact EffR.same (by go_simp)
      try simp only [Act.put, List.setIfInBounds_toArray, List.set_cons_zero, List.set_cons_succ]
      refine wpAnyU_take (i := 6) (oi := { dst := some 37, op := Op.binOp BinOp.eql 29 (Operand.tmp 36) (Operand.const (Value.int IntKind.i64 0)) 29, type := 4, pos := "law.go:48", after := #[{ on := 5, ground := Ground.data }, { on := 3, ground := Ground.guard }], guard := some (3, true) }) (v := (.bool false)) rfl (by kernel_rfl) (by kernel_rfl) (by kernel_rfl) (by kernel_rfl) (by kernel_rfl) (fun _ _ _ h => h) (BL.cls w8) ?_ ?_
      · refine Or.inl ⟨rfl, fun w hSw => ?_⟩
        exact EffR.same (by go_simp)
      try simp only [Act.put, List.setIfInBounds_toArray, List.set_cons_zero, List.set_cons_succ]
      refine wpAnyU_take (i := 7) (oi := { dst := some 38, op := Op.binOp BinOp.eql 4 (Operand.tmp 35) (Operand.tmp 37) 4, type := 4, pos := "law.go:48", after := #[{ on := 4, ground := Ground.data }, { on := 6, ground := Ground.data }, { on := 3, ground := Ground.guard }], guard := some (3, true) }) (v := (.bool true)) rfl (by kernel_rfl) (by kernel_rfl) (by kernel_rfl) (by kernel_rfl) (by kernel_rfl) (fun _ _ _ h => h) (BL.cls w8) ?_ ?_
      · refine Or.inl ⟨rfl, fun w hSw => ?_⟩
        exact EffR.same (by go_simp)
      try simp only [Act.put, List.setIfInBounds_toArray, List.set_cons_zero, List.set_cons_succ]
      refine wpAnyU_take (i := 8) (oi := { dst := some 39, op := Op.pick (Operand.tmp 34) (Operand.tmp 38) (Operand.const (Value.bool false)), type := 4, pos := "law.go:48", after := #[{ on := 3, ground := Ground.data }, { on := 7, ground := Ground.data }], guard := none }) (v := (.bool true)) rfl (by kernel_rfl) (by kernel_rfl) (by kernel_rfl) (by kernel_rfl) (by kernel_rfl) (fun _ _ _ h => h) (BL.cls w8) ?_ ?_
      · refine Or.inl ⟨rfl, fun w hSw => ?_⟩
        exact EffR.same (by go_simp)
      try simp only [Act.put, List.setIfInBounds_toArray, List.set_cons_zero, List.set_cons_succ]
      refine wpAnyU_take (i := 9) (oi := { dst := some 40, op := Op.move (Operand.tmp 39), type := 4, pos := "law.go:48", after := #[{ on := 8, ground := Ground.data }, { on := 3, ground := Ground.chain }], guard := none }) (v := (.bool true)) rfl (by kernel_rfl) (by kernel_rfl) (by kernel_rfl) (by kernel_rfl) (by kernel_rfl) (fun _ _ _ h => h) (BL.cls w8) ?_ ?_
      · refine Or.inl ⟨rfl, fun w hSw => ?_⟩
        exact EffR.same (by go_simp)
      try simp only [Act.put, List.setIfInBounds_toArray, List.set_cons_zero, List.set_cons_succ]
      refine wpAnyU_take (i := 10) (oi := { dst := some 41, op := Op.move (Operand.tmp 9), type := 4, pos := "law.go:48", after := #[{ on := 9, ground := Ground.guard }], guard := some (9, true) }) (v := (.bool false)) rfl (by kernel_rfl) (by kernel_rfl) (by kernel_rfl) (by kernel_rfl) (by kernel_rfl) (fun _ _ _ h => h) (BL.cls w8) ?_ ?_
      · refine Or.inl ⟨rfl, fun w hSw => ?_⟩
        exact EffR.same (by go_simp)
      try simp only [Act.put, List.setIfInBounds_toArray, List.set_cons_zero, List.set_cons_succ]
      refine wpAnyU_take (i := 11) (oi := { dst := some 42, op := Op.move (Operand.tmp 41), type := 4, pos := "law.go:48", after := #[{ on := 10, ground := Ground.data }, { on := 9, ground := Ground.chain }, { on := 9, ground := Ground.guard }], guard := some (9, true) }) (v := (.bool false)) rfl (by kernel_rfl) (by kernel_rfl) (by kernel_rfl) (by kernel_rfl) (by kernel_rfl) (fun _ _ _ h => h) (BL.cls w8) ?_ ?_
      · refine Or.inl ⟨rfl, fun w hSw => ?_⟩
        exact EffR.same (by go_simp)
      try simp only [Act.put, List.setIfInBounds_toArray, List.set_cons_zero, List.set_cons_succ]
      refine wpAnyU_take (i := 12) (oi := { dst := some 43, op := Op.move (Operand.tmp 7), type := 29, pos := "law.go:48", after := #[{ on := 11, ground := Ground.guard }], guard := some (11, false) }) (v := (.int .i64 6)) rfl (by kernel_rfl) (by kernel_rfl) (by kernel_rfl) (by kernel_rfl) (by kernel_rfl) (fun _ _ _ h => h) (BL.cls w8) ?_ ?_
      · refine Or.inl ⟨rfl, fun w hSw => ?_⟩
        exact EffR.same (by go_simp)
      try simp only [Act.put, List.setIfInBounds_toArray, List.set_cons_zero, List.set_cons_succ]
      refine wpAnyU_take (i := 13) (oi := { dst := some 44, op := Op.binOp BinOp.eql 29 (Operand.tmp 43) (Operand.const (Value.int IntKind.i64 6)) 29, type := 4, pos := "law.go:48", after := #[{ on := 12, ground := Ground.data }, { on := 11, ground := Ground.guard }], guard := some (11, false) }) (v := (.bool true)) rfl (by kernel_rfl) (by kernel_rfl) (by kernel_rfl) (by kernel_rfl) (by kernel_rfl) (fun _ _ _ h => h) (BL.cls w8) ?_ ?_
      · refine Or.inl ⟨rfl, fun w hSw => ?_⟩
        exact EffR.same (by go_simp)
      try simp only [Act.put, List.setIfInBounds_toArray, List.set_cons_zero, List.set_cons_succ]
      refine wpAnyU_take (i := 14) (oi := { dst := some 45, op := Op.pick (Operand.tmp 42) (Operand.const (Value.bool true)) (Operand.tmp 44), type := 4, pos := "law.go:48", after := #[{ on := 11, ground := Ground.data }, { on := 13, ground := Ground.data }, { on := 9, ground := Ground.guard }], guard := some (9, true) }) (v := (.bool true)) rfl (by kernel_rfl) (by kernel_rfl) (by kernel_rfl) (by kernel_rfl) (by kernel_rfl) (fun _ _ _ h => h) (BL.cls w8) ?_ ?_
      · refine Or.inl ⟨rfl, fun w hSw => ?_⟩
        exact EffR.same (by go_simp)
      try simp only [Act.put, List.setIfInBounds_toArray, List.set_cons_zero, List.set_cons_succ]
      refine wpAnyU_take (i := 15) (oi := { dst := some 46, op := Op.pick (Operand.tmp 40) (Operand.tmp 45) (Operand.const (Value.bool false)), type := 4, pos := "law.go:48", after := #[{ on := 9, ground := Ground.data }, { on := 14, ground := Ground.data }], guard := none }) (v := (.bool true)) rfl (by kernel_rfl) (by kernel_rfl) (by kernel_rfl) (by kernel_rfl) (by kernel_rfl) (fun _ _ _ h => h) (BL.cls w8) ?_ ?_
      · refine Or.inl ⟨rfl, fun w hSw => ?_⟩
        exact EffR.same (by go_simp)
      try simp only [Act.put, List.setIfInBounds_toArray, List.set_cons_zero, List.set_cons_succ]
      refine wpAnyU_take (i := 16) (oi := { dst := some 47, op := Op.move (Operand.tmp 46), type := 4, pos := "law.go:48", after := #[{ on := 15, ground := Ground.data }, { on := 11, ground := Ground.chain }], guard := none }) (v := (.bool true)) rfl (by kernel_rfl) (by kernel_rfl) (by kernel_rfl) (by kernel_rfl) (by kernel_rfl) (fun _ _ _ h => h) (BL.cls w8) ?_ ?_
      · refine Or.inl ⟨rfl, fun w hSw => ?_⟩
        exact EffR.same (by go_simp)
      try simp only [Act.put, List.setIfInBounds_toArray, List.set_cons_zero, List.set_cons_succ]
      refine wpAnyU_take (i := 17) (oi := { dst := some 48, op := Op.move (Operand.tmp 5), type := 25, pos := "law.go:48", after := #[{ on := 16, ground := Ground.guard }], guard := some (16, true) }) (v := (.slice a5 n5 c5)) rfl (by kernel_rfl) (by kernel_rfl) (by kernel_rfl) (by kernel_rfl) (by kernel_rfl) (fun _ _ _ h => h) (BL.cls w8) ?_ ?_
      · refine Or.inl ⟨rfl, fun w hSw => ?_⟩
        exact EffR.same (by go_simp)
      try simp only [Act.put, List.setIfInBounds_toArray, List.set_cons_zero, List.set_cons_succ]
      refine wpAnyU_take (i := 18) (oi := { dst := some 49, op := Op.call { callee := Callee.value (Operand.func 15), args := #[Operand.tmp 48], argTypes := #[25] }, type := 3, pos := "law.go:48", after := #[{ on := 17, ground := Ground.data }, { on := 16, ground := Ground.chain }, { on := 16, ground := Ground.guard }], guard := some (16, true) }) (v := (.int .i64 z2)) rfl (by kernel_rfl) (by kernel_rfl) (by kernel_rfl) (by kernel_rfl) (by kernel_rfl) (fun _ _ _ h => h) (BL.cls w8) ?_ ?_
      · refine Or.inl ⟨rfl, fun w hSw => ?_⟩
        go_simp
        show Calls _ _ _ _ _
        refine (Kind_any _ _ l (HTT.out.mono hSw) HLEN.out).mono ?_
        rintro e w1 ⟨rfl, hb⟩
        exact ⟨by rw [HZ.out]; rfl, hb⟩
      try simp only [Act.put, List.setIfInBounds_toArray, List.set_cons_zero, List.set_cons_succ]
      refine wpAnyU_take (i := 19) (oi := { dst := some 50, op := Op.fieldAddr 24 (Operand.tmp 8) 2, type := 0, pos := "law.go:48", after := #[{ on := 16, ground := Ground.guard }], guard := some (16, true) }) (v := (.pointer (some ⟨gb, 2, none⟩))) rfl (by kernel_rfl) (by kernel_rfl) (by kernel_rfl) (by kernel_rfl) (by kernel_rfl) (fun _ _ _ h => h) (BL.cls w8) ?_ ?_
      · refine Or.inl ⟨rfl, fun w hSw => ?_⟩
        exact EffR.same (by go_simp)
      try simp only [Act.put, List.setIfInBounds_toArray, List.set_cons_zero, List.set_cons_succ]
      refine wpAnyU_take (i := 20) (oi := { dst := some 51, op := Op.load 3 (Operand.tmp 50), type := 3, pos := "law.go:48", after := #[{ on := 19, ground := Ground.data }, { on := 16, ground := Ground.guard }], guard := some (16, true) }) (v := (.int .i64 z2)) rfl (by kernel_rfl) (by kernel_rfl) (by kernel_rfl) (by kernel_rfl) (by kernel_rfl) (fun _ _ _ h => h) (BL.cls w8) ?_ ?_
      · refine Or.inl ⟨rfl, fun w hSw => ?_⟩
        have e0 := BL.cell hSw (HGB.out.cell (j := 2) rfl)
        exact EffR.same (by go_simp)
      try simp only [Act.put, List.setIfInBounds_toArray, List.set_cons_zero, List.set_cons_succ]
      refine wpAnyU_take (i := 21) (oi := { dst := some 52, op := Op.binOp BinOp.eql 3 (Operand.tmp 49) (Operand.tmp 51) 3, type := 4, pos := "law.go:48", after := #[{ on := 18, ground := Ground.data }, { on := 20, ground := Ground.data }, { on := 16, ground := Ground.guard }], guard := some (16, true) }) (v := (.bool true)) rfl (by kernel_rfl) (by kernel_rfl) (by kernel_rfl) (by kernel_rfl) (by kernel_rfl) (fun _ _ _ h => h) (BL.cls w8) ?_ ?_
      · refine Or.inl ⟨rfl, fun w hSw => ?_⟩
        exact EffR.same (by go_simp)
      try simp only [Act.put, List.setIfInBounds_toArray, List.set_cons_zero, List.set_cons_succ]
      refine wpAnyU_take (i := 22) (oi := { dst := some 53, op := Op.pick (Operand.tmp 47) (Operand.tmp 52) (Operand.const (Value.bool false)), type := 4, pos := "law.go:48", after := #[{ on := 16, ground := Ground.data }, { on := 21, ground := Ground.data }], guard := none }) (v := (.bool true)) rfl (by kernel_rfl) (by kernel_rfl) (by kernel_rfl) (by kernel_rfl) (by kernel_rfl) (fun _ _ _ h => h) (BL.cls w8) ?_ ?_
      · refine Or.inl ⟨rfl, fun w hSw => ?_⟩
        exact EffR.same (by go_simp)
      try simp only [Act.put, List.setIfInBounds_toArray, List.set_cons_zero, List.set_cons_succ]
      refine wpAnyU_take (i := 23) (oi := { dst := some 54, op := Op.move (Operand.tmp 53), type := 4, pos := "law.go:48", after := #[{ on := 22, ground := Ground.data }, { on := 18, ground := Ground.chain }], guard := none }) (v := (.bool true)) rfl (by kernel_rfl) (by kernel_rfl) (by kernel_rfl) (by kernel_rfl) (by kernel_rfl) (fun _ _ _ h => h) (BL.cls w8) ?_ ?_
      · refine Or.inl ⟨rfl, fun w hSw => ?_⟩
        exact EffR.same (by go_simp)
      try simp only [Act.put, List.setIfInBounds_toArray, List.set_cons_zero, List.set_cons_succ]
      refine wpAnyU_take (i := 24) (oi := { dst := some 55, op := Op.move (Operand.tmp 5), type := 25, pos := "law.go:48", after := #[{ on := 23, ground := Ground.guard }], guard := some (23, true) }) (v := (.slice a5 n5 c5)) rfl (by kernel_rfl) (by kernel_rfl) (by kernel_rfl) (by kernel_rfl) (by kernel_rfl) (fun _ _ _ h => h) (BL.cls w8) ?_ ?_
      · refine Or.inl ⟨rfl, fun w hSw => ?_⟩
        exact EffR.same (by go_simp)
      try simp only [Act.put, List.setIfInBounds_toArray, List.set_cons_zero, List.set_cons_succ]
      refine wpAnyU_take (i := 25) (oi := { dst := some 56, op := Op.move (Operand.tmp 1), type := 25, pos := "law.go:48", after := #[{ on := 23, ground := Ground.guard }], guard := some (23, true) }) (v := (.slice ab l.length cb)) rfl (by kernel_rfl) (by kernel_rfl) (by kernel_rfl) (by kernel_rfl) (by kernel_rfl) (fun _ _ _ h => h) (BL.cls w8) ?_ ?_
      · refine Or.inl ⟨rfl, fun w hSw => ?_⟩
        exact EffR.same (by go_simp)
      try simp only [Act.put, List.setIfInBounds_toArray, List.set_cons_zero, List.set_cons_succ]
      refine wpAnyU_take (i := 26) (oi := { dst := some 57, op := Op.call { callee := Callee.value (Operand.func 8), args := #[Operand.tmp 55, Operand.tmp 56], argTypes := #[25, 25] }, type := 4, pos := "law.go:48", after := #[{ on := 24, ground := Ground.data }, { on := 25, ground := Ground.data }, { on := 23, ground := Ground.chain }, { on := 23, ground := Ground.guard }], guard := some (23, true) }) (v := (.bool true)) rfl (by kernel_rfl) (by kernel_rfl) (by kernel_rfl) (by kernel_rfl) (by kernel_rfl) (fun _ _ _ h => h) (BL.cls w8) ?_ ?_
      · refine Or.inl ⟨rfl, fun w hSw => ?_⟩
        go_simp
        show Calls _ _ _ _ _
        refine (Bytes_any _ _ _ l l (HTT.out.mono hSw) (HB.out.mono hSw)).mono ?_
        rintro e w1 ⟨rfl, hb⟩
        exact ⟨by rw [decide_eq_true rfl], hb⟩
      try simp only [Act.put, List.setIfInBounds_toArray, List.set_cons_zero, List.set_cons_succ]
      refine wpAnyU_take (i := 27) (oi := { dst := some 58, op := Op.pick (Operand.tmp 54) (Operand.tmp 57) (Operand.const (Value.bool false)), type := 4, pos := "law.go:48", after := #[{ on := 23, ground := Ground.data }, { on := 26, ground := Ground.data }], guard := none }) (v := (.bool true)) rfl (by kernel_rfl) (by kernel_rfl) (by kernel_rfl) (by kernel_rfl) (by kernel_rfl) (fun _ _ _ h => h) (BL.cls w8) ?_ ?_
      · refine Or.inl ⟨rfl, fun w hSw => ?_⟩
        exact EffR.same (by go_simp)
      try simp only [Act.put, List.setIfInBounds_toArray, List.set_cons_zero, List.set_cons_succ]
      refine wpAnyU_take (i := 28) (oi := { dst := some 59, op := Op.move (Operand.tmp 58), type := 4, pos := "law.go:48", after := #[{ on := 27, ground := Ground.data }, { on := 26, ground := Ground.chain }], guard := none }) (v := (.bool true)) rfl (by kernel_rfl) (by kernel_rfl) (by kernel_rfl) (by kernel_rfl) (by kernel_rfl) (fun _ _ _ h => h) (BL.cls w8) ?_ ?_
      · refine Or.inl ⟨rfl, fun w hSw => ?_⟩
        exact EffR.same (by go_simp)
      try simp only [Act.put, List.setIfInBounds_toArray, List.set_cons_zero, List.set_cons_succ]
      refine wpAnyU_take (i := 29) (oi := { dst := some 60, op := Op.call { callee := Callee.value (Operand.func 16), args := #[], argTypes := #[] }, type := 4, pos := "law.go:48", after := #[{ on := 28, ground := Ground.chain }, { on := 28, ground := Ground.guard }], guard := some (28, true) }) (v := (.bool true)) rfl (by kernel_rfl) (by kernel_rfl) (by kernel_rfl) (by kernel_rfl) (by kernel_rfl) (fun _ _ _ h => h) (BL.cls w8) ?_ ?_
      · refine Or.inl ⟨rfl, fun w hSw => ?_⟩
        go_simp
        show Calls _ _ _ _ _
        refine (wakes_any _).mono ?_
        rintro e w1 ⟨rfl, hb⟩
        exact ⟨rfl, hb⟩
      try simp only [Act.put, List.setIfInBounds_toArray, List.set_cons_zero, List.set_cons_succ]
      refine wpAnyU_take (i := 30) (oi := { dst := some 61, op := Op.pick (Operand.tmp 59) (Operand.tmp 60) (Operand.const (Value.bool false)), type := 4, pos := "law.go:48", after := #[{ on := 28, ground := Ground.data }, { on := 29, ground := Ground.data }], guard := none }) (v := (.bool true)) rfl (by kernel_rfl) (by kernel_rfl) (by kernel_rfl) (by kernel_rfl) (by kernel_rfl) (fun _ _ _ h => h) (BL.cls w8) ?_ ?_
      · refine Or.inl ⟨rfl, fun w hSw => ?_⟩
        exact EffR.same (by go_simp)
      try simp only [Act.put, List.setIfInBounds_toArray, List.set_cons_zero, List.set_cons_succ]
      refine wpAnyU_take (i := 31) (oi := { dst := some 4, op := Op.assign (Operand.tmp 61), type := 4, pos := "law.go:48", after := #[{ on := 30, ground := Ground.data }, { on := 29, ground := Ground.chain }, { on := 0, ground := Ground.phase }, { on := 1, ground := Ground.phase }, { on := 2, ground := Ground.phase }, { on := 3, ground := Ground.phase }, { on := 4, ground := Ground.phase }, { on := 5, ground := Ground.phase }, { on := 6, ground := Ground.phase }, { on := 7, ground := Ground.phase }, { on := 8, ground := Ground.phase }, { on := 9, ground := Ground.phase }, { on := 10, ground := Ground.phase }, { on := 11, ground := Ground.phase }, { on := 12, ground := Ground.phase }, { on := 13, ground := Ground.phase }, { on := 14, ground := Ground.phase }, { on := 15, ground := Ground.phase }, { on := 16, ground := Ground.phase }, { on := 17, ground := Ground.phase }, { on := 18, ground := Ground.phase }, { on := 19, ground := Ground.phase }, { on := 20, ground := Ground.phase }, { on := 21, ground := Ground.phase }, { on := 22, ground := Ground.phase }, { on := 23, ground := Ground.phase }, { on := 24, ground := Ground.phase }, { on := 25, ground := Ground.phase }, { on := 26, ground := Ground.phase }, { on := 27, ground := Ground.phase }, { on := 28, ground := Ground.phase }, { on := 29, ground := Ground.phase }, { on := 30, ground := Ground.phase }], guard := none }) (v := (.bool true)) rfl (by kernel_rfl) (by kernel_rfl) (by kernel_rfl) (by kernel_rfl) (by kernel_rfl) (fun _ _ _ h => h) (BL.cls w8) ?_ ?_
      · refine Or.inl ⟨rfl, fun w hSw => ?_⟩
        exact EffR.same (by go_simp)
      try simp only [Act.put, List.setIfInBounds_toArray, List.set_cons_zero, List.set_cons_succ]
      refine wpAnyU_done (by kernel_rfl) (fun w1 hb1 => ?_) _
      go_wp2_with fail
      go_ret
      exact ⟨rfl, bgo HB8.out hb1 HB8.out.size⟩
end Cam
