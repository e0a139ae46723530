import Derived.Test.YtilbijekmmkiaaaUniT
import Derived.Test.YtilbijekmmkiaaaRlB
import Derived.Test.YtilbijekmmkiaaaUni
import Derived.Deep.MidRow
import Derived.Laws.Tables
/- roll: rises, Check. -/
namespace Cam
open Go Go.RowKit Go.Proofs
abbrev oC0 : Oper := { dst := some 16, op := Op.move (Operand.tmp 2), type := 72, pos := "roll.go:38", after := #[], guard := none }
abbrev oC1 : Oper := { dst := some 17, op := Op.load 33 (Operand.tmp 8), type := 33, pos := "roll.go:38", after := #[], guard := none }
abbrev oC2 : Oper := { dst := some 18, op := Op.call { callee := Callee.value (Operand.tmp 16), args := #[Operand.tmp 17], argTypes := #[33] }, type := 4, pos := "roll.go:38", after := #[{ on := 0, ground := Ground.data }, { on := 1, ground := Ground.data }], guard := none }
abbrev oC3 : Oper := { dst := some 19, op := Op.unOp UnOp.not 4 (Operand.tmp 18), type := 4, pos := "roll.go:38", after := #[{ on := 2, ground := Ground.data }], guard := none }
abbrev oC4 : Oper := { dst := some 20, op := Op.move (Operand.tmp 19), type := 4, pos := "roll.go:38", after := #[{ on := 3, ground := Ground.data }, { on := 2, ground := Ground.chain }], guard := none }
abbrev oC5 : Oper := { dst := some 21, op := Op.move (Operand.tmp 7), type := 3, pos := "roll.go:38", after := #[{ on := 4, ground := Ground.guard }], guard := some (4, false) }
abbrev oC6 : Oper := { dst := some 22, op := Op.binOp BinOp.gtr 3 (Operand.tmp 21) (Operand.const (Value.int IntKind.i64 0)) 3, type := 4, pos := "roll.go:38", after := #[{ on := 5, ground := Ground.data }, { on := 4, ground := Ground.guard }], guard := some (4, false) }
abbrev oC7 : Oper := { dst := some 23, op := Op.move (Operand.tmp 22), type := 4, pos := "roll.go:38", after := #[{ on := 6, ground := Ground.data }, { on := 4, ground := Ground.chain }, { on := 4, ground := Ground.guard }], guard := some (4, false) }
abbrev oC8 : Oper := { dst := some 24, op := Op.move (Operand.tmp 1), type := 71, pos := "roll.go:38", after := #[{ on := 7, ground := Ground.guard }], guard := some (7, true) }
abbrev oC9 : Oper := { dst := some 25, op := Op.move (Operand.tmp 0), type := 22, pos := "roll.go:38", after := #[{ on := 7, ground := Ground.guard }], guard := some (7, true) }
abbrev oC10 : Oper := { dst := some 26, op := Op.move (Operand.tmp 7), type := 3, pos := "roll.go:38", after := #[{ on := 7, ground := Ground.guard }], guard := some (7, true) }
abbrev oC11 : Oper := { dst := some 27, op := Op.binOp BinOp.sub 3 (Operand.tmp 26) (Operand.const (Value.int IntKind.i64 1)) 3, type := 3, pos := "roll.go:38", after := #[{ on := 10, ground := Ground.data }, { on := 7, ground := Ground.guard }], guard := some (7, true) }
abbrev oC12 : Oper := { dst := some 28, op := Op.indexAddr 22 (Operand.tmp 25) (Operand.tmp 27), type := 0, pos := "roll.go:38", after := #[{ on := 9, ground := Ground.data }, { on := 11, ground := Ground.data }, { on := 7, ground := Ground.guard }], guard := some (7, true) }
abbrev oC13 : Oper := { dst := some 29, op := Op.load 33 (Operand.tmp 28), type := 33, pos := "roll.go:38", after := #[{ on := 12, ground := Ground.data }, { on := 7, ground := Ground.guard }], guard := some (7, true) }
abbrev oC14 : Oper := { dst := some 30, op := Op.call { callee := Callee.value (Operand.tmp 24), args := #[Operand.tmp 29], argTypes := #[33] }, type := 3, pos := "roll.go:38", after := #[{ on := 8, ground := Ground.data }, { on := 13, ground := Ground.data }, { on := 7, ground := Ground.chain }, { on := 7, ground := Ground.guard }], guard := some (7, true) }
abbrev oC15 : Oper := { dst := some 31, op := Op.move (Operand.tmp 1), type := 71, pos := "roll.go:38", after := #[{ on := 7, ground := Ground.guard }], guard := some (7, true) }
abbrev oC16 : Oper := { dst := some 32, op := Op.load 33 (Operand.tmp 8), type := 33, pos := "roll.go:38", after := #[{ on := 7, ground := Ground.guard }], guard := some (7, true) }
abbrev oC17 : Oper := { dst := some 33, op := Op.call { callee := Callee.value (Operand.tmp 31), args := #[Operand.tmp 32], argTypes := #[33] }, type := 3, pos := "roll.go:38", after := #[{ on := 15, ground := Ground.data }, { on := 16, ground := Ground.data }, { on := 14, ground := Ground.chain }, { on := 7, ground := Ground.guard }], guard := some (7, true) }
abbrev oC18 : Oper := { dst := some 34, op := Op.binOp BinOp.geq 3 (Operand.tmp 30) (Operand.tmp 33) 3, type := 4, pos := "roll.go:38", after := #[{ on := 14, ground := Ground.data }, { on := 17, ground := Ground.data }, { on := 7, ground := Ground.guard }], guard := some (7, true) }
abbrev oC19 : Oper := { dst := some 35, op := Op.pick (Operand.tmp 23) (Operand.tmp 34) (Operand.const (Value.bool false)), type := 4, pos := "roll.go:38", after := #[{ on := 7, ground := Ground.data }, { on := 18, ground := Ground.data }, { on := 4, ground := Ground.guard }], guard := some (4, false) }
abbrev oC20 : Oper := { dst := some 36, op := Op.pick (Operand.tmp 20) (Operand.const (Value.bool true)) (Operand.tmp 35), type := 4, pos := "roll.go:38", after := #[{ on := 4, ground := Ground.data }, { on := 19, ground := Ground.data }], guard := none }
abbrev oC21 : Oper := { dst := some 16, op := Op.move (Operand.tmp 2), type := 75, pos := "roll.go:38", after := #[], guard := none }
abbrev oC22 : Oper := { dst := some 17, op := Op.load 38 (Operand.tmp 8), type := 38, pos := "roll.go:38", after := #[], guard := none }
abbrev oC23 : Oper := { dst := some 18, op := Op.call { callee := Callee.value (Operand.tmp 16), args := #[Operand.tmp 17], argTypes := #[38] }, type := 4, pos := "roll.go:38", after := #[{ on := 0, ground := Ground.data }, { on := 1, ground := Ground.data }], guard := none }
abbrev oC24 : Oper := { dst := some 24, op := Op.move (Operand.tmp 1), type := 74, pos := "roll.go:38", after := #[{ on := 7, ground := Ground.guard }], guard := some (7, true) }
abbrev oC25 : Oper := { dst := some 25, op := Op.move (Operand.tmp 0), type := 23, pos := "roll.go:38", after := #[{ on := 7, ground := Ground.guard }], guard := some (7, true) }
abbrev oC26 : Oper := { dst := some 28, op := Op.indexAddr 23 (Operand.tmp 25) (Operand.tmp 27), type := 0, pos := "roll.go:38", after := #[{ on := 9, ground := Ground.data }, { on := 11, ground := Ground.data }, { on := 7, ground := Ground.guard }], guard := some (7, true) }
abbrev oC27 : Oper := { dst := some 29, op := Op.load 38 (Operand.tmp 28), type := 38, pos := "roll.go:38", after := #[{ on := 12, ground := Ground.data }, { on := 7, ground := Ground.guard }], guard := some (7, true) }
abbrev oC28 : Oper := { dst := some 30, op := Op.call { callee := Callee.value (Operand.tmp 24), args := #[Operand.tmp 29], argTypes := #[38] }, type := 3, pos := "roll.go:38", after := #[{ on := 8, ground := Ground.data }, { on := 13, ground := Ground.data }, { on := 7, ground := Ground.chain }, { on := 7, ground := Ground.guard }], guard := some (7, true) }
abbrev oC29 : Oper := { dst := some 31, op := Op.move (Operand.tmp 1), type := 74, pos := "roll.go:38", after := #[{ on := 7, ground := Ground.guard }], guard := some (7, true) }
abbrev oC30 : Oper := { dst := some 32, op := Op.load 38 (Operand.tmp 8), type := 38, pos := "roll.go:38", after := #[{ on := 7, ground := Ground.guard }], guard := some (7, true) }
abbrev oC31 : Oper := { dst := some 33, op := Op.call { callee := Callee.value (Operand.tmp 31), args := #[Operand.tmp 32], argTypes := #[38] }, type := 3, pos := "roll.go:38", after := #[{ on := 15, ground := Ground.data }, { on := 16, ground := Ground.data }, { on := 14, ground := Ground.chain }, { on := 7, ground := Ground.guard }], guard := some (7, true) }
abbrev oC32 : Oper := { dst := some 16, op := Op.move (Operand.tmp 2), type := 78, pos := "roll.go:38", after := #[], guard := none }
abbrev oC33 : Oper := { dst := some 17, op := Op.load 42 (Operand.tmp 8), type := 42, pos := "roll.go:38", after := #[], guard := none }
abbrev oC34 : Oper := { dst := some 18, op := Op.call { callee := Callee.value (Operand.tmp 16), args := #[Operand.tmp 17], argTypes := #[42] }, type := 4, pos := "roll.go:38", after := #[{ on := 0, ground := Ground.data }, { on := 1, ground := Ground.data }], guard := none }
abbrev oC35 : Oper := { dst := some 24, op := Op.move (Operand.tmp 1), type := 77, pos := "roll.go:38", after := #[{ on := 7, ground := Ground.guard }], guard := some (7, true) }
abbrev oC36 : Oper := { dst := some 25, op := Op.move (Operand.tmp 0), type := 24, pos := "roll.go:38", after := #[{ on := 7, ground := Ground.guard }], guard := some (7, true) }
abbrev oC37 : Oper := { dst := some 28, op := Op.indexAddr 24 (Operand.tmp 25) (Operand.tmp 27), type := 0, pos := "roll.go:38", after := #[{ on := 9, ground := Ground.data }, { on := 11, ground := Ground.data }, { on := 7, ground := Ground.guard }], guard := some (7, true) }
abbrev oC38 : Oper := { dst := some 29, op := Op.load 42 (Operand.tmp 28), type := 42, pos := "roll.go:38", after := #[{ on := 12, ground := Ground.data }, { on := 7, ground := Ground.guard }], guard := some (7, true) }
abbrev oC39 : Oper := { dst := some 30, op := Op.call { callee := Callee.value (Operand.tmp 24), args := #[Operand.tmp 29], argTypes := #[42] }, type := 3, pos := "roll.go:38", after := #[{ on := 8, ground := Ground.data }, { on := 13, ground := Ground.data }, { on := 7, ground := Ground.chain }, { on := 7, ground := Ground.guard }], guard := some (7, true) }
abbrev oC40 : Oper := { dst := some 31, op := Op.move (Operand.tmp 1), type := 77, pos := "roll.go:38", after := #[{ on := 7, ground := Ground.guard }], guard := some (7, true) }
abbrev oC41 : Oper := { dst := some 32, op := Op.load 42 (Operand.tmp 8), type := 42, pos := "roll.go:38", after := #[{ on := 7, ground := Ground.guard }], guard := some (7, true) }
abbrev oC42 : Oper := { dst := some 33, op := Op.call { callee := Callee.value (Operand.tmp 31), args := #[Operand.tmp 32], argTypes := #[42] }, type := 3, pos := "roll.go:38", after := #[{ on := 15, ground := Ground.data }, { on := 16, ground := Ground.data }, { on := 14, ground := Ground.chain }, { on := 7, ground := Ground.guard }], guard := some (7, true) }
theorem eff_load_mid {P : Program} {op : Oper} {a : Act} {w : World} (ty : TypeId) (x : Operand) (ho : op.op = .load ty x)
  (b o : Nat) (hx : a.eval x = .pointer (some ⟨b, o, none⟩)) (cs : List Value) (d : TypeDesc) (hc : w.rangeAt b o cs)
  (hu : P.underlying ty = some d) (hd : d.isRow = true) (hi : (P.info? ty).map (·.size) = some cs.length) : EffR P (.agg cs.toArray) w ((execOp a.eval op).run P w) :=
 EffR.same (by
  unfold execOp
  simp only [ho, hx, Instr.loadAt, Instr.sureAddr, Sem.run_bind, Sem.run_pure, Result.andThen_ok, run_loadVar_mid w b o ty cs d hc hu hd hi])
theorem bgo {w w1 w2 : World} {g g2 : Nat} (h : Below g w w1) (h2 : Below g2 w1 w2) (hg : g ≤ g2) : Below g w w2 := h.trans (h2.mono hg)
theorem bgoS {w wr w1 : World} (h : Below w.heap.size w wr) (h2 : BL wr w1) : Below w.heap.size w w1 := h.trans (h2.mono h.size)
theorem setRow_below {w : World} {B g : Nat} (hg : B ≤ g) (cs : Array Value) : Below B w (w.setRow g cs) := below_setRow (Below.refl _ _) hg _
theorem Rs.rew {α : Type} {enc : α → List Value} {K : Nat} {w wr : World} {a : Option Addr} {n c : Nat} {L : List α} (h : Rs enc K w (.slice a n c) L) (_ : n = L.length) (hb : Below w.heap.size w wr) : Rs enc K wr (.slice a n c) L := h.mono hb
set_option maxRecDepth 100000 in
set_option maxHeartbeats 1600000 in
theorem risesM_any (w : World) (v : Value) (L : List MbT) (h : Rs MbT.vs 3 w v L) :
  Calls Try.prog 44 #[v, .func (.func 45) #[] #[], .func (.func 46) #[] #[]] w fun e w' => e = .returned (.bool (chkB rightM MbT.no L)) ∧ Below w.heap.size w w' := by
 obtain ⟨av, cap, rfl, hcap, hm⟩ := h.shape
 obtain ⟨n, hn⟩ : ∃ n, n = L.length := ⟨_, rfl⟩
 obtain ⟨d, hd⟩ : ∃ d : Bool, d = chkB rightM MbT.no L := ⟨_, rfl⟩
 rw [← hd]
 rw [← hn] at h hcap ⊢
 have HR := Lib.hid h
 have HN := Lib.hid hn
 have HD := Lib.hid hd
 clear h hn hd
 go_enter Try.func44, Try.ntmps44
 go_wp2_with fail
 go_loopw [11] (fun i wr => ∃ k : Nat, k ≤ n ∧ i = .int .i64 k ∧ Hid (ChkTo rightM MbT.no L k) ∧ Below w.heap.size w wr) (fun i _ => n - (intOf i).toNat)
 case atStart => exact ⟨0, Nat.zero_le _, rfl, ChkTo.zero _ _ _, Below.refl _ _⟩
 case round =>
  obtain ⟨k, hk, rfl, HT0, hbel⟩ := hrel
  by_cases hlt : k < n
  ·
   have hkL : k < L.length := by rw [← HN.out]; exact hlt
   obtain ⟨ba, offa, rfl, _, hca⟩ := (HR.out.rew HN.out hbel).at (by omega) (by decide)
   obtain ⟨c, hc⟩ : ∃ c, c = L[k] := ⟨_, rfl⟩
   have HCA : Hid (∀ j v, [.int .i64 c.no, .int .i64 c.state, .int .i64 c.need][j]? = some v → wr.cell? ⟨ba, offa + k * 3 + j, none⟩ = some v) := fun j v h => hca k hkL j v (by rw [← hc]; exact h)
   have HBL := Lib.hid hbel
   have hk0 : (0 : Int) ≤ k := by omega
   have hk1 : (k : Int) < n := by omega
   have HC := Lib.hid hc
   clear hc hca hbel
   have HSZ : Hid ((Try.prog.info? 33).map (·.size) = some (#[.int .i64 c.no, .int .i64 c.state, .int .i64 c.need] : Array Value).size) := by show _ = _; rw [mem_sz]; rfl
   have HSE : Hid ((#[.int .i64 0, .int .i64 0, .int .i64 0] : Array Value).size = (#[.int .i64 c.no, .int .i64 c.state, .int .i64 c.need] : Array Value).size) := by show _ = _; rfl
   have HON : Hid ((#[.int .i64 c.no, .int .i64 c.state, .int .i64 c.need] : Array Value).all (·.oneCell') = true) := by show _ = true; simp [Value.oneCell']
   go_upto_region 4 with (first
    | (refine wpList_load_mid rfl 33 (.tmp 14) rfl ba (offa + k * 3) rfl [.int .i64 c.no, .int .i64 c.state, .int .i64 c.need] _ (fun j v h => HCA.out j v h) Try.underlying33 rfl HSZ.out ?_)
    | (refine wpList_store_row rfl 33 (.tmp 8) (.tmp 15) rfl wr.heap.size #[.int .i64 c.no, .int .i64 c.state, .int .i64 c.need] rfl rfl 33 #[.int .i64 0, .int .i64 0, .int .i64 0] (heap_alloc_new _ _) HSZ.out HSE.out HON.out ?_)
    | fail)
   have hbs : Below wr.heap.size wr ((wr.alloc (.cells #[.int .i64 0, .int .i64 0, .int .i64 0] 33)).setRow wr.heap.size #[.int .i64 c.no, .int .i64 c.state, .int .i64 c.need]) := ((Below.refl _ _).alloc (Nat.le_refl _) _).trans (setRow_below (Nat.le_refl _) _)
   have hx : HT ((wr.alloc (.cells #[.int .i64 0, .int .i64 0, .int .i64 0] 33)).setRow wr.heap.size #[.int .i64 c.no, .int .i64 c.state, .int .i64 c.need]) wr.heap.size 33 [.int .i64 c.no, .int .i64 c.state, .int .i64 c.need] := setRow_heap _ _ _ _ _ _ (heap_alloc_new _ _)
   have hbw := bgo HBL.out hbs (Below.size HBL.out)
   obtain ⟨W, hW⟩ : ∃ x, x = ((wr.alloc (.cells #[.int .i64 0, .int .i64 0, .int .i64 0] 33)).setRow wr.heap.size #[.int .i64 c.no, .int .i64 c.state, .int .i64 c.need]) := ⟨_, rfl⟩
   rw [← hW] at hbs hx hbw ⊢
   obtain ⟨gx, hg⟩ : ∃ x, x = wr.heap.size := ⟨_, rfl⟩
   rw [← hg] at hx ⊢
   have HX := Lib.hid hx
   have HBW := Lib.hid hbw
   have HBS := Lib.hid hbs
   clear hW hx hbw hbs hg HSE HON
   by_cases hr : rightM c = true
   ·
    have HRC := Lib.hid hr
    clear hr
    by_cases h0 : k = 0
    ·
     have HNX : Hid (ChkTo rightM MbT.no L (k + 1)) := HT0.out.next hkL (by rw [← HC.out]; exact HRC.out) (fun h => absurd h (by omega))
     have hz1 : ¬ (0 < k) := by omega
     have hz2 : ¬ ((0 : Int) < (k : Int)) := by omega
     clear h0
     refine wp_region_bl 21 (by kernel_rfl) ?_
     refine otks (i := 0) (oi := oC0) (v := (.func (.func 46) #[] #[])) rfl (by kernel_rfl) (BL.cls W) rfl (fun w hSw => by go_simp) ?_
     try simp only [Act.put, zA, zB, zC]
     refine otk (i := 1) (oi := oC1) (v := (.agg #[.int .i64 c.no, .int .i64 c.state, .int .i64 c.need])) rfl (by kernel_rfl) (BL.cls W) ?_ ?_
     ·
      refine Or.inl ⟨rfl, fun w hSw => ?_⟩
      exact eff_load_mid 33 (.tmp 8) rfl gx (0) rfl [.int .i64 c.no, .int .i64 c.state, .int .i64 c.need] _ (fun j v h => BL.cell hSw (HX.out.cell (by simpa using h))) Try.underlying33 rfl HSZ.out
     try simp only [Act.put, zA, zB, zC]
     refine otk (i := 2) (oi := oC2) (v := (.bool true)) rfl (by kernel_rfl) (BL.cls W) ?_ ?_
     ·
      refine Or.inl ⟨rfl, fun w hSw => ?_⟩
      go_simp
      show Calls _ _ _ _ _
      refine (rightM_any _ c.no c.state c.need).mono ?_
      rintro e w1 ⟨rfl, hb⟩
      exact ⟨by rw [HRC.out], hb⟩
     try simp only [Act.put, zA, zB, zC]
     refine otks (i := 3) (oi := oC3) (v := (.bool false)) rfl (by kernel_rfl) (BL.cls W) rfl (fun w hSw => by go_simp) ?_
     try simp only [Act.put, zA, zB, zC]
     refine otks (i := 4) (oi := oC4) (v := (.bool false)) rfl (by kernel_rfl) (BL.cls W) rfl (fun w hSw => by go_simp) ?_
     try simp only [Act.put, zA, zB, zC]
     refine otks (i := 5) (oi := oC5) (v := (.int .i64 (k : Int))) rfl (by kernel_rfl) (BL.cls W) rfl (fun w hSw => by go_simp) ?_
     try simp only [Act.put, zA, zB, zC]
     refine otks (i := 6) (oi := oC6) (v := (.bool false)) rfl (by kernel_rfl) (BL.cls W) rfl (fun w hSw => by go_simp) ?_
     try simp only [Act.put, zA, zB, zC]
     refine otks (i := 7) (oi := oC7) (v := (.bool false)) rfl (by kernel_rfl) (BL.cls W) rfl (fun w hSw => by go_simp) ?_
     try simp only [Act.put, zA, zB, zC]
     refine otku (i := 8) (oi := oC8) rfl (by kernel_rfl) (BL.cls W) rfl ?_
     try simp only [Act.put, zA, zB, zC]
     refine otku (i := 9) (oi := oC9) rfl (by kernel_rfl) (BL.cls W) rfl ?_
     try simp only [Act.put, zA, zB, zC]
     refine otku (i := 10) (oi := oC10) rfl (by kernel_rfl) (BL.cls W) rfl ?_
     try simp only [Act.put, zA, zB, zC]
     refine otku (i := 11) (oi := oC11) rfl (by kernel_rfl) (BL.cls W) rfl ?_
     try simp only [Act.put, zA, zB, zC]
     refine otku (i := 12) (oi := oC12) rfl (by kernel_rfl) (BL.cls W) rfl ?_
     try simp only [Act.put, zA, zB, zC]
     refine otku (i := 13) (oi := oC13) rfl (by kernel_rfl) (BL.cls W) rfl ?_
     try simp only [Act.put, zA, zB, zC]
     refine otku (i := 14) (oi := oC14) rfl (by kernel_rfl) (BL.cls W) rfl ?_
     try simp only [Act.put, zA, zB, zC]
     refine otku (i := 15) (oi := oC15) rfl (by kernel_rfl) (BL.cls W) rfl ?_
     try simp only [Act.put, zA, zB, zC]
     refine otku (i := 16) (oi := oC16) rfl (by kernel_rfl) (BL.cls W) rfl ?_
     try simp only [Act.put, zA, zB, zC]
     refine otku (i := 17) (oi := oC17) rfl (by kernel_rfl) (BL.cls W) rfl ?_
     try simp only [Act.put, zA, zB, zC]
     refine otku (i := 18) (oi := oC18) rfl (by kernel_rfl) (BL.cls W) rfl ?_
     try simp only [Act.put, zA, zB, zC]
     refine otks (i := 19) (oi := oC19) (v := (.bool false)) rfl (by kernel_rfl) (BL.cls W) rfl (fun w hSw => by go_simp) ?_
     try simp only [Act.put, zA, zB, zC]
     refine otks (i := 20) (oi := oC20) (v := (.bool false)) rfl (by kernel_rfl) (BL.cls W) rfl (fun w hSw => by go_simp) ?_
     try simp only [Act.put, zA, zB, zC]
     refine wpAnyU_done (by kernel_rfl) (fun w1 hb1 => ?_) _
     go_wp2_with fail
     exact ⟨⟨k + 1, by omega, by push_cast; rfl, HNX.out, bgoS HBW.out hb1⟩, by simp [intOf]; omega⟩
    ·
     obtain ⟨m, hm2⟩ : ∃ m, m = k - 1 := ⟨_, rfl⟩
     have hz1 : 0 < k := by omega
     have hz2 : (0 : Int) < (k : Int) := by omega
     have hmL : m < L.length := by omega
     have hm0 : (0 : Int) ≤ (m : Int) := by omega
     have hm1 : (m : Int) < n := by omega
     obtain ⟨y, hy⟩ : ∃ y, y = L[m] := ⟨_, rfl⟩
     have HCY : Hid (∀ j v, [.int .i64 y.no, .int .i64 y.state, .int .i64 y.need][j]? = some v → W.cell? ⟨ba, offa + m * 3 + j, none⟩ = some v) := by
      intro j v h
      obtain ⟨b2, o2, e2, _, hca2⟩ := (HR.out.rew HN.out HBW.out).at (by omega) (by decide)
      simp only [Option.some.injEq, Addr.mk.injEq, and_true] at e2
      obtain ⟨rfl, rfl⟩ := e2
      exact hca2 m hmL j v (by rw [← hy]; exact h)
     have hwr : IntKind.i64.wrap ((k : Int) - 1) = (m : Int) := by rw [IntKind.wrap_i64]; omega
     have HWR := Lib.hid hwr
     clear hwr h0
     by_cases hge : c.no ≤ y.no
     ·
      have HNO : Hid (chkB rightM MbT.no L = false) := by
       refine chk_no2 hkL hz1 ?_
       have e1 : L[k - 1]'(by omega) = y := by rw [hy]; congr 1; exact hm2.symm
       rw [e1, ← HC.out]
       exact hge
      have hgd : decide (y.no ≥ c.no) = true := decide_eq_true hge
      have hwr := HWR.out
      clear hy hm2
      refine wp_region_bl 21 (by kernel_rfl) ?_
      refine otks (i := 0) (oi := oC0) (v := (.func (.func 46) #[] #[])) rfl (by kernel_rfl) (BL.cls W) rfl (fun w hSw => by go_simp) ?_
      try simp only [Act.put, zA, zB, zC]
      refine otk (i := 1) (oi := oC1) (v := (.agg #[.int .i64 c.no, .int .i64 c.state, .int .i64 c.need])) rfl (by kernel_rfl) (BL.cls W) ?_ ?_
      ·
       refine Or.inl ⟨rfl, fun w hSw => ?_⟩
       exact eff_load_mid 33 (.tmp 8) rfl gx (0) rfl [.int .i64 c.no, .int .i64 c.state, .int .i64 c.need] _ (fun j v h => BL.cell hSw (HX.out.cell (by simpa using h))) Try.underlying33 rfl HSZ.out
      try simp only [Act.put, zA, zB, zC]
      refine otk (i := 2) (oi := oC2) (v := (.bool true)) rfl (by kernel_rfl) (BL.cls W) ?_ ?_
      ·
       refine Or.inl ⟨rfl, fun w hSw => ?_⟩
       go_simp
       show Calls _ _ _ _ _
       refine (rightM_any _ c.no c.state c.need).mono ?_
       rintro e w1 ⟨rfl, hb⟩
       exact ⟨by rw [HRC.out], hb⟩
      try simp only [Act.put, zA, zB, zC]
      refine otks (i := 3) (oi := oC3) (v := (.bool false)) rfl (by kernel_rfl) (BL.cls W) rfl (fun w hSw => by go_simp) ?_
      try simp only [Act.put, zA, zB, zC]
      refine otks (i := 4) (oi := oC4) (v := (.bool false)) rfl (by kernel_rfl) (BL.cls W) rfl (fun w hSw => by go_simp) ?_
      try simp only [Act.put, zA, zB, zC]
      refine otks (i := 5) (oi := oC5) (v := (.int .i64 (k : Int))) rfl (by kernel_rfl) (BL.cls W) rfl (fun w hSw => by go_simp) ?_
      try simp only [Act.put, zA, zB, zC]
      refine otks (i := 6) (oi := oC6) (v := (.bool true)) rfl (by kernel_rfl) (BL.cls W) rfl (fun w hSw => by go_simp) ?_
      try simp only [Act.put, zA, zB, zC]
      refine otks (i := 7) (oi := oC7) (v := (.bool true)) rfl (by kernel_rfl) (BL.cls W) rfl (fun w hSw => by go_simp) ?_
      try simp only [Act.put, zA, zB, zC]
      refine otks (i := 8) (oi := oC8) (v := (.func (.func 45) #[] #[])) rfl (by kernel_rfl) (BL.cls W) rfl (fun w hSw => by go_simp) ?_
      try simp only [Act.put, zA, zB, zC]
      refine otks (i := 9) (oi := oC9) (v := (.slice (some ⟨ba, offa, none⟩) n cap)) rfl (by kernel_rfl) (BL.cls W) rfl (fun w hSw => by go_simp) ?_
      try simp only [Act.put, zA, zB, zC]
      refine otks (i := 10) (oi := oC10) (v := (.int .i64 (k : Int))) rfl (by kernel_rfl) (BL.cls W) rfl (fun w hSw => by go_simp) ?_
      try simp only [Act.put, zA, zB, zC]
      refine otks (i := 11) (oi := oC11) (v := (.int .i64 (m : Int))) rfl (by kernel_rfl) (BL.cls W) rfl (fun w hSw => by go_simp) ?_
      try simp only [Act.put, zA, zB, zC]
      refine otks (i := 12) (oi := oC12) (v := (.pointer (some ⟨ba, offa + m * 3, none⟩))) rfl (by kernel_rfl) (BL.cls W) rfl (fun w hSw => by go_simp) ?_
      try simp only [Act.put, zA, zB, zC]
      refine otk (i := 13) (oi := oC13) (v := (.agg #[.int .i64 y.no, .int .i64 y.state, .int .i64 y.need])) rfl (by kernel_rfl) (BL.cls W) ?_ ?_
      ·
       refine Or.inl ⟨rfl, fun w hSw => ?_⟩
       exact eff_load_mid 33 (.tmp 28) rfl ba (offa + m * 3) rfl [.int .i64 y.no, .int .i64 y.state, .int .i64 y.need] _ (fun j v h => BL.cell hSw (HCY.out j v h)) Try.underlying33 rfl HSZ.out
      try simp only [Act.put, zA, zB, zC]
      refine otk (i := 14) (oi := oC14) (v := (.int .i64 y.no)) rfl (by kernel_rfl) (BL.cls W) ?_ ?_
      ·
       refine Or.inl ⟨rfl, fun w hSw => ?_⟩
       go_simp
       show Calls _ _ _ _ _
       refine (noM_any _ y.no y.state y.need).mono ?_
       rintro e w1 ⟨rfl, hb⟩
       exact ⟨rfl, hb⟩
      try simp only [Act.put, zA, zB, zC]
      refine otks (i := 15) (oi := oC15) (v := (.func (.func 45) #[] #[])) rfl (by kernel_rfl) (BL.cls W) rfl (fun w hSw => by go_simp) ?_
      try simp only [Act.put, zA, zB, zC]
      refine otk (i := 16) (oi := oC16) (v := (.agg #[.int .i64 c.no, .int .i64 c.state, .int .i64 c.need])) rfl (by kernel_rfl) (BL.cls W) ?_ ?_
      ·
       refine Or.inl ⟨rfl, fun w hSw => ?_⟩
       exact eff_load_mid 33 (.tmp 8) rfl gx (0) rfl [.int .i64 c.no, .int .i64 c.state, .int .i64 c.need] _ (fun j v h => BL.cell hSw (HX.out.cell (by simpa using h))) Try.underlying33 rfl HSZ.out
      try simp only [Act.put, zA, zB, zC]
      refine otk (i := 17) (oi := oC17) (v := (.int .i64 c.no)) rfl (by kernel_rfl) (BL.cls W) ?_ ?_
      ·
       refine Or.inl ⟨rfl, fun w hSw => ?_⟩
       go_simp
       show Calls _ _ _ _ _
       refine (noM_any _ c.no c.state c.need).mono ?_
       rintro e w1 ⟨rfl, hb⟩
       exact ⟨rfl, hb⟩
      try simp only [Act.put, zA, zB, zC]
      refine otks (i := 18) (oi := oC18) (v := (.bool true)) rfl (by kernel_rfl) (BL.cls W) rfl (fun w hSw => by go_simp) ?_
      try simp only [Act.put, zA, zB, zC]
      refine otks (i := 19) (oi := oC19) (v := (.bool true)) rfl (by kernel_rfl) (BL.cls W) rfl (fun w hSw => by go_simp) ?_
      try simp only [Act.put, zA, zB, zC]
      refine otks (i := 20) (oi := oC20) (v := (.bool true)) rfl (by kernel_rfl) (BL.cls W) rfl (fun w hSw => by go_simp) ?_
      try simp only [Act.put, zA, zB, zC]
      refine wpAnyU_done (by kernel_rfl) (fun w1 hb1 => ?_) _
      go_wp2_with fail
      go_ret
      exact ⟨by rw [HD.out, HNO.out]; rfl, bgoS HBW.out hb1⟩
     ·
      have HNX : Hid (ChkTo rightM MbT.no L (k + 1)) := HT0.out.next hkL (by rw [← HC.out]; exact HRC.out) (fun h => by
       have e1 : L[k - 1]'(by omega) = y := by rw [hy]; congr 1; exact hm2.symm
       rw [e1, ← HC.out]
       omega)
      have hgd : decide (y.no ≥ c.no) = false := decide_eq_false hge
      have hwr := HWR.out
      clear hy hm2 hge
      refine wp_region_bl 21 (by kernel_rfl) ?_
      refine otks (i := 0) (oi := oC0) (v := (.func (.func 46) #[] #[])) rfl (by kernel_rfl) (BL.cls W) rfl (fun w hSw => by go_simp) ?_
      try simp only [Act.put, zA, zB, zC]
      refine otk (i := 1) (oi := oC1) (v := (.agg #[.int .i64 c.no, .int .i64 c.state, .int .i64 c.need])) rfl (by kernel_rfl) (BL.cls W) ?_ ?_
      ·
       refine Or.inl ⟨rfl, fun w hSw => ?_⟩
       exact eff_load_mid 33 (.tmp 8) rfl gx (0) rfl [.int .i64 c.no, .int .i64 c.state, .int .i64 c.need] _ (fun j v h => BL.cell hSw (HX.out.cell (by simpa using h))) Try.underlying33 rfl HSZ.out
      try simp only [Act.put, zA, zB, zC]
      refine otk (i := 2) (oi := oC2) (v := (.bool true)) rfl (by kernel_rfl) (BL.cls W) ?_ ?_
      ·
       refine Or.inl ⟨rfl, fun w hSw => ?_⟩
       go_simp
       show Calls _ _ _ _ _
       refine (rightM_any _ c.no c.state c.need).mono ?_
       rintro e w1 ⟨rfl, hb⟩
       exact ⟨by rw [HRC.out], hb⟩
      try simp only [Act.put, zA, zB, zC]
      refine otks (i := 3) (oi := oC3) (v := (.bool false)) rfl (by kernel_rfl) (BL.cls W) rfl (fun w hSw => by go_simp) ?_
      try simp only [Act.put, zA, zB, zC]
      refine otks (i := 4) (oi := oC4) (v := (.bool false)) rfl (by kernel_rfl) (BL.cls W) rfl (fun w hSw => by go_simp) ?_
      try simp only [Act.put, zA, zB, zC]
      refine otks (i := 5) (oi := oC5) (v := (.int .i64 (k : Int))) rfl (by kernel_rfl) (BL.cls W) rfl (fun w hSw => by go_simp) ?_
      try simp only [Act.put, zA, zB, zC]
      refine otks (i := 6) (oi := oC6) (v := (.bool true)) rfl (by kernel_rfl) (BL.cls W) rfl (fun w hSw => by go_simp) ?_
      try simp only [Act.put, zA, zB, zC]
      refine otks (i := 7) (oi := oC7) (v := (.bool true)) rfl (by kernel_rfl) (BL.cls W) rfl (fun w hSw => by go_simp) ?_
      try simp only [Act.put, zA, zB, zC]
      refine otks (i := 8) (oi := oC8) (v := (.func (.func 45) #[] #[])) rfl (by kernel_rfl) (BL.cls W) rfl (fun w hSw => by go_simp) ?_
      try simp only [Act.put, zA, zB, zC]
      refine otks (i := 9) (oi := oC9) (v := (.slice (some ⟨ba, offa, none⟩) n cap)) rfl (by kernel_rfl) (BL.cls W) rfl (fun w hSw => by go_simp) ?_
      try simp only [Act.put, zA, zB, zC]
      refine otks (i := 10) (oi := oC10) (v := (.int .i64 (k : Int))) rfl (by kernel_rfl) (BL.cls W) rfl (fun w hSw => by go_simp) ?_
      try simp only [Act.put, zA, zB, zC]
      refine otks (i := 11) (oi := oC11) (v := (.int .i64 (m : Int))) rfl (by kernel_rfl) (BL.cls W) rfl (fun w hSw => by go_simp) ?_
      try simp only [Act.put, zA, zB, zC]
      refine otks (i := 12) (oi := oC12) (v := (.pointer (some ⟨ba, offa + m * 3, none⟩))) rfl (by kernel_rfl) (BL.cls W) rfl (fun w hSw => by go_simp) ?_
      try simp only [Act.put, zA, zB, zC]
      refine otk (i := 13) (oi := oC13) (v := (.agg #[.int .i64 y.no, .int .i64 y.state, .int .i64 y.need])) rfl (by kernel_rfl) (BL.cls W) ?_ ?_
      ·
       refine Or.inl ⟨rfl, fun w hSw => ?_⟩
       exact eff_load_mid 33 (.tmp 28) rfl ba (offa + m * 3) rfl [.int .i64 y.no, .int .i64 y.state, .int .i64 y.need] _ (fun j v h => BL.cell hSw (HCY.out j v h)) Try.underlying33 rfl HSZ.out
      try simp only [Act.put, zA, zB, zC]
      refine otk (i := 14) (oi := oC14) (v := (.int .i64 y.no)) rfl (by kernel_rfl) (BL.cls W) ?_ ?_
      ·
       refine Or.inl ⟨rfl, fun w hSw => ?_⟩
       go_simp
       show Calls _ _ _ _ _
       refine (noM_any _ y.no y.state y.need).mono ?_
       rintro e w1 ⟨rfl, hb⟩
       exact ⟨rfl, hb⟩
      try simp only [Act.put, zA, zB, zC]
      refine otks (i := 15) (oi := oC15) (v := (.func (.func 45) #[] #[])) rfl (by kernel_rfl) (BL.cls W) rfl (fun w hSw => by go_simp) ?_
      try simp only [Act.put, zA, zB, zC]
      refine otk (i := 16) (oi := oC16) (v := (.agg #[.int .i64 c.no, .int .i64 c.state, .int .i64 c.need])) rfl (by kernel_rfl) (BL.cls W) ?_ ?_
      ·
       refine Or.inl ⟨rfl, fun w hSw => ?_⟩
       exact eff_load_mid 33 (.tmp 8) rfl gx (0) rfl [.int .i64 c.no, .int .i64 c.state, .int .i64 c.need] _ (fun j v h => BL.cell hSw (HX.out.cell (by simpa using h))) Try.underlying33 rfl HSZ.out
      try simp only [Act.put, zA, zB, zC]
      refine otk (i := 17) (oi := oC17) (v := (.int .i64 c.no)) rfl (by kernel_rfl) (BL.cls W) ?_ ?_
      ·
       refine Or.inl ⟨rfl, fun w hSw => ?_⟩
       go_simp
       show Calls _ _ _ _ _
       refine (noM_any _ c.no c.state c.need).mono ?_
       rintro e w1 ⟨rfl, hb⟩
       exact ⟨rfl, hb⟩
      try simp only [Act.put, zA, zB, zC]
      refine otks (i := 18) (oi := oC18) (v := (.bool false)) rfl (by kernel_rfl) (BL.cls W) rfl (fun w hSw => by go_simp) ?_
      try simp only [Act.put, zA, zB, zC]
      refine otks (i := 19) (oi := oC19) (v := (.bool false)) rfl (by kernel_rfl) (BL.cls W) rfl (fun w hSw => by go_simp) ?_
      try simp only [Act.put, zA, zB, zC]
      refine otks (i := 20) (oi := oC20) (v := (.bool false)) rfl (by kernel_rfl) (BL.cls W) rfl (fun w hSw => by go_simp) ?_
      try simp only [Act.put, zA, zB, zC]
      refine wpAnyU_done (by kernel_rfl) (fun w1 hb1 => ?_) _
      go_wp2_with fail
      exact ⟨⟨k + 1, by omega, by push_cast; rfl, HNX.out, bgoS HBW.out hb1⟩, by simp [intOf]; omega⟩
   ·
    have hr2 : rightM c = false := by simpa using hr
    have HRC := Lib.hid hr2
    have HNO : Hid (chkB rightM MbT.no L = false) := chk_no1 hkL (by rw [← HC.out]; exact hr2)
    clear hr hr2
    refine wp_region_bl 21 (by kernel_rfl) ?_
    refine otks (i := 0) (oi := oC0) (v := (.func (.func 46) #[] #[])) rfl (by kernel_rfl) (BL.cls W) rfl (fun w hSw => by go_simp) ?_
    try simp only [Act.put, zA, zB, zC]
    refine otk (i := 1) (oi := oC1) (v := (.agg #[.int .i64 c.no, .int .i64 c.state, .int .i64 c.need])) rfl (by kernel_rfl) (BL.cls W) ?_ ?_
    ·
     refine Or.inl ⟨rfl, fun w hSw => ?_⟩
     exact eff_load_mid 33 (.tmp 8) rfl gx (0) rfl [.int .i64 c.no, .int .i64 c.state, .int .i64 c.need] _ (fun j v h => BL.cell hSw (HX.out.cell (by simpa using h))) Try.underlying33 rfl HSZ.out
    try simp only [Act.put, zA, zB, zC]
    refine otk (i := 2) (oi := oC2) (v := (.bool false)) rfl (by kernel_rfl) (BL.cls W) ?_ ?_
    ·
     refine Or.inl ⟨rfl, fun w hSw => ?_⟩
     go_simp
     show Calls _ _ _ _ _
     refine (rightM_any _ c.no c.state c.need).mono ?_
     rintro e w1 ⟨rfl, hb⟩
     exact ⟨by rw [HRC.out], hb⟩
    try simp only [Act.put, zA, zB, zC]
    refine otks (i := 3) (oi := oC3) (v := (.bool true)) rfl (by kernel_rfl) (BL.cls W) rfl (fun w hSw => by go_simp) ?_
    try simp only [Act.put, zA, zB, zC]
    refine otks (i := 4) (oi := oC4) (v := (.bool true)) rfl (by kernel_rfl) (BL.cls W) rfl (fun w hSw => by go_simp) ?_
    try simp only [Act.put, zA, zB, zC]
    refine otku (i := 5) (oi := oC5) rfl (by kernel_rfl) (BL.cls W) rfl ?_
    try simp only [Act.put, zA, zB, zC]
    refine otku (i := 6) (oi := oC6) rfl (by kernel_rfl) (BL.cls W) rfl ?_
    try simp only [Act.put, zA, zB, zC]
    refine otku (i := 7) (oi := oC7) rfl (by kernel_rfl) (BL.cls W) rfl ?_
    try simp only [Act.put, zA, zB, zC]
    refine otku (i := 8) (oi := oC8) rfl (by kernel_rfl) (BL.cls W) rfl ?_
    try simp only [Act.put, zA, zB, zC]
    refine otku (i := 9) (oi := oC9) rfl (by kernel_rfl) (BL.cls W) rfl ?_
    try simp only [Act.put, zA, zB, zC]
    refine otku (i := 10) (oi := oC10) rfl (by kernel_rfl) (BL.cls W) rfl ?_
    try simp only [Act.put, zA, zB, zC]
    refine otku (i := 11) (oi := oC11) rfl (by kernel_rfl) (BL.cls W) rfl ?_
    try simp only [Act.put, zA, zB, zC]
    refine otku (i := 12) (oi := oC12) rfl (by kernel_rfl) (BL.cls W) rfl ?_
    try simp only [Act.put, zA, zB, zC]
    refine otku (i := 13) (oi := oC13) rfl (by kernel_rfl) (BL.cls W) rfl ?_
    try simp only [Act.put, zA, zB, zC]
    refine otku (i := 14) (oi := oC14) rfl (by kernel_rfl) (BL.cls W) rfl ?_
    try simp only [Act.put, zA, zB, zC]
    refine otku (i := 15) (oi := oC15) rfl (by kernel_rfl) (BL.cls W) rfl ?_
    try simp only [Act.put, zA, zB, zC]
    refine otku (i := 16) (oi := oC16) rfl (by kernel_rfl) (BL.cls W) rfl ?_
    try simp only [Act.put, zA, zB, zC]
    refine otku (i := 17) (oi := oC17) rfl (by kernel_rfl) (BL.cls W) rfl ?_
    try simp only [Act.put, zA, zB, zC]
    refine otku (i := 18) (oi := oC18) rfl (by kernel_rfl) (BL.cls W) rfl ?_
    try simp only [Act.put, zA, zB, zC]
    refine otku (i := 19) (oi := oC19) rfl (by kernel_rfl) (BL.cls W) rfl ?_
    try simp only [Act.put, zA, zB, zC]
    refine otks (i := 20) (oi := oC20) (v := (.bool true)) rfl (by kernel_rfl) (BL.cls W) rfl (fun w hSw => by go_simp) ?_
    try simp only [Act.put, zA, zB, zC]
    refine wpAnyU_done (by kernel_rfl) (fun w1 hb1 => ?_) _
    go_wp2_with fail
    go_ret
    exact ⟨by rw [HD.out, HNO.out]; rfl, bgoS HBW.out hb1⟩
  ·
   obtain rfl : k = n := by omega
   have HY : Hid (chkB rightM MbT.no L = true) := HT0.out.all (by have := HN.out; omega)
   go_wp2_with fail
   go_ret
   exact ⟨by rw [HD.out, HY.out]; rfl, hbel⟩
set_option maxRecDepth 100000 in
set_option maxHeartbeats 1600000 in
theorem risesI_any (w : World) (v : Value) (L : List InT) (h : Rs InT.vs 12 w v L) :
  Calls Try.prog 47 #[v, .func (.func 48) #[] #[], .func (.func 49) #[] #[]] w fun e w' => e = .returned (.bool (chkB rightI InT.no L)) ∧ Below w.heap.size w w' := by
 obtain ⟨av, cap, rfl, hcap, hm⟩ := h.shape
 obtain ⟨n, hn⟩ : ∃ n, n = L.length := ⟨_, rfl⟩
 obtain ⟨d, hd⟩ : ∃ d : Bool, d = chkB rightI InT.no L := ⟨_, rfl⟩
 rw [← hd]
 rw [← hn] at h hcap ⊢
 have HR := Lib.hid h
 have HN := Lib.hid hn
 have HD := Lib.hid hd
 clear h hn hd
 go_enter Try.func47, Try.ntmps47
 go_wp2_with fail
 go_loopw [11] (fun i wr => ∃ k : Nat, k ≤ n ∧ i = .int .i64 k ∧ Hid (ChkTo rightI InT.no L k) ∧ Below w.heap.size w wr) (fun i _ => n - (intOf i).toNat)
 case atStart => exact ⟨0, Nat.zero_le _, rfl, ChkTo.zero _ _ _, Below.refl _ _⟩
 case round =>
  obtain ⟨k, hk, rfl, HT0, hbel⟩ := hrel
  by_cases hlt : k < n
  ·
   have hkL : k < L.length := by rw [← HN.out]; exact hlt
   obtain ⟨ba, offa, rfl, _, hca⟩ := (HR.out.rew HN.out hbel).at (by omega) (by decide)
   obtain ⟨c, hc⟩ : ∃ c, c = L[k] := ⟨_, rfl⟩
   have HCA : Hid (∀ j v, [.int .i64 c.no, .int .i64 c.cur, .int .i64 c.mult, .int .i64 c.add, .int .i64 c.set, .int .i64 c.price, .int .i64 c.h0, .int .i64 c.h1, .int .i64 c.h2, .int .i64 c.h3, .int .i64 c.h4, .int .i64 c.h5][j]? = some v → wr.cell? ⟨ba, offa + k * 12 + j, none⟩ = some v) := fun j v h => hca k hkL j v (by rw [← hc]; exact h)
   have HBL := Lib.hid hbel
   have hk0 : (0 : Int) ≤ k := by omega
   have hk1 : (k : Int) < n := by omega
   have HC := Lib.hid hc
   clear hc hca hbel
   have HSZ : Hid ((Try.prog.info? 38).map (·.size) = some (#[.int .i64 c.no, .int .i64 c.cur, .int .i64 c.mult, .int .i64 c.add, .int .i64 c.set, .int .i64 c.price, .int .i64 c.h0, .int .i64 c.h1, .int .i64 c.h2, .int .i64 c.h3, .int .i64 c.h4, .int .i64 c.h5] : Array Value).size) := by show _ = _; rw [ins_sz]; rfl
   have HSE : Hid ((#[.int .i64 0, .int .i64 0, .int .i64 0, .int .i64 0, .int .i64 0, .int .i64 0, .int .i64 0, .int .i64 0, .int .i64 0, .int .i64 0, .int .i64 0, .int .i64 0] : Array Value).size = (#[.int .i64 c.no, .int .i64 c.cur, .int .i64 c.mult, .int .i64 c.add, .int .i64 c.set, .int .i64 c.price, .int .i64 c.h0, .int .i64 c.h1, .int .i64 c.h2, .int .i64 c.h3, .int .i64 c.h4, .int .i64 c.h5] : Array Value).size) := by show _ = _; rfl
   have HON : Hid ((#[.int .i64 c.no, .int .i64 c.cur, .int .i64 c.mult, .int .i64 c.add, .int .i64 c.set, .int .i64 c.price, .int .i64 c.h0, .int .i64 c.h1, .int .i64 c.h2, .int .i64 c.h3, .int .i64 c.h4, .int .i64 c.h5] : Array Value).all (·.oneCell') = true) := by show _ = true; simp [Value.oneCell']
   go_upto_region 4 with (first
    | (refine wpList_load_mid rfl 38 (.tmp 14) rfl ba (offa + k * 12) rfl [.int .i64 c.no, .int .i64 c.cur, .int .i64 c.mult, .int .i64 c.add, .int .i64 c.set, .int .i64 c.price, .int .i64 c.h0, .int .i64 c.h1, .int .i64 c.h2, .int .i64 c.h3, .int .i64 c.h4, .int .i64 c.h5] _ (fun j v h => HCA.out j v h) Try.underlying38 rfl HSZ.out ?_)
    | (refine wpList_store_row rfl 38 (.tmp 8) (.tmp 15) rfl wr.heap.size #[.int .i64 c.no, .int .i64 c.cur, .int .i64 c.mult, .int .i64 c.add, .int .i64 c.set, .int .i64 c.price, .int .i64 c.h0, .int .i64 c.h1, .int .i64 c.h2, .int .i64 c.h3, .int .i64 c.h4, .int .i64 c.h5] rfl rfl 38 #[.int .i64 0, .int .i64 0, .int .i64 0, .int .i64 0, .int .i64 0, .int .i64 0, .int .i64 0, .int .i64 0, .int .i64 0, .int .i64 0, .int .i64 0, .int .i64 0] (heap_alloc_new _ _) HSZ.out HSE.out HON.out ?_)
    | fail)
   have hbs : Below wr.heap.size wr ((wr.alloc (.cells #[.int .i64 0, .int .i64 0, .int .i64 0, .int .i64 0, .int .i64 0, .int .i64 0, .int .i64 0, .int .i64 0, .int .i64 0, .int .i64 0, .int .i64 0, .int .i64 0] 38)).setRow wr.heap.size #[.int .i64 c.no, .int .i64 c.cur, .int .i64 c.mult, .int .i64 c.add, .int .i64 c.set, .int .i64 c.price, .int .i64 c.h0, .int .i64 c.h1, .int .i64 c.h2, .int .i64 c.h3, .int .i64 c.h4, .int .i64 c.h5]) := ((Below.refl _ _).alloc (Nat.le_refl _) _).trans (setRow_below (Nat.le_refl _) _)
   have hx : HT ((wr.alloc (.cells #[.int .i64 0, .int .i64 0, .int .i64 0, .int .i64 0, .int .i64 0, .int .i64 0, .int .i64 0, .int .i64 0, .int .i64 0, .int .i64 0, .int .i64 0, .int .i64 0] 38)).setRow wr.heap.size #[.int .i64 c.no, .int .i64 c.cur, .int .i64 c.mult, .int .i64 c.add, .int .i64 c.set, .int .i64 c.price, .int .i64 c.h0, .int .i64 c.h1, .int .i64 c.h2, .int .i64 c.h3, .int .i64 c.h4, .int .i64 c.h5]) wr.heap.size 38 [.int .i64 c.no, .int .i64 c.cur, .int .i64 c.mult, .int .i64 c.add, .int .i64 c.set, .int .i64 c.price, .int .i64 c.h0, .int .i64 c.h1, .int .i64 c.h2, .int .i64 c.h3, .int .i64 c.h4, .int .i64 c.h5] := setRow_heap _ _ _ _ _ _ (heap_alloc_new _ _)
   have hbw := bgo HBL.out hbs (Below.size HBL.out)
   obtain ⟨W, hW⟩ : ∃ x, x = ((wr.alloc (.cells #[.int .i64 0, .int .i64 0, .int .i64 0, .int .i64 0, .int .i64 0, .int .i64 0, .int .i64 0, .int .i64 0, .int .i64 0, .int .i64 0, .int .i64 0, .int .i64 0] 38)).setRow wr.heap.size #[.int .i64 c.no, .int .i64 c.cur, .int .i64 c.mult, .int .i64 c.add, .int .i64 c.set, .int .i64 c.price, .int .i64 c.h0, .int .i64 c.h1, .int .i64 c.h2, .int .i64 c.h3, .int .i64 c.h4, .int .i64 c.h5]) := ⟨_, rfl⟩
   rw [← hW] at hbs hx hbw ⊢
   obtain ⟨gx, hg⟩ : ∃ x, x = wr.heap.size := ⟨_, rfl⟩
   rw [← hg] at hx ⊢
   have HX := Lib.hid hx
   have HBW := Lib.hid hbw
   have HBS := Lib.hid hbs
   clear hW hx hbw hbs hg HSE HON
   by_cases hr : rightI c = true
   ·
    have HRC := Lib.hid hr
    clear hr
    by_cases h0 : k = 0
    ·
     have HNX : Hid (ChkTo rightI InT.no L (k + 1)) := HT0.out.next hkL (by rw [← HC.out]; exact HRC.out) (fun h => absurd h (by omega))
     have hz1 : ¬ (0 < k) := by omega
     have hz2 : ¬ ((0 : Int) < (k : Int)) := by omega
     clear h0
     refine wp_region_bl 21 (by kernel_rfl) ?_
     refine otks (i := 0) (oi := oC21) (v := (.func (.func 49) #[] #[])) rfl (by kernel_rfl) (BL.cls W) rfl (fun w hSw => by go_simp) ?_
     try simp only [Act.put, zA, zB, zC]
     refine otk (i := 1) (oi := oC22) (v := (.agg #[.int .i64 c.no, .int .i64 c.cur, .int .i64 c.mult, .int .i64 c.add, .int .i64 c.set, .int .i64 c.price, .int .i64 c.h0, .int .i64 c.h1, .int .i64 c.h2, .int .i64 c.h3, .int .i64 c.h4, .int .i64 c.h5])) rfl (by kernel_rfl) (BL.cls W) ?_ ?_
     ·
      refine Or.inl ⟨rfl, fun w hSw => ?_⟩
      exact eff_load_mid 38 (.tmp 8) rfl gx (0) rfl [.int .i64 c.no, .int .i64 c.cur, .int .i64 c.mult, .int .i64 c.add, .int .i64 c.set, .int .i64 c.price, .int .i64 c.h0, .int .i64 c.h1, .int .i64 c.h2, .int .i64 c.h3, .int .i64 c.h4, .int .i64 c.h5] _ (fun j v h => BL.cell hSw (HX.out.cell (by simpa using h))) Try.underlying38 rfl HSZ.out
     try simp only [Act.put, zA, zB, zC]
     refine otk (i := 2) (oi := oC23) (v := (.bool true)) rfl (by kernel_rfl) (BL.cls W) ?_ ?_
     ·
      refine Or.inl ⟨rfl, fun w hSw => ?_⟩
      go_simp
      show Calls _ _ _ _ _
      refine (rightI_any _ c.no c.cur c.mult c.add c.set c.price c.h0 c.h1 c.h2 c.h3 c.h4 c.h5).mono ?_
      rintro e w1 ⟨rfl, hb⟩
      exact ⟨by rw [HRC.out], hb⟩
     try simp only [Act.put, zA, zB, zC]
     refine otks (i := 3) (oi := oC3) (v := (.bool false)) rfl (by kernel_rfl) (BL.cls W) rfl (fun w hSw => by go_simp) ?_
     try simp only [Act.put, zA, zB, zC]
     refine otks (i := 4) (oi := oC4) (v := (.bool false)) rfl (by kernel_rfl) (BL.cls W) rfl (fun w hSw => by go_simp) ?_
     try simp only [Act.put, zA, zB, zC]
     refine otks (i := 5) (oi := oC5) (v := (.int .i64 (k : Int))) rfl (by kernel_rfl) (BL.cls W) rfl (fun w hSw => by go_simp) ?_
     try simp only [Act.put, zA, zB, zC]
     refine otks (i := 6) (oi := oC6) (v := (.bool false)) rfl (by kernel_rfl) (BL.cls W) rfl (fun w hSw => by go_simp) ?_
     try simp only [Act.put, zA, zB, zC]
     refine otks (i := 7) (oi := oC7) (v := (.bool false)) rfl (by kernel_rfl) (BL.cls W) rfl (fun w hSw => by go_simp) ?_
     try simp only [Act.put, zA, zB, zC]
     refine otku (i := 8) (oi := oC24) rfl (by kernel_rfl) (BL.cls W) rfl ?_
     try simp only [Act.put, zA, zB, zC]
     refine otku (i := 9) (oi := oC25) rfl (by kernel_rfl) (BL.cls W) rfl ?_
     try simp only [Act.put, zA, zB, zC]
     refine otku (i := 10) (oi := oC10) rfl (by kernel_rfl) (BL.cls W) rfl ?_
     try simp only [Act.put, zA, zB, zC]
     refine otku (i := 11) (oi := oC11) rfl (by kernel_rfl) (BL.cls W) rfl ?_
     try simp only [Act.put, zA, zB, zC]
     refine otku (i := 12) (oi := oC26) rfl (by kernel_rfl) (BL.cls W) rfl ?_
     try simp only [Act.put, zA, zB, zC]
     refine otku (i := 13) (oi := oC27) rfl (by kernel_rfl) (BL.cls W) rfl ?_
     try simp only [Act.put, zA, zB, zC]
     refine otku (i := 14) (oi := oC28) rfl (by kernel_rfl) (BL.cls W) rfl ?_
     try simp only [Act.put, zA, zB, zC]
     refine otku (i := 15) (oi := oC29) rfl (by kernel_rfl) (BL.cls W) rfl ?_
     try simp only [Act.put, zA, zB, zC]
     refine otku (i := 16) (oi := oC30) rfl (by kernel_rfl) (BL.cls W) rfl ?_
     try simp only [Act.put, zA, zB, zC]
     refine otku (i := 17) (oi := oC31) rfl (by kernel_rfl) (BL.cls W) rfl ?_
     try simp only [Act.put, zA, zB, zC]
     refine otku (i := 18) (oi := oC18) rfl (by kernel_rfl) (BL.cls W) rfl ?_
     try simp only [Act.put, zA, zB, zC]
     refine otks (i := 19) (oi := oC19) (v := (.bool false)) rfl (by kernel_rfl) (BL.cls W) rfl (fun w hSw => by go_simp) ?_
     try simp only [Act.put, zA, zB, zC]
     refine otks (i := 20) (oi := oC20) (v := (.bool false)) rfl (by kernel_rfl) (BL.cls W) rfl (fun w hSw => by go_simp) ?_
     try simp only [Act.put, zA, zB, zC]
     refine wpAnyU_done (by kernel_rfl) (fun w1 hb1 => ?_) _
     go_wp2_with fail
     exact ⟨⟨k + 1, by omega, by push_cast; rfl, HNX.out, bgoS HBW.out hb1⟩, by simp [intOf]; omega⟩
    ·
     obtain ⟨m, hm2⟩ : ∃ m, m = k - 1 := ⟨_, rfl⟩
     have hz1 : 0 < k := by omega
     have hz2 : (0 : Int) < (k : Int) := by omega
     have hmL : m < L.length := by omega
     have hm0 : (0 : Int) ≤ (m : Int) := by omega
     have hm1 : (m : Int) < n := by omega
     obtain ⟨y, hy⟩ : ∃ y, y = L[m] := ⟨_, rfl⟩
     have HCY : Hid (∀ j v, [.int .i64 y.no, .int .i64 y.cur, .int .i64 y.mult, .int .i64 y.add, .int .i64 y.set, .int .i64 y.price, .int .i64 y.h0, .int .i64 y.h1, .int .i64 y.h2, .int .i64 y.h3, .int .i64 y.h4, .int .i64 y.h5][j]? = some v → W.cell? ⟨ba, offa + m * 12 + j, none⟩ = some v) := by
      intro j v h
      obtain ⟨b2, o2, e2, _, hca2⟩ := (HR.out.rew HN.out HBW.out).at (by omega) (by decide)
      simp only [Option.some.injEq, Addr.mk.injEq, and_true] at e2
      obtain ⟨rfl, rfl⟩ := e2
      exact hca2 m hmL j v (by rw [← hy]; exact h)
     have hwr : IntKind.i64.wrap ((k : Int) - 1) = (m : Int) := by rw [IntKind.wrap_i64]; omega
     have HWR := Lib.hid hwr
     clear hwr h0
     by_cases hge : c.no ≤ y.no
     ·
      have HNO : Hid (chkB rightI InT.no L = false) := by
       refine chk_no2 hkL hz1 ?_
       have e1 : L[k - 1]'(by omega) = y := by rw [hy]; congr 1; exact hm2.symm
       rw [e1, ← HC.out]
       exact hge
      have hgd : decide (y.no ≥ c.no) = true := decide_eq_true hge
      have hwr := HWR.out
      clear hy hm2
      refine wp_region_bl 21 (by kernel_rfl) ?_
      refine otks (i := 0) (oi := oC21) (v := (.func (.func 49) #[] #[])) rfl (by kernel_rfl) (BL.cls W) rfl (fun w hSw => by go_simp) ?_
      try simp only [Act.put, zA, zB, zC]
      refine otk (i := 1) (oi := oC22) (v := (.agg #[.int .i64 c.no, .int .i64 c.cur, .int .i64 c.mult, .int .i64 c.add, .int .i64 c.set, .int .i64 c.price, .int .i64 c.h0, .int .i64 c.h1, .int .i64 c.h2, .int .i64 c.h3, .int .i64 c.h4, .int .i64 c.h5])) rfl (by kernel_rfl) (BL.cls W) ?_ ?_
      ·
       refine Or.inl ⟨rfl, fun w hSw => ?_⟩
       exact eff_load_mid 38 (.tmp 8) rfl gx (0) rfl [.int .i64 c.no, .int .i64 c.cur, .int .i64 c.mult, .int .i64 c.add, .int .i64 c.set, .int .i64 c.price, .int .i64 c.h0, .int .i64 c.h1, .int .i64 c.h2, .int .i64 c.h3, .int .i64 c.h4, .int .i64 c.h5] _ (fun j v h => BL.cell hSw (HX.out.cell (by simpa using h))) Try.underlying38 rfl HSZ.out
      try simp only [Act.put, zA, zB, zC]
      refine otk (i := 2) (oi := oC23) (v := (.bool true)) rfl (by kernel_rfl) (BL.cls W) ?_ ?_
      ·
       refine Or.inl ⟨rfl, fun w hSw => ?_⟩
       go_simp
       show Calls _ _ _ _ _
       refine (rightI_any _ c.no c.cur c.mult c.add c.set c.price c.h0 c.h1 c.h2 c.h3 c.h4 c.h5).mono ?_
       rintro e w1 ⟨rfl, hb⟩
       exact ⟨by rw [HRC.out], hb⟩
      try simp only [Act.put, zA, zB, zC]
      refine otks (i := 3) (oi := oC3) (v := (.bool false)) rfl (by kernel_rfl) (BL.cls W) rfl (fun w hSw => by go_simp) ?_
      try simp only [Act.put, zA, zB, zC]
      refine otks (i := 4) (oi := oC4) (v := (.bool false)) rfl (by kernel_rfl) (BL.cls W) rfl (fun w hSw => by go_simp) ?_
      try simp only [Act.put, zA, zB, zC]
      refine otks (i := 5) (oi := oC5) (v := (.int .i64 (k : Int))) rfl (by kernel_rfl) (BL.cls W) rfl (fun w hSw => by go_simp) ?_
      try simp only [Act.put, zA, zB, zC]
      refine otks (i := 6) (oi := oC6) (v := (.bool true)) rfl (by kernel_rfl) (BL.cls W) rfl (fun w hSw => by go_simp) ?_
      try simp only [Act.put, zA, zB, zC]
      refine otks (i := 7) (oi := oC7) (v := (.bool true)) rfl (by kernel_rfl) (BL.cls W) rfl (fun w hSw => by go_simp) ?_
      try simp only [Act.put, zA, zB, zC]
      refine otks (i := 8) (oi := oC24) (v := (.func (.func 48) #[] #[])) rfl (by kernel_rfl) (BL.cls W) rfl (fun w hSw => by go_simp) ?_
      try simp only [Act.put, zA, zB, zC]
      refine otks (i := 9) (oi := oC25) (v := (.slice (some ⟨ba, offa, none⟩) n cap)) rfl (by kernel_rfl) (BL.cls W) rfl (fun w hSw => by go_simp) ?_
      try simp only [Act.put, zA, zB, zC]
      refine otks (i := 10) (oi := oC10) (v := (.int .i64 (k : Int))) rfl (by kernel_rfl) (BL.cls W) rfl (fun w hSw => by go_simp) ?_
      try simp only [Act.put, zA, zB, zC]
      refine otks (i := 11) (oi := oC11) (v := (.int .i64 (m : Int))) rfl (by kernel_rfl) (BL.cls W) rfl (fun w hSw => by go_simp) ?_
      try simp only [Act.put, zA, zB, zC]
      refine otks (i := 12) (oi := oC26) (v := (.pointer (some ⟨ba, offa + m * 12, none⟩))) rfl (by kernel_rfl) (BL.cls W) rfl (fun w hSw => by go_simp) ?_
      try simp only [Act.put, zA, zB, zC]
      refine otk (i := 13) (oi := oC27) (v := (.agg #[.int .i64 y.no, .int .i64 y.cur, .int .i64 y.mult, .int .i64 y.add, .int .i64 y.set, .int .i64 y.price, .int .i64 y.h0, .int .i64 y.h1, .int .i64 y.h2, .int .i64 y.h3, .int .i64 y.h4, .int .i64 y.h5])) rfl (by kernel_rfl) (BL.cls W) ?_ ?_
      ·
       refine Or.inl ⟨rfl, fun w hSw => ?_⟩
       exact eff_load_mid 38 (.tmp 28) rfl ba (offa + m * 12) rfl [.int .i64 y.no, .int .i64 y.cur, .int .i64 y.mult, .int .i64 y.add, .int .i64 y.set, .int .i64 y.price, .int .i64 y.h0, .int .i64 y.h1, .int .i64 y.h2, .int .i64 y.h3, .int .i64 y.h4, .int .i64 y.h5] _ (fun j v h => BL.cell hSw (HCY.out j v h)) Try.underlying38 rfl HSZ.out
      try simp only [Act.put, zA, zB, zC]
      refine otk (i := 14) (oi := oC28) (v := (.int .i64 y.no)) rfl (by kernel_rfl) (BL.cls W) ?_ ?_
      ·
       refine Or.inl ⟨rfl, fun w hSw => ?_⟩
       go_simp
       show Calls _ _ _ _ _
       refine (noI_any _ y.no y.cur y.mult y.add y.set y.price y.h0 y.h1 y.h2 y.h3 y.h4 y.h5).mono ?_
       rintro e w1 ⟨rfl, hb⟩
       exact ⟨rfl, hb⟩
      try simp only [Act.put, zA, zB, zC]
      refine otks (i := 15) (oi := oC29) (v := (.func (.func 48) #[] #[])) rfl (by kernel_rfl) (BL.cls W) rfl (fun w hSw => by go_simp) ?_
      try simp only [Act.put, zA, zB, zC]
      refine otk (i := 16) (oi := oC30) (v := (.agg #[.int .i64 c.no, .int .i64 c.cur, .int .i64 c.mult, .int .i64 c.add, .int .i64 c.set, .int .i64 c.price, .int .i64 c.h0, .int .i64 c.h1, .int .i64 c.h2, .int .i64 c.h3, .int .i64 c.h4, .int .i64 c.h5])) rfl (by kernel_rfl) (BL.cls W) ?_ ?_
      ·
       refine Or.inl ⟨rfl, fun w hSw => ?_⟩
       exact eff_load_mid 38 (.tmp 8) rfl gx (0) rfl [.int .i64 c.no, .int .i64 c.cur, .int .i64 c.mult, .int .i64 c.add, .int .i64 c.set, .int .i64 c.price, .int .i64 c.h0, .int .i64 c.h1, .int .i64 c.h2, .int .i64 c.h3, .int .i64 c.h4, .int .i64 c.h5] _ (fun j v h => BL.cell hSw (HX.out.cell (by simpa using h))) Try.underlying38 rfl HSZ.out
      try simp only [Act.put, zA, zB, zC]
      refine otk (i := 17) (oi := oC31) (v := (.int .i64 c.no)) rfl (by kernel_rfl) (BL.cls W) ?_ ?_
      ·
       refine Or.inl ⟨rfl, fun w hSw => ?_⟩
       go_simp
       show Calls _ _ _ _ _
       refine (noI_any _ c.no c.cur c.mult c.add c.set c.price c.h0 c.h1 c.h2 c.h3 c.h4 c.h5).mono ?_
       rintro e w1 ⟨rfl, hb⟩
       exact ⟨rfl, hb⟩
      try simp only [Act.put, zA, zB, zC]
      refine otks (i := 18) (oi := oC18) (v := (.bool true)) rfl (by kernel_rfl) (BL.cls W) rfl (fun w hSw => by go_simp) ?_
      try simp only [Act.put, zA, zB, zC]
      refine otks (i := 19) (oi := oC19) (v := (.bool true)) rfl (by kernel_rfl) (BL.cls W) rfl (fun w hSw => by go_simp) ?_
      try simp only [Act.put, zA, zB, zC]
      refine otks (i := 20) (oi := oC20) (v := (.bool true)) rfl (by kernel_rfl) (BL.cls W) rfl (fun w hSw => by go_simp) ?_
      try simp only [Act.put, zA, zB, zC]
      refine wpAnyU_done (by kernel_rfl) (fun w1 hb1 => ?_) _
      go_wp2_with fail
      go_ret
      exact ⟨by rw [HD.out, HNO.out]; rfl, bgoS HBW.out hb1⟩
     ·
      have HNX : Hid (ChkTo rightI InT.no L (k + 1)) := HT0.out.next hkL (by rw [← HC.out]; exact HRC.out) (fun h => by
       have e1 : L[k - 1]'(by omega) = y := by rw [hy]; congr 1; exact hm2.symm
       rw [e1, ← HC.out]
       omega)
      have hgd : decide (y.no ≥ c.no) = false := decide_eq_false hge
      have hwr := HWR.out
      clear hy hm2 hge
      refine wp_region_bl 21 (by kernel_rfl) ?_
      refine otks (i := 0) (oi := oC21) (v := (.func (.func 49) #[] #[])) rfl (by kernel_rfl) (BL.cls W) rfl (fun w hSw => by go_simp) ?_
      try simp only [Act.put, zA, zB, zC]
      refine otk (i := 1) (oi := oC22) (v := (.agg #[.int .i64 c.no, .int .i64 c.cur, .int .i64 c.mult, .int .i64 c.add, .int .i64 c.set, .int .i64 c.price, .int .i64 c.h0, .int .i64 c.h1, .int .i64 c.h2, .int .i64 c.h3, .int .i64 c.h4, .int .i64 c.h5])) rfl (by kernel_rfl) (BL.cls W) ?_ ?_
      ·
       refine Or.inl ⟨rfl, fun w hSw => ?_⟩
       exact eff_load_mid 38 (.tmp 8) rfl gx (0) rfl [.int .i64 c.no, .int .i64 c.cur, .int .i64 c.mult, .int .i64 c.add, .int .i64 c.set, .int .i64 c.price, .int .i64 c.h0, .int .i64 c.h1, .int .i64 c.h2, .int .i64 c.h3, .int .i64 c.h4, .int .i64 c.h5] _ (fun j v h => BL.cell hSw (HX.out.cell (by simpa using h))) Try.underlying38 rfl HSZ.out
      try simp only [Act.put, zA, zB, zC]
      refine otk (i := 2) (oi := oC23) (v := (.bool true)) rfl (by kernel_rfl) (BL.cls W) ?_ ?_
      ·
       refine Or.inl ⟨rfl, fun w hSw => ?_⟩
       go_simp
       show Calls _ _ _ _ _
       refine (rightI_any _ c.no c.cur c.mult c.add c.set c.price c.h0 c.h1 c.h2 c.h3 c.h4 c.h5).mono ?_
       rintro e w1 ⟨rfl, hb⟩
       exact ⟨by rw [HRC.out], hb⟩
      try simp only [Act.put, zA, zB, zC]
      refine otks (i := 3) (oi := oC3) (v := (.bool false)) rfl (by kernel_rfl) (BL.cls W) rfl (fun w hSw => by go_simp) ?_
      try simp only [Act.put, zA, zB, zC]
      refine otks (i := 4) (oi := oC4) (v := (.bool false)) rfl (by kernel_rfl) (BL.cls W) rfl (fun w hSw => by go_simp) ?_
      try simp only [Act.put, zA, zB, zC]
      refine otks (i := 5) (oi := oC5) (v := (.int .i64 (k : Int))) rfl (by kernel_rfl) (BL.cls W) rfl (fun w hSw => by go_simp) ?_
      try simp only [Act.put, zA, zB, zC]
      refine otks (i := 6) (oi := oC6) (v := (.bool true)) rfl (by kernel_rfl) (BL.cls W) rfl (fun w hSw => by go_simp) ?_
      try simp only [Act.put, zA, zB, zC]
      refine otks (i := 7) (oi := oC7) (v := (.bool true)) rfl (by kernel_rfl) (BL.cls W) rfl (fun w hSw => by go_simp) ?_
      try simp only [Act.put, zA, zB, zC]
      refine otks (i := 8) (oi := oC24) (v := (.func (.func 48) #[] #[])) rfl (by kernel_rfl) (BL.cls W) rfl (fun w hSw => by go_simp) ?_
      try simp only [Act.put, zA, zB, zC]
      refine otks (i := 9) (oi := oC25) (v := (.slice (some ⟨ba, offa, none⟩) n cap)) rfl (by kernel_rfl) (BL.cls W) rfl (fun w hSw => by go_simp) ?_
      try simp only [Act.put, zA, zB, zC]
      refine otks (i := 10) (oi := oC10) (v := (.int .i64 (k : Int))) rfl (by kernel_rfl) (BL.cls W) rfl (fun w hSw => by go_simp) ?_
      try simp only [Act.put, zA, zB, zC]
      refine otks (i := 11) (oi := oC11) (v := (.int .i64 (m : Int))) rfl (by kernel_rfl) (BL.cls W) rfl (fun w hSw => by go_simp) ?_
      try simp only [Act.put, zA, zB, zC]
      refine otks (i := 12) (oi := oC26) (v := (.pointer (some ⟨ba, offa + m * 12, none⟩))) rfl (by kernel_rfl) (BL.cls W) rfl (fun w hSw => by go_simp) ?_
      try simp only [Act.put, zA, zB, zC]
      refine otk (i := 13) (oi := oC27) (v := (.agg #[.int .i64 y.no, .int .i64 y.cur, .int .i64 y.mult, .int .i64 y.add, .int .i64 y.set, .int .i64 y.price, .int .i64 y.h0, .int .i64 y.h1, .int .i64 y.h2, .int .i64 y.h3, .int .i64 y.h4, .int .i64 y.h5])) rfl (by kernel_rfl) (BL.cls W) ?_ ?_
      ·
       refine Or.inl ⟨rfl, fun w hSw => ?_⟩
       exact eff_load_mid 38 (.tmp 28) rfl ba (offa + m * 12) rfl [.int .i64 y.no, .int .i64 y.cur, .int .i64 y.mult, .int .i64 y.add, .int .i64 y.set, .int .i64 y.price, .int .i64 y.h0, .int .i64 y.h1, .int .i64 y.h2, .int .i64 y.h3, .int .i64 y.h4, .int .i64 y.h5] _ (fun j v h => BL.cell hSw (HCY.out j v h)) Try.underlying38 rfl HSZ.out
      try simp only [Act.put, zA, zB, zC]
      refine otk (i := 14) (oi := oC28) (v := (.int .i64 y.no)) rfl (by kernel_rfl) (BL.cls W) ?_ ?_
      ·
       refine Or.inl ⟨rfl, fun w hSw => ?_⟩
       go_simp
       show Calls _ _ _ _ _
       refine (noI_any _ y.no y.cur y.mult y.add y.set y.price y.h0 y.h1 y.h2 y.h3 y.h4 y.h5).mono ?_
       rintro e w1 ⟨rfl, hb⟩
       exact ⟨rfl, hb⟩
      try simp only [Act.put, zA, zB, zC]
      refine otks (i := 15) (oi := oC29) (v := (.func (.func 48) #[] #[])) rfl (by kernel_rfl) (BL.cls W) rfl (fun w hSw => by go_simp) ?_
      try simp only [Act.put, zA, zB, zC]
      refine otk (i := 16) (oi := oC30) (v := (.agg #[.int .i64 c.no, .int .i64 c.cur, .int .i64 c.mult, .int .i64 c.add, .int .i64 c.set, .int .i64 c.price, .int .i64 c.h0, .int .i64 c.h1, .int .i64 c.h2, .int .i64 c.h3, .int .i64 c.h4, .int .i64 c.h5])) rfl (by kernel_rfl) (BL.cls W) ?_ ?_
      ·
       refine Or.inl ⟨rfl, fun w hSw => ?_⟩
       exact eff_load_mid 38 (.tmp 8) rfl gx (0) rfl [.int .i64 c.no, .int .i64 c.cur, .int .i64 c.mult, .int .i64 c.add, .int .i64 c.set, .int .i64 c.price, .int .i64 c.h0, .int .i64 c.h1, .int .i64 c.h2, .int .i64 c.h3, .int .i64 c.h4, .int .i64 c.h5] _ (fun j v h => BL.cell hSw (HX.out.cell (by simpa using h))) Try.underlying38 rfl HSZ.out
      try simp only [Act.put, zA, zB, zC]
      refine otk (i := 17) (oi := oC31) (v := (.int .i64 c.no)) rfl (by kernel_rfl) (BL.cls W) ?_ ?_
      ·
       refine Or.inl ⟨rfl, fun w hSw => ?_⟩
       go_simp
       show Calls _ _ _ _ _
       refine (noI_any _ c.no c.cur c.mult c.add c.set c.price c.h0 c.h1 c.h2 c.h3 c.h4 c.h5).mono ?_
       rintro e w1 ⟨rfl, hb⟩
       exact ⟨rfl, hb⟩
      try simp only [Act.put, zA, zB, zC]
      refine otks (i := 18) (oi := oC18) (v := (.bool false)) rfl (by kernel_rfl) (BL.cls W) rfl (fun w hSw => by go_simp) ?_
      try simp only [Act.put, zA, zB, zC]
      refine otks (i := 19) (oi := oC19) (v := (.bool false)) rfl (by kernel_rfl) (BL.cls W) rfl (fun w hSw => by go_simp) ?_
      try simp only [Act.put, zA, zB, zC]
      refine otks (i := 20) (oi := oC20) (v := (.bool false)) rfl (by kernel_rfl) (BL.cls W) rfl (fun w hSw => by go_simp) ?_
      try simp only [Act.put, zA, zB, zC]
      refine wpAnyU_done (by kernel_rfl) (fun w1 hb1 => ?_) _
      go_wp2_with fail
      exact ⟨⟨k + 1, by omega, by push_cast; rfl, HNX.out, bgoS HBW.out hb1⟩, by simp [intOf]; omega⟩
   ·
    have hr2 : rightI c = false := by simpa using hr
    have HRC := Lib.hid hr2
    have HNO : Hid (chkB rightI InT.no L = false) := chk_no1 hkL (by rw [← HC.out]; exact hr2)
    clear hr hr2
    refine wp_region_bl 21 (by kernel_rfl) ?_
    refine otks (i := 0) (oi := oC21) (v := (.func (.func 49) #[] #[])) rfl (by kernel_rfl) (BL.cls W) rfl (fun w hSw => by go_simp) ?_
    try simp only [Act.put, zA, zB, zC]
    refine otk (i := 1) (oi := oC22) (v := (.agg #[.int .i64 c.no, .int .i64 c.cur, .int .i64 c.mult, .int .i64 c.add, .int .i64 c.set, .int .i64 c.price, .int .i64 c.h0, .int .i64 c.h1, .int .i64 c.h2, .int .i64 c.h3, .int .i64 c.h4, .int .i64 c.h5])) rfl (by kernel_rfl) (BL.cls W) ?_ ?_
    ·
     refine Or.inl ⟨rfl, fun w hSw => ?_⟩
     exact eff_load_mid 38 (.tmp 8) rfl gx (0) rfl [.int .i64 c.no, .int .i64 c.cur, .int .i64 c.mult, .int .i64 c.add, .int .i64 c.set, .int .i64 c.price, .int .i64 c.h0, .int .i64 c.h1, .int .i64 c.h2, .int .i64 c.h3, .int .i64 c.h4, .int .i64 c.h5] _ (fun j v h => BL.cell hSw (HX.out.cell (by simpa using h))) Try.underlying38 rfl HSZ.out
    try simp only [Act.put, zA, zB, zC]
    refine otk (i := 2) (oi := oC23) (v := (.bool false)) rfl (by kernel_rfl) (BL.cls W) ?_ ?_
    ·
     refine Or.inl ⟨rfl, fun w hSw => ?_⟩
     go_simp
     show Calls _ _ _ _ _
     refine (rightI_any _ c.no c.cur c.mult c.add c.set c.price c.h0 c.h1 c.h2 c.h3 c.h4 c.h5).mono ?_
     rintro e w1 ⟨rfl, hb⟩
     exact ⟨by rw [HRC.out], hb⟩
    try simp only [Act.put, zA, zB, zC]
    refine otks (i := 3) (oi := oC3) (v := (.bool true)) rfl (by kernel_rfl) (BL.cls W) rfl (fun w hSw => by go_simp) ?_
    try simp only [Act.put, zA, zB, zC]
    refine otks (i := 4) (oi := oC4) (v := (.bool true)) rfl (by kernel_rfl) (BL.cls W) rfl (fun w hSw => by go_simp) ?_
    try simp only [Act.put, zA, zB, zC]
    refine otku (i := 5) (oi := oC5) rfl (by kernel_rfl) (BL.cls W) rfl ?_
    try simp only [Act.put, zA, zB, zC]
    refine otku (i := 6) (oi := oC6) rfl (by kernel_rfl) (BL.cls W) rfl ?_
    try simp only [Act.put, zA, zB, zC]
    refine otku (i := 7) (oi := oC7) rfl (by kernel_rfl) (BL.cls W) rfl ?_
    try simp only [Act.put, zA, zB, zC]
    refine otku (i := 8) (oi := oC24) rfl (by kernel_rfl) (BL.cls W) rfl ?_
    try simp only [Act.put, zA, zB, zC]
    refine otku (i := 9) (oi := oC25) rfl (by kernel_rfl) (BL.cls W) rfl ?_
    try simp only [Act.put, zA, zB, zC]
    refine otku (i := 10) (oi := oC10) rfl (by kernel_rfl) (BL.cls W) rfl ?_
    try simp only [Act.put, zA, zB, zC]
    refine otku (i := 11) (oi := oC11) rfl (by kernel_rfl) (BL.cls W) rfl ?_
    try simp only [Act.put, zA, zB, zC]
    refine otku (i := 12) (oi := oC26) rfl (by kernel_rfl) (BL.cls W) rfl ?_
    try simp only [Act.put, zA, zB, zC]
    refine otku (i := 13) (oi := oC27) rfl (by kernel_rfl) (BL.cls W) rfl ?_
    try simp only [Act.put, zA, zB, zC]
    refine otku (i := 14) (oi := oC28) rfl (by kernel_rfl) (BL.cls W) rfl ?_
    try simp only [Act.put, zA, zB, zC]
    refine otku (i := 15) (oi := oC29) rfl (by kernel_rfl) (BL.cls W) rfl ?_
    try simp only [Act.put, zA, zB, zC]
    refine otku (i := 16) (oi := oC30) rfl (by kernel_rfl) (BL.cls W) rfl ?_
    try simp only [Act.put, zA, zB, zC]
    refine otku (i := 17) (oi := oC31) rfl (by kernel_rfl) (BL.cls W) rfl ?_
    try simp only [Act.put, zA, zB, zC]
    refine otku (i := 18) (oi := oC18) rfl (by kernel_rfl) (BL.cls W) rfl ?_
    try simp only [Act.put, zA, zB, zC]
    refine otku (i := 19) (oi := oC19) rfl (by kernel_rfl) (BL.cls W) rfl ?_
    try simp only [Act.put, zA, zB, zC]
    refine otks (i := 20) (oi := oC20) (v := (.bool true)) rfl (by kernel_rfl) (BL.cls W) rfl (fun w hSw => by go_simp) ?_
    try simp only [Act.put, zA, zB, zC]
    refine wpAnyU_done (by kernel_rfl) (fun w1 hb1 => ?_) _
    go_wp2_with fail
    go_ret
    exact ⟨by rw [HD.out, HNO.out]; rfl, bgoS HBW.out hb1⟩
  ·
   obtain rfl : k = n := by omega
   have HY : Hid (chkB rightI InT.no L = true) := HT0.out.all (by have := HN.out; omega)
   go_wp2_with fail
   go_ret
   exact ⟨by rw [HD.out, HY.out]; rfl, hbel⟩
set_option maxRecDepth 100000 in
set_option maxHeartbeats 1600000 in
theorem risesA_any (w : World) (v : Value) (L : List AsT) (h : Rs AsT.vs 4 w v L) :
  Calls Try.prog 50 #[v, .func (.func 51) #[] #[], .func (.func 52) #[] #[]] w fun e w' => e = .returned (.bool (chkB rightA AsT.no L)) ∧ Below w.heap.size w w' := by
 obtain ⟨av, cap, rfl, hcap, hm⟩ := h.shape
 obtain ⟨n, hn⟩ : ∃ n, n = L.length := ⟨_, rfl⟩
 obtain ⟨d, hd⟩ : ∃ d : Bool, d = chkB rightA AsT.no L := ⟨_, rfl⟩
 rw [← hd]
 rw [← hn] at h hcap ⊢
 have HR := Lib.hid h
 have HN := Lib.hid hn
 have HD := Lib.hid hd
 clear h hn hd
 go_enter Try.func50, Try.ntmps50
 go_wp2_with fail
 go_loopw [11] (fun i wr => ∃ k : Nat, k ≤ n ∧ i = .int .i64 k ∧ Hid (ChkTo rightA AsT.no L k) ∧ Below w.heap.size w wr) (fun i _ => n - (intOf i).toNat)
 case atStart => exact ⟨0, Nat.zero_le _, rfl, ChkTo.zero _ _ _, Below.refl _ _⟩
 case round =>
  obtain ⟨k, hk, rfl, HT0, hbel⟩ := hrel
  by_cases hlt : k < n
  ·
   have hkL : k < L.length := by rw [← HN.out]; exact hlt
   obtain ⟨ba, offa, rfl, _, hca⟩ := (HR.out.rew HN.out hbel).at (by omega) (by decide)
   obtain ⟨c, hc⟩ : ∃ c, c = L[k] := ⟨_, rfl⟩
   have HCA : Hid (∀ j v, [.int .i64 c.no, .int .i64 c.cur, .int .i64 c.price, .int .i64 c.cut][j]? = some v → wr.cell? ⟨ba, offa + k * 4 + j, none⟩ = some v) := fun j v h => hca k hkL j v (by rw [← hc]; exact h)
   have HBL := Lib.hid hbel
   have hk0 : (0 : Int) ≤ k := by omega
   have hk1 : (k : Int) < n := by omega
   have HC := Lib.hid hc
   clear hc hca hbel
   have HSZ : Hid ((Try.prog.info? 42).map (·.size) = some (#[.int .i64 c.no, .int .i64 c.cur, .int .i64 c.price, .int .i64 c.cut] : Array Value).size) := by show _ = _; rw [ass_sz]; rfl
   have HSE : Hid ((#[.int .i64 0, .int .i64 0, .int .i64 0, .int .i64 0] : Array Value).size = (#[.int .i64 c.no, .int .i64 c.cur, .int .i64 c.price, .int .i64 c.cut] : Array Value).size) := by show _ = _; rfl
   have HON : Hid ((#[.int .i64 c.no, .int .i64 c.cur, .int .i64 c.price, .int .i64 c.cut] : Array Value).all (·.oneCell') = true) := by show _ = true; simp [Value.oneCell']
   go_upto_region 4 with (first
    | (refine wpList_load_mid rfl 42 (.tmp 14) rfl ba (offa + k * 4) rfl [.int .i64 c.no, .int .i64 c.cur, .int .i64 c.price, .int .i64 c.cut] _ (fun j v h => HCA.out j v h) Try.underlying42 rfl HSZ.out ?_)
    | (refine wpList_store_row rfl 42 (.tmp 8) (.tmp 15) rfl wr.heap.size #[.int .i64 c.no, .int .i64 c.cur, .int .i64 c.price, .int .i64 c.cut] rfl rfl 42 #[.int .i64 0, .int .i64 0, .int .i64 0, .int .i64 0] (heap_alloc_new _ _) HSZ.out HSE.out HON.out ?_)
    | fail)
   have hbs : Below wr.heap.size wr ((wr.alloc (.cells #[.int .i64 0, .int .i64 0, .int .i64 0, .int .i64 0] 42)).setRow wr.heap.size #[.int .i64 c.no, .int .i64 c.cur, .int .i64 c.price, .int .i64 c.cut]) := ((Below.refl _ _).alloc (Nat.le_refl _) _).trans (setRow_below (Nat.le_refl _) _)
   have hx : HT ((wr.alloc (.cells #[.int .i64 0, .int .i64 0, .int .i64 0, .int .i64 0] 42)).setRow wr.heap.size #[.int .i64 c.no, .int .i64 c.cur, .int .i64 c.price, .int .i64 c.cut]) wr.heap.size 42 [.int .i64 c.no, .int .i64 c.cur, .int .i64 c.price, .int .i64 c.cut] := setRow_heap _ _ _ _ _ _ (heap_alloc_new _ _)
   have hbw := bgo HBL.out hbs (Below.size HBL.out)
   obtain ⟨W, hW⟩ : ∃ x, x = ((wr.alloc (.cells #[.int .i64 0, .int .i64 0, .int .i64 0, .int .i64 0] 42)).setRow wr.heap.size #[.int .i64 c.no, .int .i64 c.cur, .int .i64 c.price, .int .i64 c.cut]) := ⟨_, rfl⟩
   rw [← hW] at hbs hx hbw ⊢
   obtain ⟨gx, hg⟩ : ∃ x, x = wr.heap.size := ⟨_, rfl⟩
   rw [← hg] at hx ⊢
   have HX := Lib.hid hx
   have HBW := Lib.hid hbw
   have HBS := Lib.hid hbs
   clear hW hx hbw hbs hg HSE HON
   by_cases hr : rightA c = true
   ·
    have HRC := Lib.hid hr
    clear hr
    by_cases h0 : k = 0
    ·
     have HNX : Hid (ChkTo rightA AsT.no L (k + 1)) := HT0.out.next hkL (by rw [← HC.out]; exact HRC.out) (fun h => absurd h (by omega))
     have hz1 : ¬ (0 < k) := by omega
     have hz2 : ¬ ((0 : Int) < (k : Int)) := by omega
     clear h0
     refine wp_region_bl 21 (by kernel_rfl) ?_
     refine otks (i := 0) (oi := oC32) (v := (.func (.func 52) #[] #[])) rfl (by kernel_rfl) (BL.cls W) rfl (fun w hSw => by go_simp) ?_
     try simp only [Act.put, zA, zB, zC]
     refine otk (i := 1) (oi := oC33) (v := (.agg #[.int .i64 c.no, .int .i64 c.cur, .int .i64 c.price, .int .i64 c.cut])) rfl (by kernel_rfl) (BL.cls W) ?_ ?_
     ·
      refine Or.inl ⟨rfl, fun w hSw => ?_⟩
      exact eff_load_mid 42 (.tmp 8) rfl gx (0) rfl [.int .i64 c.no, .int .i64 c.cur, .int .i64 c.price, .int .i64 c.cut] _ (fun j v h => BL.cell hSw (HX.out.cell (by simpa using h))) Try.underlying42 rfl HSZ.out
     try simp only [Act.put, zA, zB, zC]
     refine otk (i := 2) (oi := oC34) (v := (.bool true)) rfl (by kernel_rfl) (BL.cls W) ?_ ?_
     ·
      refine Or.inl ⟨rfl, fun w hSw => ?_⟩
      go_simp
      show Calls _ _ _ _ _
      refine (rightA_any _ c.no c.cur c.price c.cut).mono ?_
      rintro e w1 ⟨rfl, hb⟩
      exact ⟨by rw [HRC.out], hb⟩
     try simp only [Act.put, zA, zB, zC]
     refine otks (i := 3) (oi := oC3) (v := (.bool false)) rfl (by kernel_rfl) (BL.cls W) rfl (fun w hSw => by go_simp) ?_
     try simp only [Act.put, zA, zB, zC]
     refine otks (i := 4) (oi := oC4) (v := (.bool false)) rfl (by kernel_rfl) (BL.cls W) rfl (fun w hSw => by go_simp) ?_
     try simp only [Act.put, zA, zB, zC]
     refine otks (i := 5) (oi := oC5) (v := (.int .i64 (k : Int))) rfl (by kernel_rfl) (BL.cls W) rfl (fun w hSw => by go_simp) ?_
     try simp only [Act.put, zA, zB, zC]
     refine otks (i := 6) (oi := oC6) (v := (.bool false)) rfl (by kernel_rfl) (BL.cls W) rfl (fun w hSw => by go_simp) ?_
     try simp only [Act.put, zA, zB, zC]
     refine otks (i := 7) (oi := oC7) (v := (.bool false)) rfl (by kernel_rfl) (BL.cls W) rfl (fun w hSw => by go_simp) ?_
     try simp only [Act.put, zA, zB, zC]
     refine otku (i := 8) (oi := oC35) rfl (by kernel_rfl) (BL.cls W) rfl ?_
     try simp only [Act.put, zA, zB, zC]
     refine otku (i := 9) (oi := oC36) rfl (by kernel_rfl) (BL.cls W) rfl ?_
     try simp only [Act.put, zA, zB, zC]
     refine otku (i := 10) (oi := oC10) rfl (by kernel_rfl) (BL.cls W) rfl ?_
     try simp only [Act.put, zA, zB, zC]
     refine otku (i := 11) (oi := oC11) rfl (by kernel_rfl) (BL.cls W) rfl ?_
     try simp only [Act.put, zA, zB, zC]
     refine otku (i := 12) (oi := oC37) rfl (by kernel_rfl) (BL.cls W) rfl ?_
     try simp only [Act.put, zA, zB, zC]
     refine otku (i := 13) (oi := oC38) rfl (by kernel_rfl) (BL.cls W) rfl ?_
     try simp only [Act.put, zA, zB, zC]
     refine otku (i := 14) (oi := oC39) rfl (by kernel_rfl) (BL.cls W) rfl ?_
     try simp only [Act.put, zA, zB, zC]
     refine otku (i := 15) (oi := oC40) rfl (by kernel_rfl) (BL.cls W) rfl ?_
     try simp only [Act.put, zA, zB, zC]
     refine otku (i := 16) (oi := oC41) rfl (by kernel_rfl) (BL.cls W) rfl ?_
     try simp only [Act.put, zA, zB, zC]
     refine otku (i := 17) (oi := oC42) rfl (by kernel_rfl) (BL.cls W) rfl ?_
     try simp only [Act.put, zA, zB, zC]
     refine otku (i := 18) (oi := oC18) rfl (by kernel_rfl) (BL.cls W) rfl ?_
     try simp only [Act.put, zA, zB, zC]
     refine otks (i := 19) (oi := oC19) (v := (.bool false)) rfl (by kernel_rfl) (BL.cls W) rfl (fun w hSw => by go_simp) ?_
     try simp only [Act.put, zA, zB, zC]
     refine otks (i := 20) (oi := oC20) (v := (.bool false)) rfl (by kernel_rfl) (BL.cls W) rfl (fun w hSw => by go_simp) ?_
     try simp only [Act.put, zA, zB, zC]
     refine wpAnyU_done (by kernel_rfl) (fun w1 hb1 => ?_) _
     go_wp2_with fail
     exact ⟨⟨k + 1, by omega, by push_cast; rfl, HNX.out, bgoS HBW.out hb1⟩, by simp [intOf]; omega⟩
    ·
     obtain ⟨m, hm2⟩ : ∃ m, m = k - 1 := ⟨_, rfl⟩
     have hz1 : 0 < k := by omega
     have hz2 : (0 : Int) < (k : Int) := by omega
     have hmL : m < L.length := by omega
     have hm0 : (0 : Int) ≤ (m : Int) := by omega
     have hm1 : (m : Int) < n := by omega
     obtain ⟨y, hy⟩ : ∃ y, y = L[m] := ⟨_, rfl⟩
     have HCY : Hid (∀ j v, [.int .i64 y.no, .int .i64 y.cur, .int .i64 y.price, .int .i64 y.cut][j]? = some v → W.cell? ⟨ba, offa + m * 4 + j, none⟩ = some v) := by
      intro j v h
      obtain ⟨b2, o2, e2, _, hca2⟩ := (HR.out.rew HN.out HBW.out).at (by omega) (by decide)
      simp only [Option.some.injEq, Addr.mk.injEq, and_true] at e2
      obtain ⟨rfl, rfl⟩ := e2
      exact hca2 m hmL j v (by rw [← hy]; exact h)
     have hwr : IntKind.i64.wrap ((k : Int) - 1) = (m : Int) := by rw [IntKind.wrap_i64]; omega
     have HWR := Lib.hid hwr
     clear hwr h0
     by_cases hge : c.no ≤ y.no
     ·
      have HNO : Hid (chkB rightA AsT.no L = false) := by
       refine chk_no2 hkL hz1 ?_
       have e1 : L[k - 1]'(by omega) = y := by rw [hy]; congr 1; exact hm2.symm
       rw [e1, ← HC.out]
       exact hge
      have hgd : decide (y.no ≥ c.no) = true := decide_eq_true hge
      have hwr := HWR.out
      clear hy hm2
      refine wp_region_bl 21 (by kernel_rfl) ?_
      refine otks (i := 0) (oi := oC32) (v := (.func (.func 52) #[] #[])) rfl (by kernel_rfl) (BL.cls W) rfl (fun w hSw => by go_simp) ?_
      try simp only [Act.put, zA, zB, zC]
      refine otk (i := 1) (oi := oC33) (v := (.agg #[.int .i64 c.no, .int .i64 c.cur, .int .i64 c.price, .int .i64 c.cut])) rfl (by kernel_rfl) (BL.cls W) ?_ ?_
      ·
       refine Or.inl ⟨rfl, fun w hSw => ?_⟩
       exact eff_load_mid 42 (.tmp 8) rfl gx (0) rfl [.int .i64 c.no, .int .i64 c.cur, .int .i64 c.price, .int .i64 c.cut] _ (fun j v h => BL.cell hSw (HX.out.cell (by simpa using h))) Try.underlying42 rfl HSZ.out
      try simp only [Act.put, zA, zB, zC]
      refine otk (i := 2) (oi := oC34) (v := (.bool true)) rfl (by kernel_rfl) (BL.cls W) ?_ ?_
      ·
       refine Or.inl ⟨rfl, fun w hSw => ?_⟩
       go_simp
       show Calls _ _ _ _ _
       refine (rightA_any _ c.no c.cur c.price c.cut).mono ?_
       rintro e w1 ⟨rfl, hb⟩
       exact ⟨by rw [HRC.out], hb⟩
      try simp only [Act.put, zA, zB, zC]
      refine otks (i := 3) (oi := oC3) (v := (.bool false)) rfl (by kernel_rfl) (BL.cls W) rfl (fun w hSw => by go_simp) ?_
      try simp only [Act.put, zA, zB, zC]
      refine otks (i := 4) (oi := oC4) (v := (.bool false)) rfl (by kernel_rfl) (BL.cls W) rfl (fun w hSw => by go_simp) ?_
      try simp only [Act.put, zA, zB, zC]
      refine otks (i := 5) (oi := oC5) (v := (.int .i64 (k : Int))) rfl (by kernel_rfl) (BL.cls W) rfl (fun w hSw => by go_simp) ?_
      try simp only [Act.put, zA, zB, zC]
      refine otks (i := 6) (oi := oC6) (v := (.bool true)) rfl (by kernel_rfl) (BL.cls W) rfl (fun w hSw => by go_simp) ?_
      try simp only [Act.put, zA, zB, zC]
      refine otks (i := 7) (oi := oC7) (v := (.bool true)) rfl (by kernel_rfl) (BL.cls W) rfl (fun w hSw => by go_simp) ?_
      try simp only [Act.put, zA, zB, zC]
      refine otks (i := 8) (oi := oC35) (v := (.func (.func 51) #[] #[])) rfl (by kernel_rfl) (BL.cls W) rfl (fun w hSw => by go_simp) ?_
      try simp only [Act.put, zA, zB, zC]
      refine otks (i := 9) (oi := oC36) (v := (.slice (some ⟨ba, offa, none⟩) n cap)) rfl (by kernel_rfl) (BL.cls W) rfl (fun w hSw => by go_simp) ?_
      try simp only [Act.put, zA, zB, zC]
      refine otks (i := 10) (oi := oC10) (v := (.int .i64 (k : Int))) rfl (by kernel_rfl) (BL.cls W) rfl (fun w hSw => by go_simp) ?_
      try simp only [Act.put, zA, zB, zC]
      refine otks (i := 11) (oi := oC11) (v := (.int .i64 (m : Int))) rfl (by kernel_rfl) (BL.cls W) rfl (fun w hSw => by go_simp) ?_
      try simp only [Act.put, zA, zB, zC]
      refine otks (i := 12) (oi := oC37) (v := (.pointer (some ⟨ba, offa + m * 4, none⟩))) rfl (by kernel_rfl) (BL.cls W) rfl (fun w hSw => by go_simp) ?_
      try simp only [Act.put, zA, zB, zC]
      refine otk (i := 13) (oi := oC38) (v := (.agg #[.int .i64 y.no, .int .i64 y.cur, .int .i64 y.price, .int .i64 y.cut])) rfl (by kernel_rfl) (BL.cls W) ?_ ?_
      ·
       refine Or.inl ⟨rfl, fun w hSw => ?_⟩
       exact eff_load_mid 42 (.tmp 28) rfl ba (offa + m * 4) rfl [.int .i64 y.no, .int .i64 y.cur, .int .i64 y.price, .int .i64 y.cut] _ (fun j v h => BL.cell hSw (HCY.out j v h)) Try.underlying42 rfl HSZ.out
      try simp only [Act.put, zA, zB, zC]
      refine otk (i := 14) (oi := oC39) (v := (.int .i64 y.no)) rfl (by kernel_rfl) (BL.cls W) ?_ ?_
      ·
       refine Or.inl ⟨rfl, fun w hSw => ?_⟩
       go_simp
       show Calls _ _ _ _ _
       refine (noA_any _ y.no y.cur y.price y.cut).mono ?_
       rintro e w1 ⟨rfl, hb⟩
       exact ⟨rfl, hb⟩
      try simp only [Act.put, zA, zB, zC]
      refine otks (i := 15) (oi := oC40) (v := (.func (.func 51) #[] #[])) rfl (by kernel_rfl) (BL.cls W) rfl (fun w hSw => by go_simp) ?_
      try simp only [Act.put, zA, zB, zC]
      refine otk (i := 16) (oi := oC41) (v := (.agg #[.int .i64 c.no, .int .i64 c.cur, .int .i64 c.price, .int .i64 c.cut])) rfl (by kernel_rfl) (BL.cls W) ?_ ?_
      ·
       refine Or.inl ⟨rfl, fun w hSw => ?_⟩
       exact eff_load_mid 42 (.tmp 8) rfl gx (0) rfl [.int .i64 c.no, .int .i64 c.cur, .int .i64 c.price, .int .i64 c.cut] _ (fun j v h => BL.cell hSw (HX.out.cell (by simpa using h))) Try.underlying42 rfl HSZ.out
      try simp only [Act.put, zA, zB, zC]
      refine otk (i := 17) (oi := oC42) (v := (.int .i64 c.no)) rfl (by kernel_rfl) (BL.cls W) ?_ ?_
      ·
       refine Or.inl ⟨rfl, fun w hSw => ?_⟩
       go_simp
       show Calls _ _ _ _ _
       refine (noA_any _ c.no c.cur c.price c.cut).mono ?_
       rintro e w1 ⟨rfl, hb⟩
       exact ⟨rfl, hb⟩
      try simp only [Act.put, zA, zB, zC]
      refine otks (i := 18) (oi := oC18) (v := (.bool true)) rfl (by kernel_rfl) (BL.cls W) rfl (fun w hSw => by go_simp) ?_
      try simp only [Act.put, zA, zB, zC]
      refine otks (i := 19) (oi := oC19) (v := (.bool true)) rfl (by kernel_rfl) (BL.cls W) rfl (fun w hSw => by go_simp) ?_
      try simp only [Act.put, zA, zB, zC]
      refine otks (i := 20) (oi := oC20) (v := (.bool true)) rfl (by kernel_rfl) (BL.cls W) rfl (fun w hSw => by go_simp) ?_
      try simp only [Act.put, zA, zB, zC]
      refine wpAnyU_done (by kernel_rfl) (fun w1 hb1 => ?_) _
      go_wp2_with fail
      go_ret
      exact ⟨by rw [HD.out, HNO.out]; rfl, bgoS HBW.out hb1⟩
     ·
      have HNX : Hid (ChkTo rightA AsT.no L (k + 1)) := HT0.out.next hkL (by rw [← HC.out]; exact HRC.out) (fun h => by
       have e1 : L[k - 1]'(by omega) = y := by rw [hy]; congr 1; exact hm2.symm
       rw [e1, ← HC.out]
       omega)
      have hgd : decide (y.no ≥ c.no) = false := decide_eq_false hge
      have hwr := HWR.out
      clear hy hm2 hge
      refine wp_region_bl 21 (by kernel_rfl) ?_
      refine otks (i := 0) (oi := oC32) (v := (.func (.func 52) #[] #[])) rfl (by kernel_rfl) (BL.cls W) rfl (fun w hSw => by go_simp) ?_
      try simp only [Act.put, zA, zB, zC]
      refine otk (i := 1) (oi := oC33) (v := (.agg #[.int .i64 c.no, .int .i64 c.cur, .int .i64 c.price, .int .i64 c.cut])) rfl (by kernel_rfl) (BL.cls W) ?_ ?_
      ·
       refine Or.inl ⟨rfl, fun w hSw => ?_⟩
       exact eff_load_mid 42 (.tmp 8) rfl gx (0) rfl [.int .i64 c.no, .int .i64 c.cur, .int .i64 c.price, .int .i64 c.cut] _ (fun j v h => BL.cell hSw (HX.out.cell (by simpa using h))) Try.underlying42 rfl HSZ.out
      try simp only [Act.put, zA, zB, zC]
      refine otk (i := 2) (oi := oC34) (v := (.bool true)) rfl (by kernel_rfl) (BL.cls W) ?_ ?_
      ·
       refine Or.inl ⟨rfl, fun w hSw => ?_⟩
       go_simp
       show Calls _ _ _ _ _
       refine (rightA_any _ c.no c.cur c.price c.cut).mono ?_
       rintro e w1 ⟨rfl, hb⟩
       exact ⟨by rw [HRC.out], hb⟩
      try simp only [Act.put, zA, zB, zC]
      refine otks (i := 3) (oi := oC3) (v := (.bool false)) rfl (by kernel_rfl) (BL.cls W) rfl (fun w hSw => by go_simp) ?_
      try simp only [Act.put, zA, zB, zC]
      refine otks (i := 4) (oi := oC4) (v := (.bool false)) rfl (by kernel_rfl) (BL.cls W) rfl (fun w hSw => by go_simp) ?_
      try simp only [Act.put, zA, zB, zC]
      refine otks (i := 5) (oi := oC5) (v := (.int .i64 (k : Int))) rfl (by kernel_rfl) (BL.cls W) rfl (fun w hSw => by go_simp) ?_
      try simp only [Act.put, zA, zB, zC]
      refine otks (i := 6) (oi := oC6) (v := (.bool true)) rfl (by kernel_rfl) (BL.cls W) rfl (fun w hSw => by go_simp) ?_
      try simp only [Act.put, zA, zB, zC]
      refine otks (i := 7) (oi := oC7) (v := (.bool true)) rfl (by kernel_rfl) (BL.cls W) rfl (fun w hSw => by go_simp) ?_
      try simp only [Act.put, zA, zB, zC]
      refine otks (i := 8) (oi := oC35) (v := (.func (.func 51) #[] #[])) rfl (by kernel_rfl) (BL.cls W) rfl (fun w hSw => by go_simp) ?_
      try simp only [Act.put, zA, zB, zC]
      refine otks (i := 9) (oi := oC36) (v := (.slice (some ⟨ba, offa, none⟩) n cap)) rfl (by kernel_rfl) (BL.cls W) rfl (fun w hSw => by go_simp) ?_
      try simp only [Act.put, zA, zB, zC]
      refine otks (i := 10) (oi := oC10) (v := (.int .i64 (k : Int))) rfl (by kernel_rfl) (BL.cls W) rfl (fun w hSw => by go_simp) ?_
      try simp only [Act.put, zA, zB, zC]
      refine otks (i := 11) (oi := oC11) (v := (.int .i64 (m : Int))) rfl (by kernel_rfl) (BL.cls W) rfl (fun w hSw => by go_simp) ?_
      try simp only [Act.put, zA, zB, zC]
      refine otks (i := 12) (oi := oC37) (v := (.pointer (some ⟨ba, offa + m * 4, none⟩))) rfl (by kernel_rfl) (BL.cls W) rfl (fun w hSw => by go_simp) ?_
      try simp only [Act.put, zA, zB, zC]
      refine otk (i := 13) (oi := oC38) (v := (.agg #[.int .i64 y.no, .int .i64 y.cur, .int .i64 y.price, .int .i64 y.cut])) rfl (by kernel_rfl) (BL.cls W) ?_ ?_
      ·
       refine Or.inl ⟨rfl, fun w hSw => ?_⟩
       exact eff_load_mid 42 (.tmp 28) rfl ba (offa + m * 4) rfl [.int .i64 y.no, .int .i64 y.cur, .int .i64 y.price, .int .i64 y.cut] _ (fun j v h => BL.cell hSw (HCY.out j v h)) Try.underlying42 rfl HSZ.out
      try simp only [Act.put, zA, zB, zC]
      refine otk (i := 14) (oi := oC39) (v := (.int .i64 y.no)) rfl (by kernel_rfl) (BL.cls W) ?_ ?_
      ·
       refine Or.inl ⟨rfl, fun w hSw => ?_⟩
       go_simp
       show Calls _ _ _ _ _
       refine (noA_any _ y.no y.cur y.price y.cut).mono ?_
       rintro e w1 ⟨rfl, hb⟩
       exact ⟨rfl, hb⟩
      try simp only [Act.put, zA, zB, zC]
      refine otks (i := 15) (oi := oC40) (v := (.func (.func 51) #[] #[])) rfl (by kernel_rfl) (BL.cls W) rfl (fun w hSw => by go_simp) ?_
      try simp only [Act.put, zA, zB, zC]
      refine otk (i := 16) (oi := oC41) (v := (.agg #[.int .i64 c.no, .int .i64 c.cur, .int .i64 c.price, .int .i64 c.cut])) rfl (by kernel_rfl) (BL.cls W) ?_ ?_
      ·
       refine Or.inl ⟨rfl, fun w hSw => ?_⟩
       exact eff_load_mid 42 (.tmp 8) rfl gx (0) rfl [.int .i64 c.no, .int .i64 c.cur, .int .i64 c.price, .int .i64 c.cut] _ (fun j v h => BL.cell hSw (HX.out.cell (by simpa using h))) Try.underlying42 rfl HSZ.out
      try simp only [Act.put, zA, zB, zC]
      refine otk (i := 17) (oi := oC42) (v := (.int .i64 c.no)) rfl (by kernel_rfl) (BL.cls W) ?_ ?_
      ·
       refine Or.inl ⟨rfl, fun w hSw => ?_⟩
       go_simp
       show Calls _ _ _ _ _
       refine (noA_any _ c.no c.cur c.price c.cut).mono ?_
       rintro e w1 ⟨rfl, hb⟩
       exact ⟨rfl, hb⟩
      try simp only [Act.put, zA, zB, zC]
      refine otks (i := 18) (oi := oC18) (v := (.bool false)) rfl (by kernel_rfl) (BL.cls W) rfl (fun w hSw => by go_simp) ?_
      try simp only [Act.put, zA, zB, zC]
      refine otks (i := 19) (oi := oC19) (v := (.bool false)) rfl (by kernel_rfl) (BL.cls W) rfl (fun w hSw => by go_simp) ?_
      try simp only [Act.put, zA, zB, zC]
      refine otks (i := 20) (oi := oC20) (v := (.bool false)) rfl (by kernel_rfl) (BL.cls W) rfl (fun w hSw => by go_simp) ?_
      try simp only [Act.put, zA, zB, zC]
      refine wpAnyU_done (by kernel_rfl) (fun w1 hb1 => ?_) _
      go_wp2_with fail
      exact ⟨⟨k + 1, by omega, by push_cast; rfl, HNX.out, bgoS HBW.out hb1⟩, by simp [intOf]; omega⟩
   ·
    have hr2 : rightA c = false := by simpa using hr
    have HRC := Lib.hid hr2
    have HNO : Hid (chkB rightA AsT.no L = false) := chk_no1 hkL (by rw [← HC.out]; exact hr2)
    clear hr hr2
    refine wp_region_bl 21 (by kernel_rfl) ?_
    refine otks (i := 0) (oi := oC32) (v := (.func (.func 52) #[] #[])) rfl (by kernel_rfl) (BL.cls W) rfl (fun w hSw => by go_simp) ?_
    try simp only [Act.put, zA, zB, zC]
    refine otk (i := 1) (oi := oC33) (v := (.agg #[.int .i64 c.no, .int .i64 c.cur, .int .i64 c.price, .int .i64 c.cut])) rfl (by kernel_rfl) (BL.cls W) ?_ ?_
    ·
     refine Or.inl ⟨rfl, fun w hSw => ?_⟩
     exact eff_load_mid 42 (.tmp 8) rfl gx (0) rfl [.int .i64 c.no, .int .i64 c.cur, .int .i64 c.price, .int .i64 c.cut] _ (fun j v h => BL.cell hSw (HX.out.cell (by simpa using h))) Try.underlying42 rfl HSZ.out
    try simp only [Act.put, zA, zB, zC]
    refine otk (i := 2) (oi := oC34) (v := (.bool false)) rfl (by kernel_rfl) (BL.cls W) ?_ ?_
    ·
     refine Or.inl ⟨rfl, fun w hSw => ?_⟩
     go_simp
     show Calls _ _ _ _ _
     refine (rightA_any _ c.no c.cur c.price c.cut).mono ?_
     rintro e w1 ⟨rfl, hb⟩
     exact ⟨by rw [HRC.out], hb⟩
    try simp only [Act.put, zA, zB, zC]
    refine otks (i := 3) (oi := oC3) (v := (.bool true)) rfl (by kernel_rfl) (BL.cls W) rfl (fun w hSw => by go_simp) ?_
    try simp only [Act.put, zA, zB, zC]
    refine otks (i := 4) (oi := oC4) (v := (.bool true)) rfl (by kernel_rfl) (BL.cls W) rfl (fun w hSw => by go_simp) ?_
    try simp only [Act.put, zA, zB, zC]
    refine otku (i := 5) (oi := oC5) rfl (by kernel_rfl) (BL.cls W) rfl ?_
    try simp only [Act.put, zA, zB, zC]
    refine otku (i := 6) (oi := oC6) rfl (by kernel_rfl) (BL.cls W) rfl ?_
    try simp only [Act.put, zA, zB, zC]
    refine otku (i := 7) (oi := oC7) rfl (by kernel_rfl) (BL.cls W) rfl ?_
    try simp only [Act.put, zA, zB, zC]
    refine otku (i := 8) (oi := oC35) rfl (by kernel_rfl) (BL.cls W) rfl ?_
    try simp only [Act.put, zA, zB, zC]
    refine otku (i := 9) (oi := oC36) rfl (by kernel_rfl) (BL.cls W) rfl ?_
    try simp only [Act.put, zA, zB, zC]
    refine otku (i := 10) (oi := oC10) rfl (by kernel_rfl) (BL.cls W) rfl ?_
    try simp only [Act.put, zA, zB, zC]
    refine otku (i := 11) (oi := oC11) rfl (by kernel_rfl) (BL.cls W) rfl ?_
    try simp only [Act.put, zA, zB, zC]
    refine otku (i := 12) (oi := oC37) rfl (by kernel_rfl) (BL.cls W) rfl ?_
    try simp only [Act.put, zA, zB, zC]
    refine otku (i := 13) (oi := oC38) rfl (by kernel_rfl) (BL.cls W) rfl ?_
    try simp only [Act.put, zA, zB, zC]
    refine otku (i := 14) (oi := oC39) rfl (by kernel_rfl) (BL.cls W) rfl ?_
    try simp only [Act.put, zA, zB, zC]
    refine otku (i := 15) (oi := oC40) rfl (by kernel_rfl) (BL.cls W) rfl ?_
    try simp only [Act.put, zA, zB, zC]
    refine otku (i := 16) (oi := oC41) rfl (by kernel_rfl) (BL.cls W) rfl ?_
    try simp only [Act.put, zA, zB, zC]
    refine otku (i := 17) (oi := oC42) rfl (by kernel_rfl) (BL.cls W) rfl ?_
    try simp only [Act.put, zA, zB, zC]
    refine otku (i := 18) (oi := oC18) rfl (by kernel_rfl) (BL.cls W) rfl ?_
    try simp only [Act.put, zA, zB, zC]
    refine otku (i := 19) (oi := oC19) rfl (by kernel_rfl) (BL.cls W) rfl ?_
    try simp only [Act.put, zA, zB, zC]
    refine otks (i := 20) (oi := oC20) (v := (.bool true)) rfl (by kernel_rfl) (BL.cls W) rfl (fun w hSw => by go_simp) ?_
    try simp only [Act.put, zA, zB, zC]
    refine wpAnyU_done (by kernel_rfl) (fun w1 hb1 => ?_) _
    go_wp2_with fail
    go_ret
    exact ⟨by rw [HD.out, HNO.out]; rfl, bgoS HBW.out hb1⟩
  ·
   obtain rfl : k = n := by omega
   have HY : Hid (chkB rightA AsT.no L = true) := HT0.out.all (by have := HN.out; omega)
   go_wp2_with fail
   go_ret
   exact ⟨by rw [HD.out, HY.out]; rfl, hbel⟩
end Cam
