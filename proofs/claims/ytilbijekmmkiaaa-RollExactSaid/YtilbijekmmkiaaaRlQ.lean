import Derived.Test.YtilbijekmmkiaaaUniT
import Derived.Test.YtilbijekmmkiaaaRlD
/- the page: Roll. -/
namespace Cam
open Go Go.RowKit Go.Proofs
abbrev oQ0 : Oper := { dst := some 13, op := Op.fieldAddr 26 (Operand.tmp 1) 0, type := 0, pos := "ref.go:39", after := #[], guard := none }
abbrev oQ1 : Oper := { dst := some 14, op := Op.load 22 (Operand.tmp 13), type := 22, pos := "ref.go:39", after := #[{ on := 0, ground := Ground.data }], guard := none }
abbrev oQ2 : Oper := { dst := some 15, op := Op.move (Operand.tmp 3), type := 3, pos := "ref.go:39", after := #[], guard := none }
abbrev oQ3 : Oper := { dst := some 16, op := Op.indexAddr 22 (Operand.tmp 14) (Operand.tmp 15), type := 0, pos := "ref.go:39", after := #[{ on := 1, ground := Ground.data }, { on := 2, ground := Ground.data }], guard := none }
abbrev oQ4 : Oper := { dst := some 17, op := Op.load 33 (Operand.tmp 16), type := 33, pos := "ref.go:39", after := #[{ on := 3, ground := Ground.data }], guard := none }
abbrev oQ5 : Oper := { dst := some 18, op := Op.call { callee := Callee.value (Operand.func 53), args := #[Operand.tmp 17], argTypes := #[33] }, type := 4, pos := "ref.go:39", after := #[{ on := 4, ground := Ground.data }], guard := none }
abbrev oQ6 : Oper := { dst := some 19, op := Op.unOp UnOp.not 4 (Operand.tmp 18), type := 4, pos := "ref.go:39", after := #[{ on := 5, ground := Ground.data }], guard := none }
abbrev oQ7 : Oper := { dst := some 20, op := Op.move (Operand.tmp 19), type := 4, pos := "ref.go:39", after := #[{ on := 6, ground := Ground.data }, { on := 5, ground := Ground.chain }], guard := none }
abbrev oQ8 : Oper := { dst := some 21, op := Op.move (Operand.tmp 3), type := 3, pos := "ref.go:39", after := #[{ on := 7, ground := Ground.guard }], guard := some (7, false) }
abbrev oQ9 : Oper := { dst := some 22, op := Op.binOp BinOp.gtr 3 (Operand.tmp 21) (Operand.const (Value.int IntKind.i64 0)) 3, type := 4, pos := "ref.go:39", after := #[{ on := 8, ground := Ground.data }, { on := 7, ground := Ground.guard }], guard := some (7, false) }
abbrev oQ10 : Oper := { dst := some 23, op := Op.move (Operand.tmp 22), type := 4, pos := "ref.go:39", after := #[{ on := 9, ground := Ground.data }, { on := 7, ground := Ground.chain }, { on := 7, ground := Ground.guard }], guard := some (7, false) }
abbrev oQ11 : Oper := { dst := some 24, op := Op.fieldAddr 26 (Operand.tmp 1) 0, type := 0, pos := "ref.go:39", after := #[{ on := 10, ground := Ground.guard }], guard := some (10, true) }
abbrev oQ12 : Oper := { dst := some 25, op := Op.load 22 (Operand.tmp 24), type := 22, pos := "ref.go:39", after := #[{ on := 11, ground := Ground.data }, { on := 10, ground := Ground.guard }], guard := some (10, true) }
abbrev oQ13 : Oper := { dst := some 26, op := Op.move (Operand.tmp 3), type := 3, pos := "ref.go:39", after := #[{ on := 10, ground := Ground.guard }], guard := some (10, true) }
abbrev oQ14 : Oper := { dst := some 27, op := Op.indexAddr 22 (Operand.tmp 25) (Operand.tmp 26), type := 0, pos := "ref.go:39", after := #[{ on := 12, ground := Ground.data }, { on := 13, ground := Ground.data }, { on := 10, ground := Ground.guard }], guard := some (10, true) }
abbrev oQ15 : Oper := { dst := some 28, op := Op.fieldAddr 33 (Operand.tmp 27) 0, type := 0, pos := "ref.go:39", after := #[{ on := 14, ground := Ground.data }, { on := 10, ground := Ground.guard }], guard := some (10, true) }
abbrev oQ16 : Oper := { dst := some 29, op := Op.load 3 (Operand.tmp 28), type := 3, pos := "ref.go:39", after := #[{ on := 15, ground := Ground.data }, { on := 10, ground := Ground.guard }], guard := some (10, true) }
abbrev oQ17 : Oper := { dst := some 30, op := Op.fieldAddr 26 (Operand.tmp 1) 0, type := 0, pos := "ref.go:39", after := #[{ on := 10, ground := Ground.guard }], guard := some (10, true) }
abbrev oQ18 : Oper := { dst := some 31, op := Op.load 22 (Operand.tmp 30), type := 22, pos := "ref.go:39", after := #[{ on := 17, ground := Ground.data }, { on := 10, ground := Ground.guard }], guard := some (10, true) }
abbrev oQ19 : Oper := { dst := some 32, op := Op.move (Operand.tmp 3), type := 3, pos := "ref.go:39", after := #[{ on := 10, ground := Ground.guard }], guard := some (10, true) }
abbrev oQ20 : Oper := { dst := some 33, op := Op.binOp BinOp.sub 3 (Operand.tmp 32) (Operand.const (Value.int IntKind.i64 1)) 3, type := 3, pos := "ref.go:39", after := #[{ on := 19, ground := Ground.data }, { on := 10, ground := Ground.guard }], guard := some (10, true) }
abbrev oQ21 : Oper := { dst := some 34, op := Op.indexAddr 22 (Operand.tmp 31) (Operand.tmp 33), type := 0, pos := "ref.go:39", after := #[{ on := 18, ground := Ground.data }, { on := 20, ground := Ground.data }, { on := 10, ground := Ground.guard }], guard := some (10, true) }
abbrev oQ22 : Oper := { dst := some 35, op := Op.fieldAddr 33 (Operand.tmp 34) 0, type := 0, pos := "ref.go:39", after := #[{ on := 21, ground := Ground.data }, { on := 10, ground := Ground.guard }], guard := some (10, true) }
abbrev oQ23 : Oper := { dst := some 36, op := Op.load 3 (Operand.tmp 35), type := 3, pos := "ref.go:39", after := #[{ on := 22, ground := Ground.data }, { on := 10, ground := Ground.guard }], guard := some (10, true) }
abbrev oQ24 : Oper := { dst := some 37, op := Op.binOp BinOp.leq 3 (Operand.tmp 29) (Operand.tmp 36) 3, type := 4, pos := "ref.go:39", after := #[{ on := 16, ground := Ground.data }, { on := 23, ground := Ground.data }, { on := 10, ground := Ground.guard }], guard := some (10, true) }
abbrev oQ25 : Oper := { dst := some 38, op := Op.pick (Operand.tmp 23) (Operand.tmp 37) (Operand.const (Value.bool false)), type := 4, pos := "ref.go:39", after := #[{ on := 10, ground := Ground.data }, { on := 24, ground := Ground.data }, { on := 7, ground := Ground.guard }], guard := some (7, false) }
abbrev oQ26 : Oper := { dst := some 39, op := Op.pick (Operand.tmp 20) (Operand.const (Value.bool true)) (Operand.tmp 38), type := 4, pos := "ref.go:39", after := #[{ on := 7, ground := Ground.data }, { on := 25, ground := Ground.data }], guard := none }
abbrev oQ27 : Oper := { dst := some 47, op := Op.fieldAddr 26 (Operand.tmp 1) 1, type := 0, pos := "ref.go:44", after := #[], guard := none }
abbrev oQ28 : Oper := { dst := some 48, op := Op.load 23 (Operand.tmp 47), type := 23, pos := "ref.go:44", after := #[{ on := 0, ground := Ground.data }], guard := none }
abbrev oQ29 : Oper := { dst := some 49, op := Op.move (Operand.tmp 4), type := 3, pos := "ref.go:44", after := #[], guard := none }
abbrev oQ30 : Oper := { dst := some 50, op := Op.indexAddr 23 (Operand.tmp 48) (Operand.tmp 49), type := 0, pos := "ref.go:44", after := #[{ on := 1, ground := Ground.data }, { on := 2, ground := Ground.data }], guard := none }
abbrev oQ31 : Oper := { dst := some 51, op := Op.load 38 (Operand.tmp 50), type := 38, pos := "ref.go:44", after := #[{ on := 3, ground := Ground.data }], guard := none }
abbrev oQ32 : Oper := { dst := some 52, op := Op.call { callee := Callee.value (Operand.func 54), args := #[Operand.tmp 51], argTypes := #[38] }, type := 4, pos := "ref.go:44", after := #[{ on := 4, ground := Ground.data }], guard := none }
abbrev oQ33 : Oper := { dst := some 53, op := Op.unOp UnOp.not 4 (Operand.tmp 52), type := 4, pos := "ref.go:44", after := #[{ on := 5, ground := Ground.data }], guard := none }
abbrev oQ34 : Oper := { dst := some 54, op := Op.move (Operand.tmp 53), type := 4, pos := "ref.go:44", after := #[{ on := 6, ground := Ground.data }, { on := 5, ground := Ground.chain }], guard := none }
abbrev oQ35 : Oper := { dst := some 55, op := Op.move (Operand.tmp 4), type := 3, pos := "ref.go:44", after := #[{ on := 7, ground := Ground.guard }], guard := some (7, false) }
abbrev oQ36 : Oper := { dst := some 56, op := Op.binOp BinOp.gtr 3 (Operand.tmp 55) (Operand.const (Value.int IntKind.i64 0)) 3, type := 4, pos := "ref.go:44", after := #[{ on := 8, ground := Ground.data }, { on := 7, ground := Ground.guard }], guard := some (7, false) }
abbrev oQ37 : Oper := { dst := some 57, op := Op.move (Operand.tmp 56), type := 4, pos := "ref.go:44", after := #[{ on := 9, ground := Ground.data }, { on := 7, ground := Ground.chain }, { on := 7, ground := Ground.guard }], guard := some (7, false) }
abbrev oQ38 : Oper := { dst := some 58, op := Op.fieldAddr 26 (Operand.tmp 1) 1, type := 0, pos := "ref.go:44", after := #[{ on := 10, ground := Ground.guard }], guard := some (10, true) }
abbrev oQ39 : Oper := { dst := some 59, op := Op.load 23 (Operand.tmp 58), type := 23, pos := "ref.go:44", after := #[{ on := 11, ground := Ground.data }, { on := 10, ground := Ground.guard }], guard := some (10, true) }
abbrev oQ40 : Oper := { dst := some 60, op := Op.move (Operand.tmp 4), type := 3, pos := "ref.go:44", after := #[{ on := 10, ground := Ground.guard }], guard := some (10, true) }
abbrev oQ41 : Oper := { dst := some 61, op := Op.indexAddr 23 (Operand.tmp 59) (Operand.tmp 60), type := 0, pos := "ref.go:44", after := #[{ on := 12, ground := Ground.data }, { on := 13, ground := Ground.data }, { on := 10, ground := Ground.guard }], guard := some (10, true) }
abbrev oQ42 : Oper := { dst := some 62, op := Op.fieldAddr 38 (Operand.tmp 61) 0, type := 0, pos := "ref.go:44", after := #[{ on := 14, ground := Ground.data }, { on := 10, ground := Ground.guard }], guard := some (10, true) }
abbrev oQ43 : Oper := { dst := some 63, op := Op.load 3 (Operand.tmp 62), type := 3, pos := "ref.go:44", after := #[{ on := 15, ground := Ground.data }, { on := 10, ground := Ground.guard }], guard := some (10, true) }
abbrev oQ44 : Oper := { dst := some 64, op := Op.fieldAddr 26 (Operand.tmp 1) 1, type := 0, pos := "ref.go:44", after := #[{ on := 10, ground := Ground.guard }], guard := some (10, true) }
abbrev oQ45 : Oper := { dst := some 65, op := Op.load 23 (Operand.tmp 64), type := 23, pos := "ref.go:44", after := #[{ on := 17, ground := Ground.data }, { on := 10, ground := Ground.guard }], guard := some (10, true) }
abbrev oQ46 : Oper := { dst := some 66, op := Op.move (Operand.tmp 4), type := 3, pos := "ref.go:44", after := #[{ on := 10, ground := Ground.guard }], guard := some (10, true) }
abbrev oQ47 : Oper := { dst := some 67, op := Op.binOp BinOp.sub 3 (Operand.tmp 66) (Operand.const (Value.int IntKind.i64 1)) 3, type := 3, pos := "ref.go:44", after := #[{ on := 19, ground := Ground.data }, { on := 10, ground := Ground.guard }], guard := some (10, true) }
abbrev oQ48 : Oper := { dst := some 68, op := Op.indexAddr 23 (Operand.tmp 65) (Operand.tmp 67), type := 0, pos := "ref.go:44", after := #[{ on := 18, ground := Ground.data }, { on := 20, ground := Ground.data }, { on := 10, ground := Ground.guard }], guard := some (10, true) }
abbrev oQ49 : Oper := { dst := some 69, op := Op.fieldAddr 38 (Operand.tmp 68) 0, type := 0, pos := "ref.go:44", after := #[{ on := 21, ground := Ground.data }, { on := 10, ground := Ground.guard }], guard := some (10, true) }
abbrev oQ50 : Oper := { dst := some 70, op := Op.load 3 (Operand.tmp 69), type := 3, pos := "ref.go:44", after := #[{ on := 22, ground := Ground.data }, { on := 10, ground := Ground.guard }], guard := some (10, true) }
abbrev oQ51 : Oper := { dst := some 71, op := Op.binOp BinOp.leq 3 (Operand.tmp 63) (Operand.tmp 70) 3, type := 4, pos := "ref.go:44", after := #[{ on := 16, ground := Ground.data }, { on := 23, ground := Ground.data }, { on := 10, ground := Ground.guard }], guard := some (10, true) }
abbrev oQ52 : Oper := { dst := some 72, op := Op.pick (Operand.tmp 57) (Operand.tmp 71) (Operand.const (Value.bool false)), type := 4, pos := "ref.go:44", after := #[{ on := 10, ground := Ground.data }, { on := 24, ground := Ground.data }, { on := 7, ground := Ground.guard }], guard := some (7, false) }
abbrev oQ53 : Oper := { dst := some 73, op := Op.pick (Operand.tmp 54) (Operand.const (Value.bool true)) (Operand.tmp 72), type := 4, pos := "ref.go:44", after := #[{ on := 7, ground := Ground.data }, { on := 25, ground := Ground.data }], guard := none }
abbrev oQ54 : Oper := { dst := some 81, op := Op.fieldAddr 26 (Operand.tmp 1) 2, type := 0, pos := "ref.go:49", after := #[], guard := none }
abbrev oQ55 : Oper := { dst := some 82, op := Op.load 24 (Operand.tmp 81), type := 24, pos := "ref.go:49", after := #[{ on := 0, ground := Ground.data }], guard := none }
abbrev oQ56 : Oper := { dst := some 83, op := Op.move (Operand.tmp 5), type := 3, pos := "ref.go:49", after := #[], guard := none }
abbrev oQ57 : Oper := { dst := some 84, op := Op.indexAddr 24 (Operand.tmp 82) (Operand.tmp 83), type := 0, pos := "ref.go:49", after := #[{ on := 1, ground := Ground.data }, { on := 2, ground := Ground.data }], guard := none }
abbrev oQ58 : Oper := { dst := some 85, op := Op.load 42 (Operand.tmp 84), type := 42, pos := "ref.go:49", after := #[{ on := 3, ground := Ground.data }], guard := none }
abbrev oQ59 : Oper := { dst := some 86, op := Op.call { callee := Callee.value (Operand.func 55), args := #[Operand.tmp 85], argTypes := #[42] }, type := 4, pos := "ref.go:49", after := #[{ on := 4, ground := Ground.data }], guard := none }
abbrev oQ60 : Oper := { dst := some 87, op := Op.unOp UnOp.not 4 (Operand.tmp 86), type := 4, pos := "ref.go:49", after := #[{ on := 5, ground := Ground.data }], guard := none }
abbrev oQ61 : Oper := { dst := some 88, op := Op.move (Operand.tmp 87), type := 4, pos := "ref.go:49", after := #[{ on := 6, ground := Ground.data }, { on := 5, ground := Ground.chain }], guard := none }
abbrev oQ62 : Oper := { dst := some 89, op := Op.move (Operand.tmp 5), type := 3, pos := "ref.go:49", after := #[{ on := 7, ground := Ground.guard }], guard := some (7, false) }
abbrev oQ63 : Oper := { dst := some 90, op := Op.binOp BinOp.gtr 3 (Operand.tmp 89) (Operand.const (Value.int IntKind.i64 0)) 3, type := 4, pos := "ref.go:49", after := #[{ on := 8, ground := Ground.data }, { on := 7, ground := Ground.guard }], guard := some (7, false) }
abbrev oQ64 : Oper := { dst := some 91, op := Op.move (Operand.tmp 90), type := 4, pos := "ref.go:49", after := #[{ on := 9, ground := Ground.data }, { on := 7, ground := Ground.chain }, { on := 7, ground := Ground.guard }], guard := some (7, false) }
abbrev oQ65 : Oper := { dst := some 92, op := Op.fieldAddr 26 (Operand.tmp 1) 2, type := 0, pos := "ref.go:49", after := #[{ on := 10, ground := Ground.guard }], guard := some (10, true) }
abbrev oQ66 : Oper := { dst := some 93, op := Op.load 24 (Operand.tmp 92), type := 24, pos := "ref.go:49", after := #[{ on := 11, ground := Ground.data }, { on := 10, ground := Ground.guard }], guard := some (10, true) }
abbrev oQ67 : Oper := { dst := some 94, op := Op.move (Operand.tmp 5), type := 3, pos := "ref.go:49", after := #[{ on := 10, ground := Ground.guard }], guard := some (10, true) }
abbrev oQ68 : Oper := { dst := some 95, op := Op.indexAddr 24 (Operand.tmp 93) (Operand.tmp 94), type := 0, pos := "ref.go:49", after := #[{ on := 12, ground := Ground.data }, { on := 13, ground := Ground.data }, { on := 10, ground := Ground.guard }], guard := some (10, true) }
abbrev oQ69 : Oper := { dst := some 96, op := Op.fieldAddr 42 (Operand.tmp 95) 0, type := 0, pos := "ref.go:49", after := #[{ on := 14, ground := Ground.data }, { on := 10, ground := Ground.guard }], guard := some (10, true) }
abbrev oQ70 : Oper := { dst := some 97, op := Op.load 3 (Operand.tmp 96), type := 3, pos := "ref.go:49", after := #[{ on := 15, ground := Ground.data }, { on := 10, ground := Ground.guard }], guard := some (10, true) }
abbrev oQ71 : Oper := { dst := some 98, op := Op.fieldAddr 26 (Operand.tmp 1) 2, type := 0, pos := "ref.go:49", after := #[{ on := 10, ground := Ground.guard }], guard := some (10, true) }
abbrev oQ72 : Oper := { dst := some 99, op := Op.load 24 (Operand.tmp 98), type := 24, pos := "ref.go:49", after := #[{ on := 17, ground := Ground.data }, { on := 10, ground := Ground.guard }], guard := some (10, true) }
abbrev oQ73 : Oper := { dst := some 100, op := Op.move (Operand.tmp 5), type := 3, pos := "ref.go:49", after := #[{ on := 10, ground := Ground.guard }], guard := some (10, true) }
abbrev oQ74 : Oper := { dst := some 101, op := Op.binOp BinOp.sub 3 (Operand.tmp 100) (Operand.const (Value.int IntKind.i64 1)) 3, type := 3, pos := "ref.go:49", after := #[{ on := 19, ground := Ground.data }, { on := 10, ground := Ground.guard }], guard := some (10, true) }
abbrev oQ75 : Oper := { dst := some 102, op := Op.indexAddr 24 (Operand.tmp 99) (Operand.tmp 101), type := 0, pos := "ref.go:49", after := #[{ on := 18, ground := Ground.data }, { on := 20, ground := Ground.data }, { on := 10, ground := Ground.guard }], guard := some (10, true) }
abbrev oQ76 : Oper := { dst := some 103, op := Op.fieldAddr 42 (Operand.tmp 102) 0, type := 0, pos := "ref.go:49", after := #[{ on := 21, ground := Ground.data }, { on := 10, ground := Ground.guard }], guard := some (10, true) }
abbrev oQ77 : Oper := { dst := some 104, op := Op.load 3 (Operand.tmp 103), type := 3, pos := "ref.go:49", after := #[{ on := 22, ground := Ground.data }, { on := 10, ground := Ground.guard }], guard := some (10, true) }
abbrev oQ78 : Oper := { dst := some 105, op := Op.binOp BinOp.leq 3 (Operand.tmp 97) (Operand.tmp 104) 3, type := 4, pos := "ref.go:49", after := #[{ on := 16, ground := Ground.data }, { on := 23, ground := Ground.data }, { on := 10, ground := Ground.guard }], guard := some (10, true) }
abbrev oQ79 : Oper := { dst := some 106, op := Op.pick (Operand.tmp 91) (Operand.tmp 105) (Operand.const (Value.bool false)), type := 4, pos := "ref.go:49", after := #[{ on := 10, ground := Ground.data }, { on := 24, ground := Ground.data }, { on := 7, ground := Ground.guard }], guard := some (7, false) }
abbrev oQ80 : Oper := { dst := some 107, op := Op.pick (Operand.tmp 88) (Operand.const (Value.bool true)) (Operand.tmp 106), type := 4, pos := "ref.go:49", after := #[{ on := 7, ground := Ground.data }, { on := 25, ground := Ground.data }], guard := none }
set_option maxRecDepth 100000 in
set_option maxHeartbeats 6400000 in
theorem rRoll_any (w : World) (va vb vc : Value) (R : RollT) (h : RollIn w va vb vc R) :
  Calls Try.prog 12 #[.agg #[va, vb, vc]] w fun e w' => e = .returned (.bool (chkR R)) ∧ Below w.heap.size w w' := by
 obtain ⟨h1, h2, h3⟩ := h
 obtain ⟨aM, cM, rfl, hcM, hmM⟩ := h1.shape
 obtain ⟨aI, cI, rfl, hcI, hmI⟩ := h2.shape
 obtain ⟨aA, cA, rfl, hcA, hmA⟩ := h3.shape
 obtain ⟨nM, hnM⟩ : ∃ n, n = R.M.length := ⟨_, rfl⟩
 obtain ⟨nI, hnI⟩ : ∃ n, n = R.I.length := ⟨_, rfl⟩
 obtain ⟨nA, hnA⟩ : ∃ n, n = R.A.length := ⟨_, rfl⟩
 rw [← hnM] at h1 hcM
 rw [← hnI] at h2 hcI
 rw [← hnA] at h3 hcA
 rw [← hnM, ← hnI, ← hnA]
 obtain ⟨d, hd⟩ : ∃ d : Bool, d = chkR R := ⟨_, rfl⟩
 rw [← hd]
 have hb0 : Below w.heap.size w (w.alloc (.cells #[.slice aM nM cM, .slice aI nI cI, .slice aA nA cA] 26)) := (Below.refl _ _).alloc (Nat.le_refl _) _
 have hr : HT (w.alloc (.cells #[.slice aM nM cM, .slice aI nI cI, .slice aA nA cA] 26)) w.heap.size 26 [.slice aM nM cM, .slice aI nI cI, .slice aA nA cA] := HT.new
 have HRM := Lib.hid h1
 have HRI := Lib.hid h2
 have HRA := Lib.hid h3
 have HNM := Lib.hid hnM
 have HNI := Lib.hid hnI
 have HNA := Lib.hid hnA
 have HD := Lib.hid hd
 have HB0 := Lib.hid hb0
 have HRR := Lib.hid hr
 clear h1 h2 h3 hnM hnI hnA hd hb0 hr
 go_enter Try.func12, Try.ntmps12
 go_wp2_with fail
 obtain ⟨WZ, hWZ⟩ : ∃ z, z = (w.alloc (.cells #[.slice aM nM cM, .slice aI nI cI, .slice aA nA cA] 26)) := ⟨_, rfl⟩
 rw [← hWZ] at HB0 HRR ⊢
 clear hWZ
 go_loopw [3] (fun i wr => ∃ k : Nat, k ≤ nM ∧ i = .int .i64 k ∧ Hid (ChkTo rightM MbT.no R.M k) ∧ HT wr w.heap.size 26 [.slice aM nM cM, .slice aI nI cI, .slice aA nA cA] ∧ Below WZ.heap.size WZ wr) (fun i _ => nM - (intOf i).toNat)
 case atStart => exact ⟨0, Nat.zero_le _, rfl, ChkTo.zero _ _ _, HRR.out, Below.refl _ _⟩
 case round =>
  obtain ⟨k, hk, rfl, HT0, hrb, hbel⟩ := hrel
  have HRB := Lib.hid hrb
  have HBL := Lib.hid hbel
  have hcr := hrb.cell (j := 0) rfl
  clear hrb hbel
  by_cases hlt : k < nM
  ·
   have hkL : k < R.M.length := by have := HNM.out; omega
   obtain ⟨ba, offa, rfl, _, hca⟩ := (HRM.out.rew HNM.out (bgo HB0.out HBL.out HB0.out.size)).at (by omega) (by decide)
   obtain ⟨c, hc⟩ : ∃ c, c = R.M[k] := ⟨_, rfl⟩
   have HCA : Hid (∀ j v, [.int .i64 c.no, .int .i64 c.state, .int .i64 c.need][j]? = some v → wr.cell? ⟨ba, offa + k * 3 + j, none⟩ = some v) := fun j v h => hca k hkL j v (by rw [← hc]; exact h)
   have HSZ : Hid ((Try.prog.info? 33).map (·.size) = some (#[.int .i64 c.no, .int .i64 c.state, .int .i64 c.need] : Array Value).size) := by show _ = _; rw [mem_sz]; rfl
   have hk0 : (0 : Int) ≤ k := by omega
   have hk1 : (k : Int) < nM := by omega
   have HC := Lib.hid hc
   clear hc hca
   go_wp2_with fail
   clear hcr
   by_cases hr : rightM c = true
   ·
    have HRC := Lib.hid hr
    clear hr
    by_cases h0 : k = 0
    ·
     have HNX : Hid (ChkTo rightM MbT.no R.M (k + 1)) := HT0.out.next hkL (by rw [← HC.out]; exact HRC.out) (fun h => absurd h (by omega))
     have hz1 : ¬ (0 < k) := by omega
     have hz2 : ¬ ((0 : Int) < (k : Int)) := by omega
     clear h0
     refine wp_region_bl 27 (by kernel_rfl) ?_
     refine otks (i := 0) (oi := oQ0) (v := (.pointer (some ⟨w.heap.size, 0, none⟩))) rfl (by kernel_rfl) (BL.cls wr) rfl (fun w hSw => by go_simp) ?_
     try simp only [Act.put, zA, zB, zC]
     refine otk (i := 1) (oi := oQ1) (v := (.slice (some ⟨ba, offa, none⟩) nM cM)) rfl (by kernel_rfl) (BL.cls wr) ?_ ?_
     ·
      refine Or.inl ⟨rfl, fun w hSw => ?_⟩
      have e0 := BL.cell hSw (HRB.out.cell (j := 0) rfl)
      exact EffR.same (by go_simp)
     try simp only [Act.put, zA, zB, zC]
     refine otks (i := 2) (oi := oQ2) (v := (.int .i64 (k : Int))) rfl (by kernel_rfl) (BL.cls wr) rfl (fun w hSw => by go_simp) ?_
     try simp only [Act.put, zA, zB, zC]
     refine otks (i := 3) (oi := oQ3) (v := (.pointer (some ⟨ba, offa + k * 3, none⟩))) rfl (by kernel_rfl) (BL.cls wr) rfl (fun w hSw => by go_simp) ?_
     try simp only [Act.put, zA, zB, zC]
     refine otk (i := 4) (oi := oQ4) (v := (.agg #[.int .i64 c.no, .int .i64 c.state, .int .i64 c.need])) rfl (by kernel_rfl) (BL.cls wr) ?_ ?_
     ·
      refine Or.inl ⟨rfl, fun w hSw => ?_⟩
      exact eff_load_mid 33 (.tmp 16) rfl ba (offa + k * 3) rfl [.int .i64 c.no, .int .i64 c.state, .int .i64 c.need] _ (fun j v h => BL.cell hSw (HCA.out j v h)) Try.underlying33 rfl HSZ.out
     try simp only [Act.put, zA, zB, zC]
     refine otk (i := 5) (oi := oQ5) (v := (.bool true)) rfl (by kernel_rfl) (BL.cls wr) ?_ ?_
     ·
      refine Or.inl ⟨rfl, fun w hSw => ?_⟩
      go_simp
      show Calls _ _ _ _ _
      refine (rmember_any _ c.no c.state c.need).mono ?_
      rintro e w1 ⟨rfl, hb⟩
      exact ⟨by rw [HRC.out], hb⟩
     try simp only [Act.put, zA, zB, zC]
     refine otks (i := 6) (oi := oQ6) (v := (.bool false)) rfl (by kernel_rfl) (BL.cls wr) rfl (fun w hSw => by go_simp) ?_
     try simp only [Act.put, zA, zB, zC]
     refine otks (i := 7) (oi := oQ7) (v := (.bool false)) rfl (by kernel_rfl) (BL.cls wr) rfl (fun w hSw => by go_simp) ?_
     try simp only [Act.put, zA, zB, zC]
     refine otks (i := 8) (oi := oQ8) (v := (.int .i64 (k : Int))) rfl (by kernel_rfl) (BL.cls wr) rfl (fun w hSw => by go_simp) ?_
     try simp only [Act.put, zA, zB, zC]
     refine otks (i := 9) (oi := oQ9) (v := (.bool false)) rfl (by kernel_rfl) (BL.cls wr) rfl (fun w hSw => by go_simp) ?_
     try simp only [Act.put, zA, zB, zC]
     refine otks (i := 10) (oi := oQ10) (v := (.bool false)) rfl (by kernel_rfl) (BL.cls wr) rfl (fun w hSw => by go_simp) ?_
     try simp only [Act.put, zA, zB, zC]
     refine otku (i := 11) (oi := oQ11) rfl (by kernel_rfl) (BL.cls wr) rfl ?_
     try simp only [Act.put, zA, zB, zC]
     refine otku (i := 12) (oi := oQ12) rfl (by kernel_rfl) (BL.cls wr) rfl ?_
     try simp only [Act.put, zA, zB, zC]
     refine otku (i := 13) (oi := oQ13) rfl (by kernel_rfl) (BL.cls wr) rfl ?_
     try simp only [Act.put, zA, zB, zC]
     refine otku (i := 14) (oi := oQ14) rfl (by kernel_rfl) (BL.cls wr) rfl ?_
     try simp only [Act.put, zA, zB, zC]
     refine otku (i := 15) (oi := oQ15) rfl (by kernel_rfl) (BL.cls wr) rfl ?_
     try simp only [Act.put, zA, zB, zC]
     refine otku (i := 16) (oi := oQ16) rfl (by kernel_rfl) (BL.cls wr) rfl ?_
     try simp only [Act.put, zA, zB, zC]
     refine otku (i := 17) (oi := oQ17) rfl (by kernel_rfl) (BL.cls wr) rfl ?_
     try simp only [Act.put, zA, zB, zC]
     refine otku (i := 18) (oi := oQ18) rfl (by kernel_rfl) (BL.cls wr) rfl ?_
     try simp only [Act.put, zA, zB, zC]
     refine otku (i := 19) (oi := oQ19) rfl (by kernel_rfl) (BL.cls wr) rfl ?_
     try simp only [Act.put, zA, zB, zC]
     refine otku (i := 20) (oi := oQ20) rfl (by kernel_rfl) (BL.cls wr) rfl ?_
     try simp only [Act.put, zA, zB, zC]
     refine otku (i := 21) (oi := oQ21) rfl (by kernel_rfl) (BL.cls wr) rfl ?_
     try simp only [Act.put, zA, zB, zC]
     refine otku (i := 22) (oi := oQ22) rfl (by kernel_rfl) (BL.cls wr) rfl ?_
     try simp only [Act.put, zA, zB, zC]
     refine otku (i := 23) (oi := oQ23) rfl (by kernel_rfl) (BL.cls wr) rfl ?_
     try simp only [Act.put, zA, zB, zC]
     refine otku (i := 24) (oi := oQ24) rfl (by kernel_rfl) (BL.cls wr) rfl ?_
     try simp only [Act.put, zA, zB, zC]
     refine otks (i := 25) (oi := oQ25) (v := (.bool false)) rfl (by kernel_rfl) (BL.cls wr) rfl (fun w hSw => by go_simp) ?_
     try simp only [Act.put, zA, zB, zC]
     refine otks (i := 26) (oi := oQ26) (v := (.bool false)) rfl (by kernel_rfl) (BL.cls wr) rfl (fun w hSw => by go_simp) ?_
     try simp only [Act.put, zA, zB, zC]
     refine wpAnyU_done (by kernel_rfl) (fun w1 hb1 => ?_) _
     go_wp2_with fail
     exact ⟨⟨k + 1, by omega, by push_cast; rfl, HNX.out, HRB.out.below hb1, bgoS HBL.out hb1⟩, by simp [intOf]; omega⟩
    ·
     obtain ⟨m, hm2⟩ : ∃ m, m = k - 1 := ⟨_, rfl⟩
     have hz1 : 0 < k := by omega
     have hz2 : (0 : Int) < (k : Int) := by omega
     have hmL : m < R.M.length := by omega
     have hm0 : (0 : Int) ≤ (m : Int) := by omega
     have hm1 : (m : Int) < nM := by omega
     obtain ⟨y, hy⟩ : ∃ y, y = R.M[m] := ⟨_, rfl⟩
     have HCY : Hid (∀ j v, [.int .i64 y.no, .int .i64 y.state, .int .i64 y.need][j]? = some v → wr.cell? ⟨ba, offa + m * 3 + j, none⟩ = some v) := by
      intro j v h
      obtain ⟨b2, o2, e2, _, hca2⟩ := (HRM.out.rew HNM.out (bgo HB0.out HBL.out HB0.out.size)).at (by omega) (by decide)
      simp only [Option.some.injEq, Addr.mk.injEq, and_true] at e2
      obtain ⟨rfl, rfl⟩ := e2
      exact hca2 m hmL j v (by rw [← hy]; exact h)
     have hwr : IntKind.i64.wrap ((k : Int) - 1) = (m : Int) := by rw [IntKind.wrap_i64]; omega
     have HWR := Lib.hid hwr
     clear hwr h0
     by_cases hge : c.no ≤ y.no
     ·
      have HNO : Hid (chkB rightM MbT.no R.M = false) := by
       refine chk_no2 hkL hz1 ?_
       have e1 : R.M[k - 1]'(by omega) = y := by rw [hy]; congr 1; exact hm2.symm
       rw [e1, ← HC.out]
       exact hge
      have hgd : decide (c.no ≤ y.no) = true := decide_eq_true hge
      have hwr := HWR.out
      clear hy hm2
      refine wp_region_bl 27 (by kernel_rfl) ?_
      refine otks (i := 0) (oi := oQ0) (v := (.pointer (some ⟨w.heap.size, 0, none⟩))) rfl (by kernel_rfl) (BL.cls wr) rfl (fun w hSw => by go_simp) ?_
      try simp only [Act.put, zA, zB, zC]
      refine otk (i := 1) (oi := oQ1) (v := (.slice (some ⟨ba, offa, none⟩) nM cM)) rfl (by kernel_rfl) (BL.cls wr) ?_ ?_
      ·
       refine Or.inl ⟨rfl, fun w hSw => ?_⟩
       have e0 := BL.cell hSw (HRB.out.cell (j := 0) rfl)
       exact EffR.same (by go_simp)
      try simp only [Act.put, zA, zB, zC]
      refine otks (i := 2) (oi := oQ2) (v := (.int .i64 (k : Int))) rfl (by kernel_rfl) (BL.cls wr) rfl (fun w hSw => by go_simp) ?_
      try simp only [Act.put, zA, zB, zC]
      refine otks (i := 3) (oi := oQ3) (v := (.pointer (some ⟨ba, offa + k * 3, none⟩))) rfl (by kernel_rfl) (BL.cls wr) rfl (fun w hSw => by go_simp) ?_
      try simp only [Act.put, zA, zB, zC]
      refine otk (i := 4) (oi := oQ4) (v := (.agg #[.int .i64 c.no, .int .i64 c.state, .int .i64 c.need])) rfl (by kernel_rfl) (BL.cls wr) ?_ ?_
      ·
       refine Or.inl ⟨rfl, fun w hSw => ?_⟩
       exact eff_load_mid 33 (.tmp 16) rfl ba (offa + k * 3) rfl [.int .i64 c.no, .int .i64 c.state, .int .i64 c.need] _ (fun j v h => BL.cell hSw (HCA.out j v h)) Try.underlying33 rfl HSZ.out
      try simp only [Act.put, zA, zB, zC]
      refine otk (i := 5) (oi := oQ5) (v := (.bool true)) rfl (by kernel_rfl) (BL.cls wr) ?_ ?_
      ·
       refine Or.inl ⟨rfl, fun w hSw => ?_⟩
       go_simp
       show Calls _ _ _ _ _
       refine (rmember_any _ c.no c.state c.need).mono ?_
       rintro e w1 ⟨rfl, hb⟩
       exact ⟨by rw [HRC.out], hb⟩
      try simp only [Act.put, zA, zB, zC]
      refine otks (i := 6) (oi := oQ6) (v := (.bool false)) rfl (by kernel_rfl) (BL.cls wr) rfl (fun w hSw => by go_simp) ?_
      try simp only [Act.put, zA, zB, zC]
      refine otks (i := 7) (oi := oQ7) (v := (.bool false)) rfl (by kernel_rfl) (BL.cls wr) rfl (fun w hSw => by go_simp) ?_
      try simp only [Act.put, zA, zB, zC]
      refine otks (i := 8) (oi := oQ8) (v := (.int .i64 (k : Int))) rfl (by kernel_rfl) (BL.cls wr) rfl (fun w hSw => by go_simp) ?_
      try simp only [Act.put, zA, zB, zC]
      refine otks (i := 9) (oi := oQ9) (v := (.bool true)) rfl (by kernel_rfl) (BL.cls wr) rfl (fun w hSw => by go_simp) ?_
      try simp only [Act.put, zA, zB, zC]
      refine otks (i := 10) (oi := oQ10) (v := (.bool true)) rfl (by kernel_rfl) (BL.cls wr) rfl (fun w hSw => by go_simp) ?_
      try simp only [Act.put, zA, zB, zC]
      refine otks (i := 11) (oi := oQ11) (v := (.pointer (some ⟨w.heap.size, 0, none⟩))) rfl (by kernel_rfl) (BL.cls wr) rfl (fun w hSw => by go_simp) ?_
      try simp only [Act.put, zA, zB, zC]
      refine otk (i := 12) (oi := oQ12) (v := (.slice (some ⟨ba, offa, none⟩) nM cM)) rfl (by kernel_rfl) (BL.cls wr) ?_ ?_
      ·
       refine Or.inl ⟨rfl, fun w hSw => ?_⟩
       have e0 := BL.cell hSw (HRB.out.cell (j := 0) rfl)
       exact EffR.same (by go_simp)
      try simp only [Act.put, zA, zB, zC]
      refine otks (i := 13) (oi := oQ13) (v := (.int .i64 (k : Int))) rfl (by kernel_rfl) (BL.cls wr) rfl (fun w hSw => by go_simp) ?_
      try simp only [Act.put, zA, zB, zC]
      refine otks (i := 14) (oi := oQ14) (v := (.pointer (some ⟨ba, offa + k * 3, none⟩))) rfl (by kernel_rfl) (BL.cls wr) rfl (fun w hSw => by go_simp) ?_
      try simp only [Act.put, zA, zB, zC]
      refine otks (i := 15) (oi := oQ15) (v := (.pointer (some ⟨ba, offa + k * 3, none⟩))) rfl (by kernel_rfl) (BL.cls wr) rfl (fun w hSw => by go_simp) ?_
      try simp only [Act.put, zA, zB, zC]
      refine otk (i := 16) (oi := oQ16) (v := (.int .i64 c.no)) rfl (by kernel_rfl) (BL.cls wr) ?_ ?_
      ·
       refine Or.inl ⟨rfl, fun w hSw => ?_⟩
       have e0 : w.cell? ⟨ba, offa + k * 3, none⟩ = some (.int .i64 c.no) := BL.cell hSw (HCA.out 0 _ rfl)
       exact EffR.same (by go_simp)
      try simp only [Act.put, zA, zB, zC]
      refine otks (i := 17) (oi := oQ17) (v := (.pointer (some ⟨w.heap.size, 0, none⟩))) rfl (by kernel_rfl) (BL.cls wr) rfl (fun w hSw => by go_simp) ?_
      try simp only [Act.put, zA, zB, zC]
      refine otk (i := 18) (oi := oQ18) (v := (.slice (some ⟨ba, offa, none⟩) nM cM)) rfl (by kernel_rfl) (BL.cls wr) ?_ ?_
      ·
       refine Or.inl ⟨rfl, fun w hSw => ?_⟩
       have e0 := BL.cell hSw (HRB.out.cell (j := 0) rfl)
       exact EffR.same (by go_simp)
      try simp only [Act.put, zA, zB, zC]
      refine otks (i := 19) (oi := oQ19) (v := (.int .i64 (k : Int))) rfl (by kernel_rfl) (BL.cls wr) rfl (fun w hSw => by go_simp) ?_
      try simp only [Act.put, zA, zB, zC]
      refine otks (i := 20) (oi := oQ20) (v := (.int .i64 (m : Int))) rfl (by kernel_rfl) (BL.cls wr) rfl (fun w hSw => by go_simp) ?_
      try simp only [Act.put, zA, zB, zC]
      refine otks (i := 21) (oi := oQ21) (v := (.pointer (some ⟨ba, offa + m * 3, none⟩))) rfl (by kernel_rfl) (BL.cls wr) rfl (fun w hSw => by go_simp) ?_
      try simp only [Act.put, zA, zB, zC]
      refine otks (i := 22) (oi := oQ22) (v := (.pointer (some ⟨ba, offa + m * 3, none⟩))) rfl (by kernel_rfl) (BL.cls wr) rfl (fun w hSw => by go_simp) ?_
      try simp only [Act.put, zA, zB, zC]
      refine otk (i := 23) (oi := oQ23) (v := (.int .i64 y.no)) rfl (by kernel_rfl) (BL.cls wr) ?_ ?_
      ·
       refine Or.inl ⟨rfl, fun w hSw => ?_⟩
       have e0 : w.cell? ⟨ba, offa + m * 3, none⟩ = some (.int .i64 y.no) := BL.cell hSw (HCY.out 0 _ rfl)
       exact EffR.same (by go_simp)
      try simp only [Act.put, zA, zB, zC]
      refine otks (i := 24) (oi := oQ24) (v := (.bool true)) rfl (by kernel_rfl) (BL.cls wr) rfl (fun w hSw => by go_simp) ?_
      try simp only [Act.put, zA, zB, zC]
      refine otks (i := 25) (oi := oQ25) (v := (.bool true)) rfl (by kernel_rfl) (BL.cls wr) rfl (fun w hSw => by go_simp) ?_
      try simp only [Act.put, zA, zB, zC]
      refine otks (i := 26) (oi := oQ26) (v := (.bool true)) rfl (by kernel_rfl) (BL.cls wr) rfl (fun w hSw => by go_simp) ?_
      try simp only [Act.put, zA, zB, zC]
      refine wpAnyU_done (by kernel_rfl) (fun w1 hb1 => ?_) _
      go_wp2_with fail
      go_ret
      exact ⟨by rw [HD.out]; unfold chkR; rw [HNO.out]; rfl, bgo HB0.out (bgoS HBL.out hb1) HB0.out.size⟩
     ·
      have HNX : Hid (ChkTo rightM MbT.no R.M (k + 1)) := HT0.out.next hkL (by rw [← HC.out]; exact HRC.out) (fun h => by
       have e1 : R.M[k - 1]'(by omega) = y := by rw [hy]; congr 1; exact hm2.symm
       rw [e1, ← HC.out]
       omega)
      have hgd : decide (c.no ≤ y.no) = false := decide_eq_false hge
      have hwr := HWR.out
      clear hy hm2 hge
      refine wp_region_bl 27 (by kernel_rfl) ?_
      refine otks (i := 0) (oi := oQ0) (v := (.pointer (some ⟨w.heap.size, 0, none⟩))) rfl (by kernel_rfl) (BL.cls wr) rfl (fun w hSw => by go_simp) ?_
      try simp only [Act.put, zA, zB, zC]
      refine otk (i := 1) (oi := oQ1) (v := (.slice (some ⟨ba, offa, none⟩) nM cM)) rfl (by kernel_rfl) (BL.cls wr) ?_ ?_
      ·
       refine Or.inl ⟨rfl, fun w hSw => ?_⟩
       have e0 := BL.cell hSw (HRB.out.cell (j := 0) rfl)
       exact EffR.same (by go_simp)
      try simp only [Act.put, zA, zB, zC]
      refine otks (i := 2) (oi := oQ2) (v := (.int .i64 (k : Int))) rfl (by kernel_rfl) (BL.cls wr) rfl (fun w hSw => by go_simp) ?_
      try simp only [Act.put, zA, zB, zC]
      refine otks (i := 3) (oi := oQ3) (v := (.pointer (some ⟨ba, offa + k * 3, none⟩))) rfl (by kernel_rfl) (BL.cls wr) rfl (fun w hSw => by go_simp) ?_
      try simp only [Act.put, zA, zB, zC]
      refine otk (i := 4) (oi := oQ4) (v := (.agg #[.int .i64 c.no, .int .i64 c.state, .int .i64 c.need])) rfl (by kernel_rfl) (BL.cls wr) ?_ ?_
      ·
       refine Or.inl ⟨rfl, fun w hSw => ?_⟩
       exact eff_load_mid 33 (.tmp 16) rfl ba (offa + k * 3) rfl [.int .i64 c.no, .int .i64 c.state, .int .i64 c.need] _ (fun j v h => BL.cell hSw (HCA.out j v h)) Try.underlying33 rfl HSZ.out
      try simp only [Act.put, zA, zB, zC]
      refine otk (i := 5) (oi := oQ5) (v := (.bool true)) rfl (by kernel_rfl) (BL.cls wr) ?_ ?_
      ·
       refine Or.inl ⟨rfl, fun w hSw => ?_⟩
       go_simp
       show Calls _ _ _ _ _
       refine (rmember_any _ c.no c.state c.need).mono ?_
       rintro e w1 ⟨rfl, hb⟩
       exact ⟨by rw [HRC.out], hb⟩
      try simp only [Act.put, zA, zB, zC]
      refine otks (i := 6) (oi := oQ6) (v := (.bool false)) rfl (by kernel_rfl) (BL.cls wr) rfl (fun w hSw => by go_simp) ?_
      try simp only [Act.put, zA, zB, zC]
      refine otks (i := 7) (oi := oQ7) (v := (.bool false)) rfl (by kernel_rfl) (BL.cls wr) rfl (fun w hSw => by go_simp) ?_
      try simp only [Act.put, zA, zB, zC]
      refine otks (i := 8) (oi := oQ8) (v := (.int .i64 (k : Int))) rfl (by kernel_rfl) (BL.cls wr) rfl (fun w hSw => by go_simp) ?_
      try simp only [Act.put, zA, zB, zC]
      refine otks (i := 9) (oi := oQ9) (v := (.bool true)) rfl (by kernel_rfl) (BL.cls wr) rfl (fun w hSw => by go_simp) ?_
      try simp only [Act.put, zA, zB, zC]
      refine otks (i := 10) (oi := oQ10) (v := (.bool true)) rfl (by kernel_rfl) (BL.cls wr) rfl (fun w hSw => by go_simp) ?_
      try simp only [Act.put, zA, zB, zC]
      refine otks (i := 11) (oi := oQ11) (v := (.pointer (some ⟨w.heap.size, 0, none⟩))) rfl (by kernel_rfl) (BL.cls wr) rfl (fun w hSw => by go_simp) ?_
      try simp only [Act.put, zA, zB, zC]
      refine otk (i := 12) (oi := oQ12) (v := (.slice (some ⟨ba, offa, none⟩) nM cM)) rfl (by kernel_rfl) (BL.cls wr) ?_ ?_
      ·
       refine Or.inl ⟨rfl, fun w hSw => ?_⟩
       have e0 := BL.cell hSw (HRB.out.cell (j := 0) rfl)
       exact EffR.same (by go_simp)
      try simp only [Act.put, zA, zB, zC]
      refine otks (i := 13) (oi := oQ13) (v := (.int .i64 (k : Int))) rfl (by kernel_rfl) (BL.cls wr) rfl (fun w hSw => by go_simp) ?_
      try simp only [Act.put, zA, zB, zC]
      refine otks (i := 14) (oi := oQ14) (v := (.pointer (some ⟨ba, offa + k * 3, none⟩))) rfl (by kernel_rfl) (BL.cls wr) rfl (fun w hSw => by go_simp) ?_
      try simp only [Act.put, zA, zB, zC]
      refine otks (i := 15) (oi := oQ15) (v := (.pointer (some ⟨ba, offa + k * 3, none⟩))) rfl (by kernel_rfl) (BL.cls wr) rfl (fun w hSw => by go_simp) ?_
      try simp only [Act.put, zA, zB, zC]
      refine otk (i := 16) (oi := oQ16) (v := (.int .i64 c.no)) rfl (by kernel_rfl) (BL.cls wr) ?_ ?_
      ·
       refine Or.inl ⟨rfl, fun w hSw => ?_⟩
       have e0 : w.cell? ⟨ba, offa + k * 3, none⟩ = some (.int .i64 c.no) := BL.cell hSw (HCA.out 0 _ rfl)
       exact EffR.same (by go_simp)
      try simp only [Act.put, zA, zB, zC]
      refine otks (i := 17) (oi := oQ17) (v := (.pointer (some ⟨w.heap.size, 0, none⟩))) rfl (by kernel_rfl) (BL.cls wr) rfl (fun w hSw => by go_simp) ?_
      try simp only [Act.put, zA, zB, zC]
      refine otk (i := 18) (oi := oQ18) (v := (.slice (some ⟨ba, offa, none⟩) nM cM)) rfl (by kernel_rfl) (BL.cls wr) ?_ ?_
      ·
       refine Or.inl ⟨rfl, fun w hSw => ?_⟩
       have e0 := BL.cell hSw (HRB.out.cell (j := 0) rfl)
       exact EffR.same (by go_simp)
      try simp only [Act.put, zA, zB, zC]
      refine otks (i := 19) (oi := oQ19) (v := (.int .i64 (k : Int))) rfl (by kernel_rfl) (BL.cls wr) rfl (fun w hSw => by go_simp) ?_
      try simp only [Act.put, zA, zB, zC]
      refine otks (i := 20) (oi := oQ20) (v := (.int .i64 (m : Int))) rfl (by kernel_rfl) (BL.cls wr) rfl (fun w hSw => by go_simp) ?_
      try simp only [Act.put, zA, zB, zC]
      refine otks (i := 21) (oi := oQ21) (v := (.pointer (some ⟨ba, offa + m * 3, none⟩))) rfl (by kernel_rfl) (BL.cls wr) rfl (fun w hSw => by go_simp) ?_
      try simp only [Act.put, zA, zB, zC]
      refine otks (i := 22) (oi := oQ22) (v := (.pointer (some ⟨ba, offa + m * 3, none⟩))) rfl (by kernel_rfl) (BL.cls wr) rfl (fun w hSw => by go_simp) ?_
      try simp only [Act.put, zA, zB, zC]
      refine otk (i := 23) (oi := oQ23) (v := (.int .i64 y.no)) rfl (by kernel_rfl) (BL.cls wr) ?_ ?_
      ·
       refine Or.inl ⟨rfl, fun w hSw => ?_⟩
       have e0 : w.cell? ⟨ba, offa + m * 3, none⟩ = some (.int .i64 y.no) := BL.cell hSw (HCY.out 0 _ rfl)
       exact EffR.same (by go_simp)
      try simp only [Act.put, zA, zB, zC]
      refine otks (i := 24) (oi := oQ24) (v := (.bool false)) rfl (by kernel_rfl) (BL.cls wr) rfl (fun w hSw => by go_simp) ?_
      try simp only [Act.put, zA, zB, zC]
      refine otks (i := 25) (oi := oQ25) (v := (.bool false)) rfl (by kernel_rfl) (BL.cls wr) rfl (fun w hSw => by go_simp) ?_
      try simp only [Act.put, zA, zB, zC]
      refine otks (i := 26) (oi := oQ26) (v := (.bool false)) rfl (by kernel_rfl) (BL.cls wr) rfl (fun w hSw => by go_simp) ?_
      try simp only [Act.put, zA, zB, zC]
      refine wpAnyU_done (by kernel_rfl) (fun w1 hb1 => ?_) _
      go_wp2_with fail
      exact ⟨⟨k + 1, by omega, by push_cast; rfl, HNX.out, HRB.out.below hb1, bgoS HBL.out hb1⟩, by simp [intOf]; omega⟩
   ·
    have hr2 : rightM c = false := by simpa using hr
    have HRC := Lib.hid hr2
    have HNO : Hid (chkB rightM MbT.no R.M = false) := chk_no1 hkL (by rw [← HC.out]; exact hr2)
    clear hr hr2
    refine wp_region_bl 27 (by kernel_rfl) ?_
    refine otks (i := 0) (oi := oQ0) (v := (.pointer (some ⟨w.heap.size, 0, none⟩))) rfl (by kernel_rfl) (BL.cls wr) rfl (fun w hSw => by go_simp) ?_
    try simp only [Act.put, zA, zB, zC]
    refine otk (i := 1) (oi := oQ1) (v := (.slice (some ⟨ba, offa, none⟩) nM cM)) rfl (by kernel_rfl) (BL.cls wr) ?_ ?_
    ·
     refine Or.inl ⟨rfl, fun w hSw => ?_⟩
     have e0 := BL.cell hSw (HRB.out.cell (j := 0) rfl)
     exact EffR.same (by go_simp)
    try simp only [Act.put, zA, zB, zC]
    refine otks (i := 2) (oi := oQ2) (v := (.int .i64 (k : Int))) rfl (by kernel_rfl) (BL.cls wr) rfl (fun w hSw => by go_simp) ?_
    try simp only [Act.put, zA, zB, zC]
    refine otks (i := 3) (oi := oQ3) (v := (.pointer (some ⟨ba, offa + k * 3, none⟩))) rfl (by kernel_rfl) (BL.cls wr) rfl (fun w hSw => by go_simp) ?_
    try simp only [Act.put, zA, zB, zC]
    refine otk (i := 4) (oi := oQ4) (v := (.agg #[.int .i64 c.no, .int .i64 c.state, .int .i64 c.need])) rfl (by kernel_rfl) (BL.cls wr) ?_ ?_
    ·
     refine Or.inl ⟨rfl, fun w hSw => ?_⟩
     exact eff_load_mid 33 (.tmp 16) rfl ba (offa + k * 3) rfl [.int .i64 c.no, .int .i64 c.state, .int .i64 c.need] _ (fun j v h => BL.cell hSw (HCA.out j v h)) Try.underlying33 rfl HSZ.out
    try simp only [Act.put, zA, zB, zC]
    refine otk (i := 5) (oi := oQ5) (v := (.bool false)) rfl (by kernel_rfl) (BL.cls wr) ?_ ?_
    ·
     refine Or.inl ⟨rfl, fun w hSw => ?_⟩
     go_simp
     show Calls _ _ _ _ _
     refine (rmember_any _ c.no c.state c.need).mono ?_
     rintro e w1 ⟨rfl, hb⟩
     exact ⟨by rw [HRC.out], hb⟩
    try simp only [Act.put, zA, zB, zC]
    refine otks (i := 6) (oi := oQ6) (v := (.bool true)) rfl (by kernel_rfl) (BL.cls wr) rfl (fun w hSw => by go_simp) ?_
    try simp only [Act.put, zA, zB, zC]
    refine otks (i := 7) (oi := oQ7) (v := (.bool true)) rfl (by kernel_rfl) (BL.cls wr) rfl (fun w hSw => by go_simp) ?_
    try simp only [Act.put, zA, zB, zC]
    refine otku (i := 8) (oi := oQ8) rfl (by kernel_rfl) (BL.cls wr) rfl ?_
    try simp only [Act.put, zA, zB, zC]
    refine otku (i := 9) (oi := oQ9) rfl (by kernel_rfl) (BL.cls wr) rfl ?_
    try simp only [Act.put, zA, zB, zC]
    refine otku (i := 10) (oi := oQ10) rfl (by kernel_rfl) (BL.cls wr) rfl ?_
    try simp only [Act.put, zA, zB, zC]
    refine otku (i := 11) (oi := oQ11) rfl (by kernel_rfl) (BL.cls wr) rfl ?_
    try simp only [Act.put, zA, zB, zC]
    refine otku (i := 12) (oi := oQ12) rfl (by kernel_rfl) (BL.cls wr) rfl ?_
    try simp only [Act.put, zA, zB, zC]
    refine otku (i := 13) (oi := oQ13) rfl (by kernel_rfl) (BL.cls wr) rfl ?_
    try simp only [Act.put, zA, zB, zC]
    refine otku (i := 14) (oi := oQ14) rfl (by kernel_rfl) (BL.cls wr) rfl ?_
    try simp only [Act.put, zA, zB, zC]
    refine otku (i := 15) (oi := oQ15) rfl (by kernel_rfl) (BL.cls wr) rfl ?_
    try simp only [Act.put, zA, zB, zC]
    refine otku (i := 16) (oi := oQ16) rfl (by kernel_rfl) (BL.cls wr) rfl ?_
    try simp only [Act.put, zA, zB, zC]
    refine otku (i := 17) (oi := oQ17) rfl (by kernel_rfl) (BL.cls wr) rfl ?_
    try simp only [Act.put, zA, zB, zC]
    refine otku (i := 18) (oi := oQ18) rfl (by kernel_rfl) (BL.cls wr) rfl ?_
    try simp only [Act.put, zA, zB, zC]
    refine otku (i := 19) (oi := oQ19) rfl (by kernel_rfl) (BL.cls wr) rfl ?_
    try simp only [Act.put, zA, zB, zC]
    refine otku (i := 20) (oi := oQ20) rfl (by kernel_rfl) (BL.cls wr) rfl ?_
    try simp only [Act.put, zA, zB, zC]
    refine otku (i := 21) (oi := oQ21) rfl (by kernel_rfl) (BL.cls wr) rfl ?_
    try simp only [Act.put, zA, zB, zC]
    refine otku (i := 22) (oi := oQ22) rfl (by kernel_rfl) (BL.cls wr) rfl ?_
    try simp only [Act.put, zA, zB, zC]
    refine otku (i := 23) (oi := oQ23) rfl (by kernel_rfl) (BL.cls wr) rfl ?_
    try simp only [Act.put, zA, zB, zC]
    refine otku (i := 24) (oi := oQ24) rfl (by kernel_rfl) (BL.cls wr) rfl ?_
    try simp only [Act.put, zA, zB, zC]
    refine otku (i := 25) (oi := oQ25) rfl (by kernel_rfl) (BL.cls wr) rfl ?_
    try simp only [Act.put, zA, zB, zC]
    refine otks (i := 26) (oi := oQ26) (v := (.bool true)) rfl (by kernel_rfl) (BL.cls wr) rfl (fun w hSw => by go_simp) ?_
    try simp only [Act.put, zA, zB, zC]
    refine wpAnyU_done (by kernel_rfl) (fun w1 hb1 => ?_) _
    go_wp2_with fail
    go_ret
    exact ⟨by rw [HD.out]; unfold chkR; rw [HNO.out]; rfl, bgo HB0.out (bgoS HBL.out hb1) HB0.out.size⟩
  ·
   have hkn : nM = k := by omega
   subst hkn
   have HYM : Hid (chkB rightM MbT.no R.M = true) := HT0.out.all (by have := HNM.out; omega)
   go_wp2_with fail
   clear hcr
   go_loopw [4] (fun i wr => ∃ k : Nat, k ≤ nI ∧ i = .int .i64 k ∧ Hid (ChkTo rightI InT.no R.I k) ∧ HT wr w.heap.size 26 [.slice aM nM cM, .slice aI nI cI, .slice aA nA cA] ∧ Below WZ.heap.size WZ wr) (fun i _ => nI - (intOf i).toNat)
   case atStart => exact ⟨0, Nat.zero_le _, rfl, ChkTo.zero _ _ _, HRB.out, HBL.out⟩
   case round =>
    obtain ⟨k, hk, rfl, HT0, hrb, hbel⟩ := hrel
    have HRB := Lib.hid hrb
    have HBL := Lib.hid hbel
    have hcr := hrb.cell (j := 1) rfl
    clear hrb hbel
    by_cases hlt : k < nI
    ·
     have hkL : k < R.I.length := by have := HNI.out; omega
     obtain ⟨ba, offa, rfl, _, hca⟩ := (HRI.out.rew HNI.out (bgo HB0.out HBL.out HB0.out.size)).at (by omega) (by decide)
     obtain ⟨c, hc⟩ : ∃ c, c = R.I[k] := ⟨_, rfl⟩
     have HCA : Hid (∀ j v, [.int .i64 c.no, .int .i64 c.cur, .int .i64 c.mult, .int .i64 c.add, .int .i64 c.set, .int .i64 c.price, .int .i64 c.h0, .int .i64 c.h1, .int .i64 c.h2, .int .i64 c.h3, .int .i64 c.h4, .int .i64 c.h5][j]? = some v → wr.cell? ⟨ba, offa + k * 12 + j, none⟩ = some v) := fun j v h => hca k hkL j v (by rw [← hc]; exact h)
     have HSZ : Hid ((Try.prog.info? 38).map (·.size) = some (#[.int .i64 c.no, .int .i64 c.cur, .int .i64 c.mult, .int .i64 c.add, .int .i64 c.set, .int .i64 c.price, .int .i64 c.h0, .int .i64 c.h1, .int .i64 c.h2, .int .i64 c.h3, .int .i64 c.h4, .int .i64 c.h5] : Array Value).size) := by show _ = _; rw [ins_sz]; rfl
     have hk0 : (0 : Int) ≤ k := by omega
     have hk1 : (k : Int) < nI := by omega
     have HC := Lib.hid hc
     clear hc hca
     go_wp2_with fail
     clear hcr
     by_cases hr : rightI c = true
     ·
      have HRC := Lib.hid hr
      clear hr
      by_cases h0 : k = 0
      ·
       have HNX : Hid (ChkTo rightI InT.no R.I (k + 1)) := HT0.out.next hkL (by rw [← HC.out]; exact HRC.out) (fun h => absurd h (by omega))
       have hz1 : ¬ (0 < k) := by omega
       have hz2 : ¬ ((0 : Int) < (k : Int)) := by omega
       clear h0
       refine wp_region_bl 27 (by kernel_rfl) ?_
       refine otks (i := 0) (oi := oQ27) (v := (.pointer (some ⟨w.heap.size, 1, none⟩))) rfl (by kernel_rfl) (BL.cls wr) rfl (fun w hSw => by go_simp) ?_
       try simp only [Act.put, zA, zB, zC]
       refine otk (i := 1) (oi := oQ28) (v := (.slice (some ⟨ba, offa, none⟩) nI cI)) rfl (by kernel_rfl) (BL.cls wr) ?_ ?_
       ·
        refine Or.inl ⟨rfl, fun w hSw => ?_⟩
        have e0 := BL.cell hSw (HRB.out.cell (j := 1) rfl)
        exact EffR.same (by go_simp)
       try simp only [Act.put, zA, zB, zC]
       refine otks (i := 2) (oi := oQ29) (v := (.int .i64 (k : Int))) rfl (by kernel_rfl) (BL.cls wr) rfl (fun w hSw => by go_simp) ?_
       try simp only [Act.put, zA, zB, zC]
       refine otks (i := 3) (oi := oQ30) (v := (.pointer (some ⟨ba, offa + k * 12, none⟩))) rfl (by kernel_rfl) (BL.cls wr) rfl (fun w hSw => by go_simp) ?_
       try simp only [Act.put, zA, zB, zC]
       refine otk (i := 4) (oi := oQ31) (v := (.agg #[.int .i64 c.no, .int .i64 c.cur, .int .i64 c.mult, .int .i64 c.add, .int .i64 c.set, .int .i64 c.price, .int .i64 c.h0, .int .i64 c.h1, .int .i64 c.h2, .int .i64 c.h3, .int .i64 c.h4, .int .i64 c.h5])) rfl (by kernel_rfl) (BL.cls wr) ?_ ?_
       ·
        refine Or.inl ⟨rfl, fun w hSw => ?_⟩
        exact eff_load_mid 38 (.tmp 50) rfl ba (offa + k * 12) rfl [.int .i64 c.no, .int .i64 c.cur, .int .i64 c.mult, .int .i64 c.add, .int .i64 c.set, .int .i64 c.price, .int .i64 c.h0, .int .i64 c.h1, .int .i64 c.h2, .int .i64 c.h3, .int .i64 c.h4, .int .i64 c.h5] _ (fun j v h => BL.cell hSw (HCA.out j v h)) Try.underlying38 rfl HSZ.out
       try simp only [Act.put, zA, zB, zC]
       refine otk (i := 5) (oi := oQ32) (v := (.bool true)) rfl (by kernel_rfl) (BL.cls wr) ?_ ?_
       ·
        refine Or.inl ⟨rfl, fun w hSw => ?_⟩
        go_simp
        show Calls _ _ _ _ _
        refine (rinst_any _ c.no c.cur c.mult c.add c.set c.price c.h0 c.h1 c.h2 c.h3 c.h4 c.h5).mono ?_
        rintro e w1 ⟨rfl, hb⟩
        exact ⟨by rw [HRC.out], hb⟩
       try simp only [Act.put, zA, zB, zC]
       refine otks (i := 6) (oi := oQ33) (v := (.bool false)) rfl (by kernel_rfl) (BL.cls wr) rfl (fun w hSw => by go_simp) ?_
       try simp only [Act.put, zA, zB, zC]
       refine otks (i := 7) (oi := oQ34) (v := (.bool false)) rfl (by kernel_rfl) (BL.cls wr) rfl (fun w hSw => by go_simp) ?_
       try simp only [Act.put, zA, zB, zC]
       refine otks (i := 8) (oi := oQ35) (v := (.int .i64 (k : Int))) rfl (by kernel_rfl) (BL.cls wr) rfl (fun w hSw => by go_simp) ?_
       try simp only [Act.put, zA, zB, zC]
       refine otks (i := 9) (oi := oQ36) (v := (.bool false)) rfl (by kernel_rfl) (BL.cls wr) rfl (fun w hSw => by go_simp) ?_
       try simp only [Act.put, zA, zB, zC]
       refine otks (i := 10) (oi := oQ37) (v := (.bool false)) rfl (by kernel_rfl) (BL.cls wr) rfl (fun w hSw => by go_simp) ?_
       try simp only [Act.put, zA, zB, zC]
       refine otku (i := 11) (oi := oQ38) rfl (by kernel_rfl) (BL.cls wr) rfl ?_
       try simp only [Act.put, zA, zB, zC]
       refine otku (i := 12) (oi := oQ39) rfl (by kernel_rfl) (BL.cls wr) rfl ?_
       try simp only [Act.put, zA, zB, zC]
       refine otku (i := 13) (oi := oQ40) rfl (by kernel_rfl) (BL.cls wr) rfl ?_
       try simp only [Act.put, zA, zB, zC]
       refine otku (i := 14) (oi := oQ41) rfl (by kernel_rfl) (BL.cls wr) rfl ?_
       try simp only [Act.put, zA, zB, zC]
       refine otku (i := 15) (oi := oQ42) rfl (by kernel_rfl) (BL.cls wr) rfl ?_
       try simp only [Act.put, zA, zB, zC]
       refine otku (i := 16) (oi := oQ43) rfl (by kernel_rfl) (BL.cls wr) rfl ?_
       try simp only [Act.put, zA, zB, zC]
       refine otku (i := 17) (oi := oQ44) rfl (by kernel_rfl) (BL.cls wr) rfl ?_
       try simp only [Act.put, zA, zB, zC]
       refine otku (i := 18) (oi := oQ45) rfl (by kernel_rfl) (BL.cls wr) rfl ?_
       try simp only [Act.put, zA, zB, zC]
       refine otku (i := 19) (oi := oQ46) rfl (by kernel_rfl) (BL.cls wr) rfl ?_
       try simp only [Act.put, zA, zB, zC]
       refine otku (i := 20) (oi := oQ47) rfl (by kernel_rfl) (BL.cls wr) rfl ?_
       try simp only [Act.put, zA, zB, zC]
       refine otku (i := 21) (oi := oQ48) rfl (by kernel_rfl) (BL.cls wr) rfl ?_
       try simp only [Act.put, zA, zB, zC]
       refine otku (i := 22) (oi := oQ49) rfl (by kernel_rfl) (BL.cls wr) rfl ?_
       try simp only [Act.put, zA, zB, zC]
       refine otku (i := 23) (oi := oQ50) rfl (by kernel_rfl) (BL.cls wr) rfl ?_
       try simp only [Act.put, zA, zB, zC]
       refine otku (i := 24) (oi := oQ51) rfl (by kernel_rfl) (BL.cls wr) rfl ?_
       try simp only [Act.put, zA, zB, zC]
       refine otks (i := 25) (oi := oQ52) (v := (.bool false)) rfl (by kernel_rfl) (BL.cls wr) rfl (fun w hSw => by go_simp) ?_
       try simp only [Act.put, zA, zB, zC]
       refine otks (i := 26) (oi := oQ53) (v := (.bool false)) rfl (by kernel_rfl) (BL.cls wr) rfl (fun w hSw => by go_simp) ?_
       try simp only [Act.put, zA, zB, zC]
       refine wpAnyU_done (by kernel_rfl) (fun w1 hb1 => ?_) _
       go_wp2_with fail
       exact ⟨⟨k + 1, by omega, by push_cast; rfl, HNX.out, HRB.out.below hb1, bgoS HBL.out hb1⟩, by simp [intOf]; omega⟩
      ·
       obtain ⟨m, hm2⟩ : ∃ m, m = k - 1 := ⟨_, rfl⟩
       have hz1 : 0 < k := by omega
       have hz2 : (0 : Int) < (k : Int) := by omega
       have hmL : m < R.I.length := by omega
       have hm0 : (0 : Int) ≤ (m : Int) := by omega
       have hm1 : (m : Int) < nI := by omega
       obtain ⟨y, hy⟩ : ∃ y, y = R.I[m] := ⟨_, rfl⟩
       have HCY : Hid (∀ j v, [.int .i64 y.no, .int .i64 y.cur, .int .i64 y.mult, .int .i64 y.add, .int .i64 y.set, .int .i64 y.price, .int .i64 y.h0, .int .i64 y.h1, .int .i64 y.h2, .int .i64 y.h3, .int .i64 y.h4, .int .i64 y.h5][j]? = some v → wr.cell? ⟨ba, offa + m * 12 + j, none⟩ = some v) := by
        intro j v h
        obtain ⟨b2, o2, e2, _, hca2⟩ := (HRI.out.rew HNI.out (bgo HB0.out HBL.out HB0.out.size)).at (by omega) (by decide)
        simp only [Option.some.injEq, Addr.mk.injEq, and_true] at e2
        obtain ⟨rfl, rfl⟩ := e2
        exact hca2 m hmL j v (by rw [← hy]; exact h)
       have hwr : IntKind.i64.wrap ((k : Int) - 1) = (m : Int) := by rw [IntKind.wrap_i64]; omega
       have HWR := Lib.hid hwr
       clear hwr h0
       by_cases hge : c.no ≤ y.no
       ·
        have HNO : Hid (chkB rightI InT.no R.I = false) := by
         refine chk_no2 hkL hz1 ?_
         have e1 : R.I[k - 1]'(by omega) = y := by rw [hy]; congr 1; exact hm2.symm
         rw [e1, ← HC.out]
         exact hge
        have hgd : decide (c.no ≤ y.no) = true := decide_eq_true hge
        have hwr := HWR.out
        clear hy hm2
        refine wp_region_bl 27 (by kernel_rfl) ?_
        refine otks (i := 0) (oi := oQ27) (v := (.pointer (some ⟨w.heap.size, 1, none⟩))) rfl (by kernel_rfl) (BL.cls wr) rfl (fun w hSw => by go_simp) ?_
        try simp only [Act.put, zA, zB, zC]
        refine otk (i := 1) (oi := oQ28) (v := (.slice (some ⟨ba, offa, none⟩) nI cI)) rfl (by kernel_rfl) (BL.cls wr) ?_ ?_
        ·
         refine Or.inl ⟨rfl, fun w hSw => ?_⟩
         have e0 := BL.cell hSw (HRB.out.cell (j := 1) rfl)
         exact EffR.same (by go_simp)
        try simp only [Act.put, zA, zB, zC]
        refine otks (i := 2) (oi := oQ29) (v := (.int .i64 (k : Int))) rfl (by kernel_rfl) (BL.cls wr) rfl (fun w hSw => by go_simp) ?_
        try simp only [Act.put, zA, zB, zC]
        refine otks (i := 3) (oi := oQ30) (v := (.pointer (some ⟨ba, offa + k * 12, none⟩))) rfl (by kernel_rfl) (BL.cls wr) rfl (fun w hSw => by go_simp) ?_
        try simp only [Act.put, zA, zB, zC]
        refine otk (i := 4) (oi := oQ31) (v := (.agg #[.int .i64 c.no, .int .i64 c.cur, .int .i64 c.mult, .int .i64 c.add, .int .i64 c.set, .int .i64 c.price, .int .i64 c.h0, .int .i64 c.h1, .int .i64 c.h2, .int .i64 c.h3, .int .i64 c.h4, .int .i64 c.h5])) rfl (by kernel_rfl) (BL.cls wr) ?_ ?_
        ·
         refine Or.inl ⟨rfl, fun w hSw => ?_⟩
         exact eff_load_mid 38 (.tmp 50) rfl ba (offa + k * 12) rfl [.int .i64 c.no, .int .i64 c.cur, .int .i64 c.mult, .int .i64 c.add, .int .i64 c.set, .int .i64 c.price, .int .i64 c.h0, .int .i64 c.h1, .int .i64 c.h2, .int .i64 c.h3, .int .i64 c.h4, .int .i64 c.h5] _ (fun j v h => BL.cell hSw (HCA.out j v h)) Try.underlying38 rfl HSZ.out
        try simp only [Act.put, zA, zB, zC]
        refine otk (i := 5) (oi := oQ32) (v := (.bool true)) rfl (by kernel_rfl) (BL.cls wr) ?_ ?_
        ·
         refine Or.inl ⟨rfl, fun w hSw => ?_⟩
         go_simp
         show Calls _ _ _ _ _
         refine (rinst_any _ c.no c.cur c.mult c.add c.set c.price c.h0 c.h1 c.h2 c.h3 c.h4 c.h5).mono ?_
         rintro e w1 ⟨rfl, hb⟩
         exact ⟨by rw [HRC.out], hb⟩
        try simp only [Act.put, zA, zB, zC]
        refine otks (i := 6) (oi := oQ33) (v := (.bool false)) rfl (by kernel_rfl) (BL.cls wr) rfl (fun w hSw => by go_simp) ?_
        try simp only [Act.put, zA, zB, zC]
        refine otks (i := 7) (oi := oQ34) (v := (.bool false)) rfl (by kernel_rfl) (BL.cls wr) rfl (fun w hSw => by go_simp) ?_
        try simp only [Act.put, zA, zB, zC]
        refine otks (i := 8) (oi := oQ35) (v := (.int .i64 (k : Int))) rfl (by kernel_rfl) (BL.cls wr) rfl (fun w hSw => by go_simp) ?_
        try simp only [Act.put, zA, zB, zC]
        refine otks (i := 9) (oi := oQ36) (v := (.bool true)) rfl (by kernel_rfl) (BL.cls wr) rfl (fun w hSw => by go_simp) ?_
        try simp only [Act.put, zA, zB, zC]
        refine otks (i := 10) (oi := oQ37) (v := (.bool true)) rfl (by kernel_rfl) (BL.cls wr) rfl (fun w hSw => by go_simp) ?_
        try simp only [Act.put, zA, zB, zC]
        refine otks (i := 11) (oi := oQ38) (v := (.pointer (some ⟨w.heap.size, 1, none⟩))) rfl (by kernel_rfl) (BL.cls wr) rfl (fun w hSw => by go_simp) ?_
        try simp only [Act.put, zA, zB, zC]
        refine otk (i := 12) (oi := oQ39) (v := (.slice (some ⟨ba, offa, none⟩) nI cI)) rfl (by kernel_rfl) (BL.cls wr) ?_ ?_
        ·
         refine Or.inl ⟨rfl, fun w hSw => ?_⟩
         have e0 := BL.cell hSw (HRB.out.cell (j := 1) rfl)
         exact EffR.same (by go_simp)
        try simp only [Act.put, zA, zB, zC]
        refine otks (i := 13) (oi := oQ40) (v := (.int .i64 (k : Int))) rfl (by kernel_rfl) (BL.cls wr) rfl (fun w hSw => by go_simp) ?_
        try simp only [Act.put, zA, zB, zC]
        refine otks (i := 14) (oi := oQ41) (v := (.pointer (some ⟨ba, offa + k * 12, none⟩))) rfl (by kernel_rfl) (BL.cls wr) rfl (fun w hSw => by go_simp) ?_
        try simp only [Act.put, zA, zB, zC]
        refine otks (i := 15) (oi := oQ42) (v := (.pointer (some ⟨ba, offa + k * 12, none⟩))) rfl (by kernel_rfl) (BL.cls wr) rfl (fun w hSw => by go_simp) ?_
        try simp only [Act.put, zA, zB, zC]
        refine otk (i := 16) (oi := oQ43) (v := (.int .i64 c.no)) rfl (by kernel_rfl) (BL.cls wr) ?_ ?_
        ·
         refine Or.inl ⟨rfl, fun w hSw => ?_⟩
         have e0 : w.cell? ⟨ba, offa + k * 12, none⟩ = some (.int .i64 c.no) := BL.cell hSw (HCA.out 0 _ rfl)
         exact EffR.same (by go_simp)
        try simp only [Act.put, zA, zB, zC]
        refine otks (i := 17) (oi := oQ44) (v := (.pointer (some ⟨w.heap.size, 1, none⟩))) rfl (by kernel_rfl) (BL.cls wr) rfl (fun w hSw => by go_simp) ?_
        try simp only [Act.put, zA, zB, zC]
        refine otk (i := 18) (oi := oQ45) (v := (.slice (some ⟨ba, offa, none⟩) nI cI)) rfl (by kernel_rfl) (BL.cls wr) ?_ ?_
        ·
         refine Or.inl ⟨rfl, fun w hSw => ?_⟩
         have e0 := BL.cell hSw (HRB.out.cell (j := 1) rfl)
         exact EffR.same (by go_simp)
        try simp only [Act.put, zA, zB, zC]
        refine otks (i := 19) (oi := oQ46) (v := (.int .i64 (k : Int))) rfl (by kernel_rfl) (BL.cls wr) rfl (fun w hSw => by go_simp) ?_
        try simp only [Act.put, zA, zB, zC]
        refine otks (i := 20) (oi := oQ47) (v := (.int .i64 (m : Int))) rfl (by kernel_rfl) (BL.cls wr) rfl (fun w hSw => by go_simp) ?_
        try simp only [Act.put, zA, zB, zC]
        refine otks (i := 21) (oi := oQ48) (v := (.pointer (some ⟨ba, offa + m * 12, none⟩))) rfl (by kernel_rfl) (BL.cls wr) rfl (fun w hSw => by go_simp) ?_
        try simp only [Act.put, zA, zB, zC]
        refine otks (i := 22) (oi := oQ49) (v := (.pointer (some ⟨ba, offa + m * 12, none⟩))) rfl (by kernel_rfl) (BL.cls wr) rfl (fun w hSw => by go_simp) ?_
        try simp only [Act.put, zA, zB, zC]
        refine otk (i := 23) (oi := oQ50) (v := (.int .i64 y.no)) rfl (by kernel_rfl) (BL.cls wr) ?_ ?_
        ·
         refine Or.inl ⟨rfl, fun w hSw => ?_⟩
         have e0 : w.cell? ⟨ba, offa + m * 12, none⟩ = some (.int .i64 y.no) := BL.cell hSw (HCY.out 0 _ rfl)
         exact EffR.same (by go_simp)
        try simp only [Act.put, zA, zB, zC]
        refine otks (i := 24) (oi := oQ51) (v := (.bool true)) rfl (by kernel_rfl) (BL.cls wr) rfl (fun w hSw => by go_simp) ?_
        try simp only [Act.put, zA, zB, zC]
        refine otks (i := 25) (oi := oQ52) (v := (.bool true)) rfl (by kernel_rfl) (BL.cls wr) rfl (fun w hSw => by go_simp) ?_
        try simp only [Act.put, zA, zB, zC]
        refine otks (i := 26) (oi := oQ53) (v := (.bool true)) rfl (by kernel_rfl) (BL.cls wr) rfl (fun w hSw => by go_simp) ?_
        try simp only [Act.put, zA, zB, zC]
        refine wpAnyU_done (by kernel_rfl) (fun w1 hb1 => ?_) _
        go_wp2_with fail
        go_ret
        exact ⟨by rw [HD.out]; unfold chkR; rw [HYM.out, HNO.out]; rfl, bgo HB0.out (bgoS HBL.out hb1) HB0.out.size⟩
       ·
        have HNX : Hid (ChkTo rightI InT.no R.I (k + 1)) := HT0.out.next hkL (by rw [← HC.out]; exact HRC.out) (fun h => by
         have e1 : R.I[k - 1]'(by omega) = y := by rw [hy]; congr 1; exact hm2.symm
         rw [e1, ← HC.out]
         omega)
        have hgd : decide (c.no ≤ y.no) = false := decide_eq_false hge
        have hwr := HWR.out
        clear hy hm2 hge
        refine wp_region_bl 27 (by kernel_rfl) ?_
        refine otks (i := 0) (oi := oQ27) (v := (.pointer (some ⟨w.heap.size, 1, none⟩))) rfl (by kernel_rfl) (BL.cls wr) rfl (fun w hSw => by go_simp) ?_
        try simp only [Act.put, zA, zB, zC]
        refine otk (i := 1) (oi := oQ28) (v := (.slice (some ⟨ba, offa, none⟩) nI cI)) rfl (by kernel_rfl) (BL.cls wr) ?_ ?_
        ·
         refine Or.inl ⟨rfl, fun w hSw => ?_⟩
         have e0 := BL.cell hSw (HRB.out.cell (j := 1) rfl)
         exact EffR.same (by go_simp)
        try simp only [Act.put, zA, zB, zC]
        refine otks (i := 2) (oi := oQ29) (v := (.int .i64 (k : Int))) rfl (by kernel_rfl) (BL.cls wr) rfl (fun w hSw => by go_simp) ?_
        try simp only [Act.put, zA, zB, zC]
        refine otks (i := 3) (oi := oQ30) (v := (.pointer (some ⟨ba, offa + k * 12, none⟩))) rfl (by kernel_rfl) (BL.cls wr) rfl (fun w hSw => by go_simp) ?_
        try simp only [Act.put, zA, zB, zC]
        refine otk (i := 4) (oi := oQ31) (v := (.agg #[.int .i64 c.no, .int .i64 c.cur, .int .i64 c.mult, .int .i64 c.add, .int .i64 c.set, .int .i64 c.price, .int .i64 c.h0, .int .i64 c.h1, .int .i64 c.h2, .int .i64 c.h3, .int .i64 c.h4, .int .i64 c.h5])) rfl (by kernel_rfl) (BL.cls wr) ?_ ?_
        ·
         refine Or.inl ⟨rfl, fun w hSw => ?_⟩
         exact eff_load_mid 38 (.tmp 50) rfl ba (offa + k * 12) rfl [.int .i64 c.no, .int .i64 c.cur, .int .i64 c.mult, .int .i64 c.add, .int .i64 c.set, .int .i64 c.price, .int .i64 c.h0, .int .i64 c.h1, .int .i64 c.h2, .int .i64 c.h3, .int .i64 c.h4, .int .i64 c.h5] _ (fun j v h => BL.cell hSw (HCA.out j v h)) Try.underlying38 rfl HSZ.out
        try simp only [Act.put, zA, zB, zC]
        refine otk (i := 5) (oi := oQ32) (v := (.bool true)) rfl (by kernel_rfl) (BL.cls wr) ?_ ?_
        ·
         refine Or.inl ⟨rfl, fun w hSw => ?_⟩
         go_simp
         show Calls _ _ _ _ _
         refine (rinst_any _ c.no c.cur c.mult c.add c.set c.price c.h0 c.h1 c.h2 c.h3 c.h4 c.h5).mono ?_
         rintro e w1 ⟨rfl, hb⟩
         exact ⟨by rw [HRC.out], hb⟩
        try simp only [Act.put, zA, zB, zC]
        refine otks (i := 6) (oi := oQ33) (v := (.bool false)) rfl (by kernel_rfl) (BL.cls wr) rfl (fun w hSw => by go_simp) ?_
        try simp only [Act.put, zA, zB, zC]
        refine otks (i := 7) (oi := oQ34) (v := (.bool false)) rfl (by kernel_rfl) (BL.cls wr) rfl (fun w hSw => by go_simp) ?_
        try simp only [Act.put, zA, zB, zC]
        refine otks (i := 8) (oi := oQ35) (v := (.int .i64 (k : Int))) rfl (by kernel_rfl) (BL.cls wr) rfl (fun w hSw => by go_simp) ?_
        try simp only [Act.put, zA, zB, zC]
        refine otks (i := 9) (oi := oQ36) (v := (.bool true)) rfl (by kernel_rfl) (BL.cls wr) rfl (fun w hSw => by go_simp) ?_
        try simp only [Act.put, zA, zB, zC]
        refine otks (i := 10) (oi := oQ37) (v := (.bool true)) rfl (by kernel_rfl) (BL.cls wr) rfl (fun w hSw => by go_simp) ?_
        try simp only [Act.put, zA, zB, zC]
        refine otks (i := 11) (oi := oQ38) (v := (.pointer (some ⟨w.heap.size, 1, none⟩))) rfl (by kernel_rfl) (BL.cls wr) rfl (fun w hSw => by go_simp) ?_
        try simp only [Act.put, zA, zB, zC]
        refine otk (i := 12) (oi := oQ39) (v := (.slice (some ⟨ba, offa, none⟩) nI cI)) rfl (by kernel_rfl) (BL.cls wr) ?_ ?_
        ·
         refine Or.inl ⟨rfl, fun w hSw => ?_⟩
         have e0 := BL.cell hSw (HRB.out.cell (j := 1) rfl)
         exact EffR.same (by go_simp)
        try simp only [Act.put, zA, zB, zC]
        refine otks (i := 13) (oi := oQ40) (v := (.int .i64 (k : Int))) rfl (by kernel_rfl) (BL.cls wr) rfl (fun w hSw => by go_simp) ?_
        try simp only [Act.put, zA, zB, zC]
        refine otks (i := 14) (oi := oQ41) (v := (.pointer (some ⟨ba, offa + k * 12, none⟩))) rfl (by kernel_rfl) (BL.cls wr) rfl (fun w hSw => by go_simp) ?_
        try simp only [Act.put, zA, zB, zC]
        refine otks (i := 15) (oi := oQ42) (v := (.pointer (some ⟨ba, offa + k * 12, none⟩))) rfl (by kernel_rfl) (BL.cls wr) rfl (fun w hSw => by go_simp) ?_
        try simp only [Act.put, zA, zB, zC]
        refine otk (i := 16) (oi := oQ43) (v := (.int .i64 c.no)) rfl (by kernel_rfl) (BL.cls wr) ?_ ?_
        ·
         refine Or.inl ⟨rfl, fun w hSw => ?_⟩
         have e0 : w.cell? ⟨ba, offa + k * 12, none⟩ = some (.int .i64 c.no) := BL.cell hSw (HCA.out 0 _ rfl)
         exact EffR.same (by go_simp)
        try simp only [Act.put, zA, zB, zC]
        refine otks (i := 17) (oi := oQ44) (v := (.pointer (some ⟨w.heap.size, 1, none⟩))) rfl (by kernel_rfl) (BL.cls wr) rfl (fun w hSw => by go_simp) ?_
        try simp only [Act.put, zA, zB, zC]
        refine otk (i := 18) (oi := oQ45) (v := (.slice (some ⟨ba, offa, none⟩) nI cI)) rfl (by kernel_rfl) (BL.cls wr) ?_ ?_
        ·
         refine Or.inl ⟨rfl, fun w hSw => ?_⟩
         have e0 := BL.cell hSw (HRB.out.cell (j := 1) rfl)
         exact EffR.same (by go_simp)
        try simp only [Act.put, zA, zB, zC]
        refine otks (i := 19) (oi := oQ46) (v := (.int .i64 (k : Int))) rfl (by kernel_rfl) (BL.cls wr) rfl (fun w hSw => by go_simp) ?_
        try simp only [Act.put, zA, zB, zC]
        refine otks (i := 20) (oi := oQ47) (v := (.int .i64 (m : Int))) rfl (by kernel_rfl) (BL.cls wr) rfl (fun w hSw => by go_simp) ?_
        try simp only [Act.put, zA, zB, zC]
        refine otks (i := 21) (oi := oQ48) (v := (.pointer (some ⟨ba, offa + m * 12, none⟩))) rfl (by kernel_rfl) (BL.cls wr) rfl (fun w hSw => by go_simp) ?_
        try simp only [Act.put, zA, zB, zC]
        refine otks (i := 22) (oi := oQ49) (v := (.pointer (some ⟨ba, offa + m * 12, none⟩))) rfl (by kernel_rfl) (BL.cls wr) rfl (fun w hSw => by go_simp) ?_
        try simp only [Act.put, zA, zB, zC]
        refine otk (i := 23) (oi := oQ50) (v := (.int .i64 y.no)) rfl (by kernel_rfl) (BL.cls wr) ?_ ?_
        ·
         refine Or.inl ⟨rfl, fun w hSw => ?_⟩
         have e0 : w.cell? ⟨ba, offa + m * 12, none⟩ = some (.int .i64 y.no) := BL.cell hSw (HCY.out 0 _ rfl)
         exact EffR.same (by go_simp)
        try simp only [Act.put, zA, zB, zC]
        refine otks (i := 24) (oi := oQ51) (v := (.bool false)) rfl (by kernel_rfl) (BL.cls wr) rfl (fun w hSw => by go_simp) ?_
        try simp only [Act.put, zA, zB, zC]
        refine otks (i := 25) (oi := oQ52) (v := (.bool false)) rfl (by kernel_rfl) (BL.cls wr) rfl (fun w hSw => by go_simp) ?_
        try simp only [Act.put, zA, zB, zC]
        refine otks (i := 26) (oi := oQ53) (v := (.bool false)) rfl (by kernel_rfl) (BL.cls wr) rfl (fun w hSw => by go_simp) ?_
        try simp only [Act.put, zA, zB, zC]
        refine wpAnyU_done (by kernel_rfl) (fun w1 hb1 => ?_) _
        go_wp2_with fail
        exact ⟨⟨k + 1, by omega, by push_cast; rfl, HNX.out, HRB.out.below hb1, bgoS HBL.out hb1⟩, by simp [intOf]; omega⟩
     ·
      have hr2 : rightI c = false := by simpa using hr
      have HRC := Lib.hid hr2
      have HNO : Hid (chkB rightI InT.no R.I = false) := chk_no1 hkL (by rw [← HC.out]; exact hr2)
      clear hr hr2
      refine wp_region_bl 27 (by kernel_rfl) ?_
      refine otks (i := 0) (oi := oQ27) (v := (.pointer (some ⟨w.heap.size, 1, none⟩))) rfl (by kernel_rfl) (BL.cls wr) rfl (fun w hSw => by go_simp) ?_
      try simp only [Act.put, zA, zB, zC]
      refine otk (i := 1) (oi := oQ28) (v := (.slice (some ⟨ba, offa, none⟩) nI cI)) rfl (by kernel_rfl) (BL.cls wr) ?_ ?_
      ·
       refine Or.inl ⟨rfl, fun w hSw => ?_⟩
       have e0 := BL.cell hSw (HRB.out.cell (j := 1) rfl)
       exact EffR.same (by go_simp)
      try simp only [Act.put, zA, zB, zC]
      refine otks (i := 2) (oi := oQ29) (v := (.int .i64 (k : Int))) rfl (by kernel_rfl) (BL.cls wr) rfl (fun w hSw => by go_simp) ?_
      try simp only [Act.put, zA, zB, zC]
      refine otks (i := 3) (oi := oQ30) (v := (.pointer (some ⟨ba, offa + k * 12, none⟩))) rfl (by kernel_rfl) (BL.cls wr) rfl (fun w hSw => by go_simp) ?_
      try simp only [Act.put, zA, zB, zC]
      refine otk (i := 4) (oi := oQ31) (v := (.agg #[.int .i64 c.no, .int .i64 c.cur, .int .i64 c.mult, .int .i64 c.add, .int .i64 c.set, .int .i64 c.price, .int .i64 c.h0, .int .i64 c.h1, .int .i64 c.h2, .int .i64 c.h3, .int .i64 c.h4, .int .i64 c.h5])) rfl (by kernel_rfl) (BL.cls wr) ?_ ?_
      ·
       refine Or.inl ⟨rfl, fun w hSw => ?_⟩
       exact eff_load_mid 38 (.tmp 50) rfl ba (offa + k * 12) rfl [.int .i64 c.no, .int .i64 c.cur, .int .i64 c.mult, .int .i64 c.add, .int .i64 c.set, .int .i64 c.price, .int .i64 c.h0, .int .i64 c.h1, .int .i64 c.h2, .int .i64 c.h3, .int .i64 c.h4, .int .i64 c.h5] _ (fun j v h => BL.cell hSw (HCA.out j v h)) Try.underlying38 rfl HSZ.out
      try simp only [Act.put, zA, zB, zC]
      refine otk (i := 5) (oi := oQ32) (v := (.bool false)) rfl (by kernel_rfl) (BL.cls wr) ?_ ?_
      ·
       refine Or.inl ⟨rfl, fun w hSw => ?_⟩
       go_simp
       show Calls _ _ _ _ _
       refine (rinst_any _ c.no c.cur c.mult c.add c.set c.price c.h0 c.h1 c.h2 c.h3 c.h4 c.h5).mono ?_
       rintro e w1 ⟨rfl, hb⟩
       exact ⟨by rw [HRC.out], hb⟩
      try simp only [Act.put, zA, zB, zC]
      refine otks (i := 6) (oi := oQ33) (v := (.bool true)) rfl (by kernel_rfl) (BL.cls wr) rfl (fun w hSw => by go_simp) ?_
      try simp only [Act.put, zA, zB, zC]
      refine otks (i := 7) (oi := oQ34) (v := (.bool true)) rfl (by kernel_rfl) (BL.cls wr) rfl (fun w hSw => by go_simp) ?_
      try simp only [Act.put, zA, zB, zC]
      refine otku (i := 8) (oi := oQ35) rfl (by kernel_rfl) (BL.cls wr) rfl ?_
      try simp only [Act.put, zA, zB, zC]
      refine otku (i := 9) (oi := oQ36) rfl (by kernel_rfl) (BL.cls wr) rfl ?_
      try simp only [Act.put, zA, zB, zC]
      refine otku (i := 10) (oi := oQ37) rfl (by kernel_rfl) (BL.cls wr) rfl ?_
      try simp only [Act.put, zA, zB, zC]
      refine otku (i := 11) (oi := oQ38) rfl (by kernel_rfl) (BL.cls wr) rfl ?_
      try simp only [Act.put, zA, zB, zC]
      refine otku (i := 12) (oi := oQ39) rfl (by kernel_rfl) (BL.cls wr) rfl ?_
      try simp only [Act.put, zA, zB, zC]
      refine otku (i := 13) (oi := oQ40) rfl (by kernel_rfl) (BL.cls wr) rfl ?_
      try simp only [Act.put, zA, zB, zC]
      refine otku (i := 14) (oi := oQ41) rfl (by kernel_rfl) (BL.cls wr) rfl ?_
      try simp only [Act.put, zA, zB, zC]
      refine otku (i := 15) (oi := oQ42) rfl (by kernel_rfl) (BL.cls wr) rfl ?_
      try simp only [Act.put, zA, zB, zC]
      refine otku (i := 16) (oi := oQ43) rfl (by kernel_rfl) (BL.cls wr) rfl ?_
      try simp only [Act.put, zA, zB, zC]
      refine otku (i := 17) (oi := oQ44) rfl (by kernel_rfl) (BL.cls wr) rfl ?_
      try simp only [Act.put, zA, zB, zC]
      refine otku (i := 18) (oi := oQ45) rfl (by kernel_rfl) (BL.cls wr) rfl ?_
      try simp only [Act.put, zA, zB, zC]
      refine otku (i := 19) (oi := oQ46) rfl (by kernel_rfl) (BL.cls wr) rfl ?_
      try simp only [Act.put, zA, zB, zC]
      refine otku (i := 20) (oi := oQ47) rfl (by kernel_rfl) (BL.cls wr) rfl ?_
      try simp only [Act.put, zA, zB, zC]
      refine otku (i := 21) (oi := oQ48) rfl (by kernel_rfl) (BL.cls wr) rfl ?_
      try simp only [Act.put, zA, zB, zC]
      refine otku (i := 22) (oi := oQ49) rfl (by kernel_rfl) (BL.cls wr) rfl ?_
      try simp only [Act.put, zA, zB, zC]
      refine otku (i := 23) (oi := oQ50) rfl (by kernel_rfl) (BL.cls wr) rfl ?_
      try simp only [Act.put, zA, zB, zC]
      refine otku (i := 24) (oi := oQ51) rfl (by kernel_rfl) (BL.cls wr) rfl ?_
      try simp only [Act.put, zA, zB, zC]
      refine otku (i := 25) (oi := oQ52) rfl (by kernel_rfl) (BL.cls wr) rfl ?_
      try simp only [Act.put, zA, zB, zC]
      refine otks (i := 26) (oi := oQ53) (v := (.bool true)) rfl (by kernel_rfl) (BL.cls wr) rfl (fun w hSw => by go_simp) ?_
      try simp only [Act.put, zA, zB, zC]
      refine wpAnyU_done (by kernel_rfl) (fun w1 hb1 => ?_) _
      go_wp2_with fail
      go_ret
      exact ⟨by rw [HD.out]; unfold chkR; rw [HYM.out, HNO.out]; rfl, bgo HB0.out (bgoS HBL.out hb1) HB0.out.size⟩
    ·
     have hkn : nI = k := by omega
     subst hkn
     have HYI : Hid (chkB rightI InT.no R.I = true) := HT0.out.all (by have := HNI.out; omega)
     go_wp2_with fail
     clear hcr
     go_loopw [5] (fun i wr => ∃ k : Nat, k ≤ nA ∧ i = .int .i64 k ∧ Hid (ChkTo rightA AsT.no R.A k) ∧ HT wr w.heap.size 26 [.slice aM nM cM, .slice aI nI cI, .slice aA nA cA] ∧ Below WZ.heap.size WZ wr) (fun i _ => nA - (intOf i).toNat)
     case atStart => exact ⟨0, Nat.zero_le _, rfl, ChkTo.zero _ _ _, HRB.out, HBL.out⟩
     case round =>
      obtain ⟨k, hk, rfl, HT0, hrb, hbel⟩ := hrel
      have HRB := Lib.hid hrb
      have HBL := Lib.hid hbel
      have hcr := hrb.cell (j := 2) rfl
      clear hrb hbel
      by_cases hlt : k < nA
      ·
       have hkL : k < R.A.length := by have := HNA.out; omega
       obtain ⟨ba, offa, rfl, _, hca⟩ := (HRA.out.rew HNA.out (bgo HB0.out HBL.out HB0.out.size)).at (by omega) (by decide)
       obtain ⟨c, hc⟩ : ∃ c, c = R.A[k] := ⟨_, rfl⟩
       have HCA : Hid (∀ j v, [.int .i64 c.no, .int .i64 c.cur, .int .i64 c.price, .int .i64 c.cut][j]? = some v → wr.cell? ⟨ba, offa + k * 4 + j, none⟩ = some v) := fun j v h => hca k hkL j v (by rw [← hc]; exact h)
       have HSZ : Hid ((Try.prog.info? 42).map (·.size) = some (#[.int .i64 c.no, .int .i64 c.cur, .int .i64 c.price, .int .i64 c.cut] : Array Value).size) := by show _ = _; rw [ass_sz]; rfl
       have hk0 : (0 : Int) ≤ k := by omega
       have hk1 : (k : Int) < nA := by omega
       have HC := Lib.hid hc
       clear hc hca
       go_wp2_with fail
       clear hcr
       by_cases hr : rightA c = true
       ·
        have HRC := Lib.hid hr
        clear hr
        by_cases h0 : k = 0
        ·
         have HNX : Hid (ChkTo rightA AsT.no R.A (k + 1)) := HT0.out.next hkL (by rw [← HC.out]; exact HRC.out) (fun h => absurd h (by omega))
         have hz1 : ¬ (0 < k) := by omega
         have hz2 : ¬ ((0 : Int) < (k : Int)) := by omega
         clear h0
         refine wp_region_bl 27 (by kernel_rfl) ?_
         refine otks (i := 0) (oi := oQ54) (v := (.pointer (some ⟨w.heap.size, 2, none⟩))) rfl (by kernel_rfl) (BL.cls wr) rfl (fun w hSw => by go_simp) ?_
         try simp only [Act.put, zA, zB, zC]
         refine otk (i := 1) (oi := oQ55) (v := (.slice (some ⟨ba, offa, none⟩) nA cA)) rfl (by kernel_rfl) (BL.cls wr) ?_ ?_
         ·
          refine Or.inl ⟨rfl, fun w hSw => ?_⟩
          have e0 := BL.cell hSw (HRB.out.cell (j := 2) rfl)
          exact EffR.same (by go_simp)
         try simp only [Act.put, zA, zB, zC]
         refine otks (i := 2) (oi := oQ56) (v := (.int .i64 (k : Int))) rfl (by kernel_rfl) (BL.cls wr) rfl (fun w hSw => by go_simp) ?_
         try simp only [Act.put, zA, zB, zC]
         refine otks (i := 3) (oi := oQ57) (v := (.pointer (some ⟨ba, offa + k * 4, none⟩))) rfl (by kernel_rfl) (BL.cls wr) rfl (fun w hSw => by go_simp) ?_
         try simp only [Act.put, zA, zB, zC]
         refine otk (i := 4) (oi := oQ58) (v := (.agg #[.int .i64 c.no, .int .i64 c.cur, .int .i64 c.price, .int .i64 c.cut])) rfl (by kernel_rfl) (BL.cls wr) ?_ ?_
         ·
          refine Or.inl ⟨rfl, fun w hSw => ?_⟩
          exact eff_load_mid 42 (.tmp 84) rfl ba (offa + k * 4) rfl [.int .i64 c.no, .int .i64 c.cur, .int .i64 c.price, .int .i64 c.cut] _ (fun j v h => BL.cell hSw (HCA.out j v h)) Try.underlying42 rfl HSZ.out
         try simp only [Act.put, zA, zB, zC]
         refine otk (i := 5) (oi := oQ59) (v := (.bool true)) rfl (by kernel_rfl) (BL.cls wr) ?_ ?_
         ·
          refine Or.inl ⟨rfl, fun w hSw => ?_⟩
          go_simp
          show Calls _ _ _ _ _
          refine (rAsset_any _ c.no c.cur c.price c.cut).mono ?_
          rintro e w1 ⟨rfl, hb⟩
          exact ⟨by rw [HRC.out], hb⟩
         try simp only [Act.put, zA, zB, zC]
         refine otks (i := 6) (oi := oQ60) (v := (.bool false)) rfl (by kernel_rfl) (BL.cls wr) rfl (fun w hSw => by go_simp) ?_
         try simp only [Act.put, zA, zB, zC]
         refine otks (i := 7) (oi := oQ61) (v := (.bool false)) rfl (by kernel_rfl) (BL.cls wr) rfl (fun w hSw => by go_simp) ?_
         try simp only [Act.put, zA, zB, zC]
         refine otks (i := 8) (oi := oQ62) (v := (.int .i64 (k : Int))) rfl (by kernel_rfl) (BL.cls wr) rfl (fun w hSw => by go_simp) ?_
         try simp only [Act.put, zA, zB, zC]
         refine otks (i := 9) (oi := oQ63) (v := (.bool false)) rfl (by kernel_rfl) (BL.cls wr) rfl (fun w hSw => by go_simp) ?_
         try simp only [Act.put, zA, zB, zC]
         refine otks (i := 10) (oi := oQ64) (v := (.bool false)) rfl (by kernel_rfl) (BL.cls wr) rfl (fun w hSw => by go_simp) ?_
         try simp only [Act.put, zA, zB, zC]
         refine otku (i := 11) (oi := oQ65) rfl (by kernel_rfl) (BL.cls wr) rfl ?_
         try simp only [Act.put, zA, zB, zC]
         refine otku (i := 12) (oi := oQ66) rfl (by kernel_rfl) (BL.cls wr) rfl ?_
         try simp only [Act.put, zA, zB, zC]
         refine otku (i := 13) (oi := oQ67) rfl (by kernel_rfl) (BL.cls wr) rfl ?_
         try simp only [Act.put, zA, zB, zC]
         refine otku (i := 14) (oi := oQ68) rfl (by kernel_rfl) (BL.cls wr) rfl ?_
         try simp only [Act.put, zA, zB, zC]
         refine otku (i := 15) (oi := oQ69) rfl (by kernel_rfl) (BL.cls wr) rfl ?_
         try simp only [Act.put, zA, zB, zC]
         refine otku (i := 16) (oi := oQ70) rfl (by kernel_rfl) (BL.cls wr) rfl ?_
         try simp only [Act.put, zA, zB, zC]
         refine otku (i := 17) (oi := oQ71) rfl (by kernel_rfl) (BL.cls wr) rfl ?_
         try simp only [Act.put, zA, zB, zC]
         refine otku (i := 18) (oi := oQ72) rfl (by kernel_rfl) (BL.cls wr) rfl ?_
         try simp only [Act.put, zA, zB, zC]
         refine otku (i := 19) (oi := oQ73) rfl (by kernel_rfl) (BL.cls wr) rfl ?_
         try simp only [Act.put, zA, zB, zC]
         refine otku (i := 20) (oi := oQ74) rfl (by kernel_rfl) (BL.cls wr) rfl ?_
         try simp only [Act.put, zA, zB, zC]
         refine otku (i := 21) (oi := oQ75) rfl (by kernel_rfl) (BL.cls wr) rfl ?_
         try simp only [Act.put, zA, zB, zC]
         refine otku (i := 22) (oi := oQ76) rfl (by kernel_rfl) (BL.cls wr) rfl ?_
         try simp only [Act.put, zA, zB, zC]
         refine otku (i := 23) (oi := oQ77) rfl (by kernel_rfl) (BL.cls wr) rfl ?_
         try simp only [Act.put, zA, zB, zC]
         refine otku (i := 24) (oi := oQ78) rfl (by kernel_rfl) (BL.cls wr) rfl ?_
         try simp only [Act.put, zA, zB, zC]
         refine otks (i := 25) (oi := oQ79) (v := (.bool false)) rfl (by kernel_rfl) (BL.cls wr) rfl (fun w hSw => by go_simp) ?_
         try simp only [Act.put, zA, zB, zC]
         refine otks (i := 26) (oi := oQ80) (v := (.bool false)) rfl (by kernel_rfl) (BL.cls wr) rfl (fun w hSw => by go_simp) ?_
         try simp only [Act.put, zA, zB, zC]
         refine wpAnyU_done (by kernel_rfl) (fun w1 hb1 => ?_) _
         go_wp2_with fail
         exact ⟨⟨k + 1, by omega, by push_cast; rfl, HNX.out, HRB.out.below hb1, bgoS HBL.out hb1⟩, by simp [intOf]; omega⟩
        ·
         obtain ⟨m, hm2⟩ : ∃ m, m = k - 1 := ⟨_, rfl⟩
         have hz1 : 0 < k := by omega
         have hz2 : (0 : Int) < (k : Int) := by omega
         have hmL : m < R.A.length := by omega
         have hm0 : (0 : Int) ≤ (m : Int) := by omega
         have hm1 : (m : Int) < nA := by omega
         obtain ⟨y, hy⟩ : ∃ y, y = R.A[m] := ⟨_, rfl⟩
         have HCY : Hid (∀ j v, [.int .i64 y.no, .int .i64 y.cur, .int .i64 y.price, .int .i64 y.cut][j]? = some v → wr.cell? ⟨ba, offa + m * 4 + j, none⟩ = some v) := by
          intro j v h
          obtain ⟨b2, o2, e2, _, hca2⟩ := (HRA.out.rew HNA.out (bgo HB0.out HBL.out HB0.out.size)).at (by omega) (by decide)
          simp only [Option.some.injEq, Addr.mk.injEq, and_true] at e2
          obtain ⟨rfl, rfl⟩ := e2
          exact hca2 m hmL j v (by rw [← hy]; exact h)
         have hwr : IntKind.i64.wrap ((k : Int) - 1) = (m : Int) := by rw [IntKind.wrap_i64]; omega
         have HWR := Lib.hid hwr
         clear hwr h0
         by_cases hge : c.no ≤ y.no
         ·
          have HNO : Hid (chkB rightA AsT.no R.A = false) := by
           refine chk_no2 hkL hz1 ?_
           have e1 : R.A[k - 1]'(by omega) = y := by rw [hy]; congr 1; exact hm2.symm
           rw [e1, ← HC.out]
           exact hge
          have hgd : decide (c.no ≤ y.no) = true := decide_eq_true hge
          have hwr := HWR.out
          clear hy hm2
          refine wp_region_bl 27 (by kernel_rfl) ?_
          refine otks (i := 0) (oi := oQ54) (v := (.pointer (some ⟨w.heap.size, 2, none⟩))) rfl (by kernel_rfl) (BL.cls wr) rfl (fun w hSw => by go_simp) ?_
          try simp only [Act.put, zA, zB, zC]
          refine otk (i := 1) (oi := oQ55) (v := (.slice (some ⟨ba, offa, none⟩) nA cA)) rfl (by kernel_rfl) (BL.cls wr) ?_ ?_
          ·
           refine Or.inl ⟨rfl, fun w hSw => ?_⟩
           have e0 := BL.cell hSw (HRB.out.cell (j := 2) rfl)
           exact EffR.same (by go_simp)
          try simp only [Act.put, zA, zB, zC]
          refine otks (i := 2) (oi := oQ56) (v := (.int .i64 (k : Int))) rfl (by kernel_rfl) (BL.cls wr) rfl (fun w hSw => by go_simp) ?_
          try simp only [Act.put, zA, zB, zC]
          refine otks (i := 3) (oi := oQ57) (v := (.pointer (some ⟨ba, offa + k * 4, none⟩))) rfl (by kernel_rfl) (BL.cls wr) rfl (fun w hSw => by go_simp) ?_
          try simp only [Act.put, zA, zB, zC]
          refine otk (i := 4) (oi := oQ58) (v := (.agg #[.int .i64 c.no, .int .i64 c.cur, .int .i64 c.price, .int .i64 c.cut])) rfl (by kernel_rfl) (BL.cls wr) ?_ ?_
          ·
           refine Or.inl ⟨rfl, fun w hSw => ?_⟩
           exact eff_load_mid 42 (.tmp 84) rfl ba (offa + k * 4) rfl [.int .i64 c.no, .int .i64 c.cur, .int .i64 c.price, .int .i64 c.cut] _ (fun j v h => BL.cell hSw (HCA.out j v h)) Try.underlying42 rfl HSZ.out
          try simp only [Act.put, zA, zB, zC]
          refine otk (i := 5) (oi := oQ59) (v := (.bool true)) rfl (by kernel_rfl) (BL.cls wr) ?_ ?_
          ·
           refine Or.inl ⟨rfl, fun w hSw => ?_⟩
           go_simp
           show Calls _ _ _ _ _
           refine (rAsset_any _ c.no c.cur c.price c.cut).mono ?_
           rintro e w1 ⟨rfl, hb⟩
           exact ⟨by rw [HRC.out], hb⟩
          try simp only [Act.put, zA, zB, zC]
          refine otks (i := 6) (oi := oQ60) (v := (.bool false)) rfl (by kernel_rfl) (BL.cls wr) rfl (fun w hSw => by go_simp) ?_
          try simp only [Act.put, zA, zB, zC]
          refine otks (i := 7) (oi := oQ61) (v := (.bool false)) rfl (by kernel_rfl) (BL.cls wr) rfl (fun w hSw => by go_simp) ?_
          try simp only [Act.put, zA, zB, zC]
          refine otks (i := 8) (oi := oQ62) (v := (.int .i64 (k : Int))) rfl (by kernel_rfl) (BL.cls wr) rfl (fun w hSw => by go_simp) ?_
          try simp only [Act.put, zA, zB, zC]
          refine otks (i := 9) (oi := oQ63) (v := (.bool true)) rfl (by kernel_rfl) (BL.cls wr) rfl (fun w hSw => by go_simp) ?_
          try simp only [Act.put, zA, zB, zC]
          refine otks (i := 10) (oi := oQ64) (v := (.bool true)) rfl (by kernel_rfl) (BL.cls wr) rfl (fun w hSw => by go_simp) ?_
          try simp only [Act.put, zA, zB, zC]
          refine otks (i := 11) (oi := oQ65) (v := (.pointer (some ⟨w.heap.size, 2, none⟩))) rfl (by kernel_rfl) (BL.cls wr) rfl (fun w hSw => by go_simp) ?_
          try simp only [Act.put, zA, zB, zC]
          refine otk (i := 12) (oi := oQ66) (v := (.slice (some ⟨ba, offa, none⟩) nA cA)) rfl (by kernel_rfl) (BL.cls wr) ?_ ?_
          ·
           refine Or.inl ⟨rfl, fun w hSw => ?_⟩
           have e0 := BL.cell hSw (HRB.out.cell (j := 2) rfl)
           exact EffR.same (by go_simp)
          try simp only [Act.put, zA, zB, zC]
          refine otks (i := 13) (oi := oQ67) (v := (.int .i64 (k : Int))) rfl (by kernel_rfl) (BL.cls wr) rfl (fun w hSw => by go_simp) ?_
          try simp only [Act.put, zA, zB, zC]
          refine otks (i := 14) (oi := oQ68) (v := (.pointer (some ⟨ba, offa + k * 4, none⟩))) rfl (by kernel_rfl) (BL.cls wr) rfl (fun w hSw => by go_simp) ?_
          try simp only [Act.put, zA, zB, zC]
          refine otks (i := 15) (oi := oQ69) (v := (.pointer (some ⟨ba, offa + k * 4, none⟩))) rfl (by kernel_rfl) (BL.cls wr) rfl (fun w hSw => by go_simp) ?_
          try simp only [Act.put, zA, zB, zC]
          refine otk (i := 16) (oi := oQ70) (v := (.int .i64 c.no)) rfl (by kernel_rfl) (BL.cls wr) ?_ ?_
          ·
           refine Or.inl ⟨rfl, fun w hSw => ?_⟩
           have e0 : w.cell? ⟨ba, offa + k * 4, none⟩ = some (.int .i64 c.no) := BL.cell hSw (HCA.out 0 _ rfl)
           exact EffR.same (by go_simp)
          try simp only [Act.put, zA, zB, zC]
          refine otks (i := 17) (oi := oQ71) (v := (.pointer (some ⟨w.heap.size, 2, none⟩))) rfl (by kernel_rfl) (BL.cls wr) rfl (fun w hSw => by go_simp) ?_
          try simp only [Act.put, zA, zB, zC]
          refine otk (i := 18) (oi := oQ72) (v := (.slice (some ⟨ba, offa, none⟩) nA cA)) rfl (by kernel_rfl) (BL.cls wr) ?_ ?_
          ·
           refine Or.inl ⟨rfl, fun w hSw => ?_⟩
           have e0 := BL.cell hSw (HRB.out.cell (j := 2) rfl)
           exact EffR.same (by go_simp)
          try simp only [Act.put, zA, zB, zC]
          refine otks (i := 19) (oi := oQ73) (v := (.int .i64 (k : Int))) rfl (by kernel_rfl) (BL.cls wr) rfl (fun w hSw => by go_simp) ?_
          try simp only [Act.put, zA, zB, zC]
          refine otks (i := 20) (oi := oQ74) (v := (.int .i64 (m : Int))) rfl (by kernel_rfl) (BL.cls wr) rfl (fun w hSw => by go_simp) ?_
          try simp only [Act.put, zA, zB, zC]
          refine otks (i := 21) (oi := oQ75) (v := (.pointer (some ⟨ba, offa + m * 4, none⟩))) rfl (by kernel_rfl) (BL.cls wr) rfl (fun w hSw => by go_simp) ?_
          try simp only [Act.put, zA, zB, zC]
          refine otks (i := 22) (oi := oQ76) (v := (.pointer (some ⟨ba, offa + m * 4, none⟩))) rfl (by kernel_rfl) (BL.cls wr) rfl (fun w hSw => by go_simp) ?_
          try simp only [Act.put, zA, zB, zC]
          refine otk (i := 23) (oi := oQ77) (v := (.int .i64 y.no)) rfl (by kernel_rfl) (BL.cls wr) ?_ ?_
          ·
           refine Or.inl ⟨rfl, fun w hSw => ?_⟩
           have e0 : w.cell? ⟨ba, offa + m * 4, none⟩ = some (.int .i64 y.no) := BL.cell hSw (HCY.out 0 _ rfl)
           exact EffR.same (by go_simp)
          try simp only [Act.put, zA, zB, zC]
          refine otks (i := 24) (oi := oQ78) (v := (.bool true)) rfl (by kernel_rfl) (BL.cls wr) rfl (fun w hSw => by go_simp) ?_
          try simp only [Act.put, zA, zB, zC]
          refine otks (i := 25) (oi := oQ79) (v := (.bool true)) rfl (by kernel_rfl) (BL.cls wr) rfl (fun w hSw => by go_simp) ?_
          try simp only [Act.put, zA, zB, zC]
          refine otks (i := 26) (oi := oQ80) (v := (.bool true)) rfl (by kernel_rfl) (BL.cls wr) rfl (fun w hSw => by go_simp) ?_
          try simp only [Act.put, zA, zB, zC]
          refine wpAnyU_done (by kernel_rfl) (fun w1 hb1 => ?_) _
          go_wp2_with fail
          go_ret
          exact ⟨by rw [HD.out]; unfold chkR; rw [HYM.out, HYI.out, HNO.out]; rfl, bgo HB0.out (bgoS HBL.out hb1) HB0.out.size⟩
         ·
          have HNX : Hid (ChkTo rightA AsT.no R.A (k + 1)) := HT0.out.next hkL (by rw [← HC.out]; exact HRC.out) (fun h => by
           have e1 : R.A[k - 1]'(by omega) = y := by rw [hy]; congr 1; exact hm2.symm
           rw [e1, ← HC.out]
           omega)
          have hgd : decide (c.no ≤ y.no) = false := decide_eq_false hge
          have hwr := HWR.out
          clear hy hm2 hge
          refine wp_region_bl 27 (by kernel_rfl) ?_
          refine otks (i := 0) (oi := oQ54) (v := (.pointer (some ⟨w.heap.size, 2, none⟩))) rfl (by kernel_rfl) (BL.cls wr) rfl (fun w hSw => by go_simp) ?_
          try simp only [Act.put, zA, zB, zC]
          refine otk (i := 1) (oi := oQ55) (v := (.slice (some ⟨ba, offa, none⟩) nA cA)) rfl (by kernel_rfl) (BL.cls wr) ?_ ?_
          ·
           refine Or.inl ⟨rfl, fun w hSw => ?_⟩
           have e0 := BL.cell hSw (HRB.out.cell (j := 2) rfl)
           exact EffR.same (by go_simp)
          try simp only [Act.put, zA, zB, zC]
          refine otks (i := 2) (oi := oQ56) (v := (.int .i64 (k : Int))) rfl (by kernel_rfl) (BL.cls wr) rfl (fun w hSw => by go_simp) ?_
          try simp only [Act.put, zA, zB, zC]
          refine otks (i := 3) (oi := oQ57) (v := (.pointer (some ⟨ba, offa + k * 4, none⟩))) rfl (by kernel_rfl) (BL.cls wr) rfl (fun w hSw => by go_simp) ?_
          try simp only [Act.put, zA, zB, zC]
          refine otk (i := 4) (oi := oQ58) (v := (.agg #[.int .i64 c.no, .int .i64 c.cur, .int .i64 c.price, .int .i64 c.cut])) rfl (by kernel_rfl) (BL.cls wr) ?_ ?_
          ·
           refine Or.inl ⟨rfl, fun w hSw => ?_⟩
           exact eff_load_mid 42 (.tmp 84) rfl ba (offa + k * 4) rfl [.int .i64 c.no, .int .i64 c.cur, .int .i64 c.price, .int .i64 c.cut] _ (fun j v h => BL.cell hSw (HCA.out j v h)) Try.underlying42 rfl HSZ.out
          try simp only [Act.put, zA, zB, zC]
          refine otk (i := 5) (oi := oQ59) (v := (.bool true)) rfl (by kernel_rfl) (BL.cls wr) ?_ ?_
          ·
           refine Or.inl ⟨rfl, fun w hSw => ?_⟩
           go_simp
           show Calls _ _ _ _ _
           refine (rAsset_any _ c.no c.cur c.price c.cut).mono ?_
           rintro e w1 ⟨rfl, hb⟩
           exact ⟨by rw [HRC.out], hb⟩
          try simp only [Act.put, zA, zB, zC]
          refine otks (i := 6) (oi := oQ60) (v := (.bool false)) rfl (by kernel_rfl) (BL.cls wr) rfl (fun w hSw => by go_simp) ?_
          try simp only [Act.put, zA, zB, zC]
          refine otks (i := 7) (oi := oQ61) (v := (.bool false)) rfl (by kernel_rfl) (BL.cls wr) rfl (fun w hSw => by go_simp) ?_
          try simp only [Act.put, zA, zB, zC]
          refine otks (i := 8) (oi := oQ62) (v := (.int .i64 (k : Int))) rfl (by kernel_rfl) (BL.cls wr) rfl (fun w hSw => by go_simp) ?_
          try simp only [Act.put, zA, zB, zC]
          refine otks (i := 9) (oi := oQ63) (v := (.bool true)) rfl (by kernel_rfl) (BL.cls wr) rfl (fun w hSw => by go_simp) ?_
          try simp only [Act.put, zA, zB, zC]
          refine otks (i := 10) (oi := oQ64) (v := (.bool true)) rfl (by kernel_rfl) (BL.cls wr) rfl (fun w hSw => by go_simp) ?_
          try simp only [Act.put, zA, zB, zC]
          refine otks (i := 11) (oi := oQ65) (v := (.pointer (some ⟨w.heap.size, 2, none⟩))) rfl (by kernel_rfl) (BL.cls wr) rfl (fun w hSw => by go_simp) ?_
          try simp only [Act.put, zA, zB, zC]
          refine otk (i := 12) (oi := oQ66) (v := (.slice (some ⟨ba, offa, none⟩) nA cA)) rfl (by kernel_rfl) (BL.cls wr) ?_ ?_
          ·
           refine Or.inl ⟨rfl, fun w hSw => ?_⟩
           have e0 := BL.cell hSw (HRB.out.cell (j := 2) rfl)
           exact EffR.same (by go_simp)
          try simp only [Act.put, zA, zB, zC]
          refine otks (i := 13) (oi := oQ67) (v := (.int .i64 (k : Int))) rfl (by kernel_rfl) (BL.cls wr) rfl (fun w hSw => by go_simp) ?_
          try simp only [Act.put, zA, zB, zC]
          refine otks (i := 14) (oi := oQ68) (v := (.pointer (some ⟨ba, offa + k * 4, none⟩))) rfl (by kernel_rfl) (BL.cls wr) rfl (fun w hSw => by go_simp) ?_
          try simp only [Act.put, zA, zB, zC]
          refine otks (i := 15) (oi := oQ69) (v := (.pointer (some ⟨ba, offa + k * 4, none⟩))) rfl (by kernel_rfl) (BL.cls wr) rfl (fun w hSw => by go_simp) ?_
          try simp only [Act.put, zA, zB, zC]
          refine otk (i := 16) (oi := oQ70) (v := (.int .i64 c.no)) rfl (by kernel_rfl) (BL.cls wr) ?_ ?_
          ·
           refine Or.inl ⟨rfl, fun w hSw => ?_⟩
           have e0 : w.cell? ⟨ba, offa + k * 4, none⟩ = some (.int .i64 c.no) := BL.cell hSw (HCA.out 0 _ rfl)
           exact EffR.same (by go_simp)
          try simp only [Act.put, zA, zB, zC]
          refine otks (i := 17) (oi := oQ71) (v := (.pointer (some ⟨w.heap.size, 2, none⟩))) rfl (by kernel_rfl) (BL.cls wr) rfl (fun w hSw => by go_simp) ?_
          try simp only [Act.put, zA, zB, zC]
          refine otk (i := 18) (oi := oQ72) (v := (.slice (some ⟨ba, offa, none⟩) nA cA)) rfl (by kernel_rfl) (BL.cls wr) ?_ ?_
          ·
           refine Or.inl ⟨rfl, fun w hSw => ?_⟩
           have e0 := BL.cell hSw (HRB.out.cell (j := 2) rfl)
           exact EffR.same (by go_simp)
          try simp only [Act.put, zA, zB, zC]
          refine otks (i := 19) (oi := oQ73) (v := (.int .i64 (k : Int))) rfl (by kernel_rfl) (BL.cls wr) rfl (fun w hSw => by go_simp) ?_
          try simp only [Act.put, zA, zB, zC]
          refine otks (i := 20) (oi := oQ74) (v := (.int .i64 (m : Int))) rfl (by kernel_rfl) (BL.cls wr) rfl (fun w hSw => by go_simp) ?_
          try simp only [Act.put, zA, zB, zC]
          refine otks (i := 21) (oi := oQ75) (v := (.pointer (some ⟨ba, offa + m * 4, none⟩))) rfl (by kernel_rfl) (BL.cls wr) rfl (fun w hSw => by go_simp) ?_
          try simp only [Act.put, zA, zB, zC]
          refine otks (i := 22) (oi := oQ76) (v := (.pointer (some ⟨ba, offa + m * 4, none⟩))) rfl (by kernel_rfl) (BL.cls wr) rfl (fun w hSw => by go_simp) ?_
          try simp only [Act.put, zA, zB, zC]
          refine otk (i := 23) (oi := oQ77) (v := (.int .i64 y.no)) rfl (by kernel_rfl) (BL.cls wr) ?_ ?_
          ·
           refine Or.inl ⟨rfl, fun w hSw => ?_⟩
           have e0 : w.cell? ⟨ba, offa + m * 4, none⟩ = some (.int .i64 y.no) := BL.cell hSw (HCY.out 0 _ rfl)
           exact EffR.same (by go_simp)
          try simp only [Act.put, zA, zB, zC]
          refine otks (i := 24) (oi := oQ78) (v := (.bool false)) rfl (by kernel_rfl) (BL.cls wr) rfl (fun w hSw => by go_simp) ?_
          try simp only [Act.put, zA, zB, zC]
          refine otks (i := 25) (oi := oQ79) (v := (.bool false)) rfl (by kernel_rfl) (BL.cls wr) rfl (fun w hSw => by go_simp) ?_
          try simp only [Act.put, zA, zB, zC]
          refine otks (i := 26) (oi := oQ80) (v := (.bool false)) rfl (by kernel_rfl) (BL.cls wr) rfl (fun w hSw => by go_simp) ?_
          try simp only [Act.put, zA, zB, zC]
          refine wpAnyU_done (by kernel_rfl) (fun w1 hb1 => ?_) _
          go_wp2_with fail
          exact ⟨⟨k + 1, by omega, by push_cast; rfl, HNX.out, HRB.out.below hb1, bgoS HBL.out hb1⟩, by simp [intOf]; omega⟩
       ·
        have hr2 : rightA c = false := by simpa using hr
        have HRC := Lib.hid hr2
        have HNO : Hid (chkB rightA AsT.no R.A = false) := chk_no1 hkL (by rw [← HC.out]; exact hr2)
        clear hr hr2
        refine wp_region_bl 27 (by kernel_rfl) ?_
        refine otks (i := 0) (oi := oQ54) (v := (.pointer (some ⟨w.heap.size, 2, none⟩))) rfl (by kernel_rfl) (BL.cls wr) rfl (fun w hSw => by go_simp) ?_
        try simp only [Act.put, zA, zB, zC]
        refine otk (i := 1) (oi := oQ55) (v := (.slice (some ⟨ba, offa, none⟩) nA cA)) rfl (by kernel_rfl) (BL.cls wr) ?_ ?_
        ·
         refine Or.inl ⟨rfl, fun w hSw => ?_⟩
         have e0 := BL.cell hSw (HRB.out.cell (j := 2) rfl)
         exact EffR.same (by go_simp)
        try simp only [Act.put, zA, zB, zC]
        refine otks (i := 2) (oi := oQ56) (v := (.int .i64 (k : Int))) rfl (by kernel_rfl) (BL.cls wr) rfl (fun w hSw => by go_simp) ?_
        try simp only [Act.put, zA, zB, zC]
        refine otks (i := 3) (oi := oQ57) (v := (.pointer (some ⟨ba, offa + k * 4, none⟩))) rfl (by kernel_rfl) (BL.cls wr) rfl (fun w hSw => by go_simp) ?_
        try simp only [Act.put, zA, zB, zC]
        refine otk (i := 4) (oi := oQ58) (v := (.agg #[.int .i64 c.no, .int .i64 c.cur, .int .i64 c.price, .int .i64 c.cut])) rfl (by kernel_rfl) (BL.cls wr) ?_ ?_
        ·
         refine Or.inl ⟨rfl, fun w hSw => ?_⟩
         exact eff_load_mid 42 (.tmp 84) rfl ba (offa + k * 4) rfl [.int .i64 c.no, .int .i64 c.cur, .int .i64 c.price, .int .i64 c.cut] _ (fun j v h => BL.cell hSw (HCA.out j v h)) Try.underlying42 rfl HSZ.out
        try simp only [Act.put, zA, zB, zC]
        refine otk (i := 5) (oi := oQ59) (v := (.bool false)) rfl (by kernel_rfl) (BL.cls wr) ?_ ?_
        ·
         refine Or.inl ⟨rfl, fun w hSw => ?_⟩
         go_simp
         show Calls _ _ _ _ _
         refine (rAsset_any _ c.no c.cur c.price c.cut).mono ?_
         rintro e w1 ⟨rfl, hb⟩
         exact ⟨by rw [HRC.out], hb⟩
        try simp only [Act.put, zA, zB, zC]
        refine otks (i := 6) (oi := oQ60) (v := (.bool true)) rfl (by kernel_rfl) (BL.cls wr) rfl (fun w hSw => by go_simp) ?_
        try simp only [Act.put, zA, zB, zC]
        refine otks (i := 7) (oi := oQ61) (v := (.bool true)) rfl (by kernel_rfl) (BL.cls wr) rfl (fun w hSw => by go_simp) ?_
        try simp only [Act.put, zA, zB, zC]
        refine otku (i := 8) (oi := oQ62) rfl (by kernel_rfl) (BL.cls wr) rfl ?_
        try simp only [Act.put, zA, zB, zC]
        refine otku (i := 9) (oi := oQ63) rfl (by kernel_rfl) (BL.cls wr) rfl ?_
        try simp only [Act.put, zA, zB, zC]
        refine otku (i := 10) (oi := oQ64) rfl (by kernel_rfl) (BL.cls wr) rfl ?_
        try simp only [Act.put, zA, zB, zC]
        refine otku (i := 11) (oi := oQ65) rfl (by kernel_rfl) (BL.cls wr) rfl ?_
        try simp only [Act.put, zA, zB, zC]
        refine otku (i := 12) (oi := oQ66) rfl (by kernel_rfl) (BL.cls wr) rfl ?_
        try simp only [Act.put, zA, zB, zC]
        refine otku (i := 13) (oi := oQ67) rfl (by kernel_rfl) (BL.cls wr) rfl ?_
        try simp only [Act.put, zA, zB, zC]
        refine otku (i := 14) (oi := oQ68) rfl (by kernel_rfl) (BL.cls wr) rfl ?_
        try simp only [Act.put, zA, zB, zC]
        refine otku (i := 15) (oi := oQ69) rfl (by kernel_rfl) (BL.cls wr) rfl ?_
        try simp only [Act.put, zA, zB, zC]
        refine otku (i := 16) (oi := oQ70) rfl (by kernel_rfl) (BL.cls wr) rfl ?_
        try simp only [Act.put, zA, zB, zC]
        refine otku (i := 17) (oi := oQ71) rfl (by kernel_rfl) (BL.cls wr) rfl ?_
        try simp only [Act.put, zA, zB, zC]
        refine otku (i := 18) (oi := oQ72) rfl (by kernel_rfl) (BL.cls wr) rfl ?_
        try simp only [Act.put, zA, zB, zC]
        refine otku (i := 19) (oi := oQ73) rfl (by kernel_rfl) (BL.cls wr) rfl ?_
        try simp only [Act.put, zA, zB, zC]
        refine otku (i := 20) (oi := oQ74) rfl (by kernel_rfl) (BL.cls wr) rfl ?_
        try simp only [Act.put, zA, zB, zC]
        refine otku (i := 21) (oi := oQ75) rfl (by kernel_rfl) (BL.cls wr) rfl ?_
        try simp only [Act.put, zA, zB, zC]
        refine otku (i := 22) (oi := oQ76) rfl (by kernel_rfl) (BL.cls wr) rfl ?_
        try simp only [Act.put, zA, zB, zC]
        refine otku (i := 23) (oi := oQ77) rfl (by kernel_rfl) (BL.cls wr) rfl ?_
        try simp only [Act.put, zA, zB, zC]
        refine otku (i := 24) (oi := oQ78) rfl (by kernel_rfl) (BL.cls wr) rfl ?_
        try simp only [Act.put, zA, zB, zC]
        refine otku (i := 25) (oi := oQ79) rfl (by kernel_rfl) (BL.cls wr) rfl ?_
        try simp only [Act.put, zA, zB, zC]
        refine otks (i := 26) (oi := oQ80) (v := (.bool true)) rfl (by kernel_rfl) (BL.cls wr) rfl (fun w hSw => by go_simp) ?_
        try simp only [Act.put, zA, zB, zC]
        refine wpAnyU_done (by kernel_rfl) (fun w1 hb1 => ?_) _
        go_wp2_with fail
        go_ret
        exact ⟨by rw [HD.out]; unfold chkR; rw [HYM.out, HYI.out, HNO.out]; rfl, bgo HB0.out (bgoS HBL.out hb1) HB0.out.size⟩
      ·
       have hkn : nA = k := by omega
       subst hkn
       have HYA : Hid (chkB rightA AsT.no R.A = true) := HT0.out.all (by have := HNA.out; omega)
       go_wp2_with fail
       go_ret
       exact ⟨by rw [HD.out]; unfold chkR; rw [HYM.out, HYI.out, HYA.out]; rfl, bgo HB0.out HBL.out HB0.out.size⟩
end Cam
