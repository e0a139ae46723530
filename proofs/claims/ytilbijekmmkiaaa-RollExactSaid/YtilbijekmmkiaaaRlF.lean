import Derived.Test.YtilbijekmmkiaaaUniT
import Derived.Test.YtilbijekmmkiaaaRlE
import Derived.Test.YtilbijekmmkiaaaRlIm
import Derived.Test.YtilbijekmmkiaaaRlIi
import Derived.Test.YtilbijekmmkiaaaRlIa
/- roll: put. -/
namespace Cam
open Go Go.RowKit Go.Proofs
abbrev oF0 : Oper := { dst := some 8, op := Op.move (Operand.tmp 7), type := 3, pos := "roll.go:94", after := #[], guard := none }
abbrev oF1 : Oper := { dst := some 9, op := Op.move (Operand.tmp 0), type := 22, pos := "roll.go:94", after := #[], guard := none }
abbrev oF2 : Oper := { dst := some 10, op := Op.call { callee := Callee.builtin Builtin.len, args := #[Operand.tmp 9], argTypes := #[22] }, type := 3, pos := "roll.go:94", after := #[{ on := 1, ground := Ground.data }], guard := none }
abbrev oF3 : Oper := { dst := some 11, op := Op.binOp BinOp.lss 3 (Operand.tmp 8) (Operand.tmp 10) 3, type := 4, pos := "roll.go:94", after := #[{ on := 0, ground := Ground.data }, { on := 2, ground := Ground.data }], guard := none }
abbrev oF4 : Oper := { dst := some 12, op := Op.move (Operand.tmp 11), type := 4, pos := "roll.go:94", after := #[{ on := 3, ground := Ground.data }], guard := none }
abbrev oF5 : Oper := { dst := some 13, op := Op.move (Operand.tmp 1), type := 71, pos := "roll.go:94", after := #[{ on := 4, ground := Ground.guard }], guard := some (4, true) }
abbrev oF6 : Oper := { dst := some 14, op := Op.move (Operand.tmp 0), type := 22, pos := "roll.go:94", after := #[{ on := 4, ground := Ground.guard }], guard := some (4, true) }
abbrev oF7 : Oper := { dst := some 15, op := Op.move (Operand.tmp 7), type := 3, pos := "roll.go:94", after := #[{ on := 4, ground := Ground.guard }], guard := some (4, true) }
abbrev oF8 : Oper := { dst := some 16, op := Op.indexAddr 22 (Operand.tmp 14) (Operand.tmp 15), type := 0, pos := "roll.go:94", after := #[{ on := 6, ground := Ground.data }, { on := 7, ground := Ground.data }, { on := 4, ground := Ground.guard }], guard := some (4, true) }
abbrev oF9 : Oper := { dst := some 17, op := Op.load 33 (Operand.tmp 16), type := 33, pos := "roll.go:94", after := #[{ on := 8, ground := Ground.data }, { on := 4, ground := Ground.guard }], guard := some (4, true) }
abbrev oF10 : Oper := { dst := some 18, op := Op.call { callee := Callee.value (Operand.tmp 13), args := #[Operand.tmp 17], argTypes := #[33] }, type := 3, pos := "roll.go:94", after := #[{ on := 5, ground := Ground.data }, { on := 9, ground := Ground.data }, { on := 4, ground := Ground.chain }, { on := 4, ground := Ground.guard }], guard := some (4, true) }
abbrev oF11 : Oper := { dst := some 19, op := Op.move (Operand.tmp 1), type := 71, pos := "roll.go:94", after := #[{ on := 4, ground := Ground.guard }], guard := some (4, true) }
abbrev oF12 : Oper := { dst := some 20, op := Op.load 33 (Operand.tmp 5), type := 33, pos := "roll.go:94", after := #[{ on := 4, ground := Ground.guard }], guard := some (4, true) }
abbrev oF13 : Oper := { dst := some 21, op := Op.call { callee := Callee.value (Operand.tmp 19), args := #[Operand.tmp 20], argTypes := #[33] }, type := 3, pos := "roll.go:94", after := #[{ on := 11, ground := Ground.data }, { on := 12, ground := Ground.data }, { on := 10, ground := Ground.chain }, { on := 4, ground := Ground.guard }], guard := some (4, true) }
abbrev oF14 : Oper := { dst := some 22, op := Op.binOp BinOp.lss 3 (Operand.tmp 18) (Operand.tmp 21) 3, type := 4, pos := "roll.go:94", after := #[{ on := 10, ground := Ground.data }, { on := 13, ground := Ground.data }, { on := 4, ground := Ground.guard }], guard := some (4, true) }
abbrev oF15 : Oper := { dst := some 23, op := Op.pick (Operand.tmp 12) (Operand.tmp 22) (Operand.const (Value.bool false)), type := 4, pos := "roll.go:94", after := #[{ on := 4, ground := Ground.data }, { on := 14, ground := Ground.data }], guard := none }
abbrev oF16 : Oper := { dst := some 26, op := Op.move (Operand.tmp 7), type := 3, pos := "roll.go:97", after := #[], guard := none }
abbrev oF17 : Oper := { dst := some 27, op := Op.move (Operand.tmp 0), type := 22, pos := "roll.go:97", after := #[], guard := none }
abbrev oF18 : Oper := { dst := some 28, op := Op.call { callee := Callee.builtin Builtin.len, args := #[Operand.tmp 27], argTypes := #[22] }, type := 3, pos := "roll.go:97", after := #[{ on := 1, ground := Ground.data }], guard := none }
abbrev oF19 : Oper := { dst := some 29, op := Op.binOp BinOp.lss 3 (Operand.tmp 26) (Operand.tmp 28) 3, type := 4, pos := "roll.go:97", after := #[{ on := 0, ground := Ground.data }, { on := 2, ground := Ground.data }], guard := none }
abbrev oF20 : Oper := { dst := some 30, op := Op.move (Operand.tmp 29), type := 4, pos := "roll.go:97", after := #[{ on := 3, ground := Ground.data }], guard := none }
abbrev oF21 : Oper := { dst := some 31, op := Op.move (Operand.tmp 1), type := 71, pos := "roll.go:97", after := #[{ on := 4, ground := Ground.guard }], guard := some (4, true) }
abbrev oF22 : Oper := { dst := some 32, op := Op.move (Operand.tmp 0), type := 22, pos := "roll.go:97", after := #[{ on := 4, ground := Ground.guard }], guard := some (4, true) }
abbrev oF23 : Oper := { dst := some 33, op := Op.move (Operand.tmp 7), type := 3, pos := "roll.go:97", after := #[{ on := 4, ground := Ground.guard }], guard := some (4, true) }
abbrev oF24 : Oper := { dst := some 34, op := Op.indexAddr 22 (Operand.tmp 32) (Operand.tmp 33), type := 0, pos := "roll.go:97", after := #[{ on := 6, ground := Ground.data }, { on := 7, ground := Ground.data }, { on := 4, ground := Ground.guard }], guard := some (4, true) }
abbrev oF25 : Oper := { dst := some 35, op := Op.load 33 (Operand.tmp 34), type := 33, pos := "roll.go:97", after := #[{ on := 8, ground := Ground.data }, { on := 4, ground := Ground.guard }], guard := some (4, true) }
abbrev oF26 : Oper := { dst := some 36, op := Op.call { callee := Callee.value (Operand.tmp 31), args := #[Operand.tmp 35], argTypes := #[33] }, type := 3, pos := "roll.go:97", after := #[{ on := 5, ground := Ground.data }, { on := 9, ground := Ground.data }, { on := 4, ground := Ground.chain }, { on := 4, ground := Ground.guard }], guard := some (4, true) }
abbrev oF27 : Oper := { dst := some 37, op := Op.move (Operand.tmp 1), type := 71, pos := "roll.go:97", after := #[{ on := 4, ground := Ground.guard }], guard := some (4, true) }
abbrev oF28 : Oper := { dst := some 38, op := Op.load 33 (Operand.tmp 5), type := 33, pos := "roll.go:97", after := #[{ on := 4, ground := Ground.guard }], guard := some (4, true) }
abbrev oF29 : Oper := { dst := some 39, op := Op.call { callee := Callee.value (Operand.tmp 37), args := #[Operand.tmp 38], argTypes := #[33] }, type := 3, pos := "roll.go:97", after := #[{ on := 11, ground := Ground.data }, { on := 12, ground := Ground.data }, { on := 10, ground := Ground.chain }, { on := 4, ground := Ground.guard }], guard := some (4, true) }
abbrev oF30 : Oper := { dst := some 40, op := Op.binOp BinOp.eql 3 (Operand.tmp 36) (Operand.tmp 39) 3, type := 4, pos := "roll.go:97", after := #[{ on := 10, ground := Ground.data }, { on := 13, ground := Ground.data }, { on := 4, ground := Ground.guard }], guard := some (4, true) }
abbrev oF31 : Oper := { dst := some 41, op := Op.pick (Operand.tmp 30) (Operand.tmp 40) (Operand.const (Value.bool false)), type := 4, pos := "roll.go:97", after := #[{ on := 4, ground := Ground.data }, { on := 14, ground := Ground.data }], guard := none }
abbrev oF32 : Oper := { dst := some 9, op := Op.move (Operand.tmp 0), type := 23, pos := "roll.go:94", after := #[], guard := none }
abbrev oF33 : Oper := { dst := some 10, op := Op.call { callee := Callee.builtin Builtin.len, args := #[Operand.tmp 9], argTypes := #[23] }, type := 3, pos := "roll.go:94", after := #[{ on := 1, ground := Ground.data }], guard := none }
abbrev oF34 : Oper := { dst := some 13, op := Op.move (Operand.tmp 1), type := 74, pos := "roll.go:94", after := #[{ on := 4, ground := Ground.guard }], guard := some (4, true) }
abbrev oF35 : Oper := { dst := some 14, op := Op.move (Operand.tmp 0), type := 23, pos := "roll.go:94", after := #[{ on := 4, ground := Ground.guard }], guard := some (4, true) }
abbrev oF36 : Oper := { dst := some 16, op := Op.indexAddr 23 (Operand.tmp 14) (Operand.tmp 15), type := 0, pos := "roll.go:94", after := #[{ on := 6, ground := Ground.data }, { on := 7, ground := Ground.data }, { on := 4, ground := Ground.guard }], guard := some (4, true) }
abbrev oF37 : Oper := { dst := some 17, op := Op.load 38 (Operand.tmp 16), type := 38, pos := "roll.go:94", after := #[{ on := 8, ground := Ground.data }, { on := 4, ground := Ground.guard }], guard := some (4, true) }
abbrev oF38 : Oper := { dst := some 18, op := Op.call { callee := Callee.value (Operand.tmp 13), args := #[Operand.tmp 17], argTypes := #[38] }, type := 3, pos := "roll.go:94", after := #[{ on := 5, ground := Ground.data }, { on := 9, ground := Ground.data }, { on := 4, ground := Ground.chain }, { on := 4, ground := Ground.guard }], guard := some (4, true) }
abbrev oF39 : Oper := { dst := some 19, op := Op.move (Operand.tmp 1), type := 74, pos := "roll.go:94", after := #[{ on := 4, ground := Ground.guard }], guard := some (4, true) }
abbrev oF40 : Oper := { dst := some 20, op := Op.load 38 (Operand.tmp 5), type := 38, pos := "roll.go:94", after := #[{ on := 4, ground := Ground.guard }], guard := some (4, true) }
abbrev oF41 : Oper := { dst := some 21, op := Op.call { callee := Callee.value (Operand.tmp 19), args := #[Operand.tmp 20], argTypes := #[38] }, type := 3, pos := "roll.go:94", after := #[{ on := 11, ground := Ground.data }, { on := 12, ground := Ground.data }, { on := 10, ground := Ground.chain }, { on := 4, ground := Ground.guard }], guard := some (4, true) }
abbrev oF42 : Oper := { dst := some 27, op := Op.move (Operand.tmp 0), type := 23, pos := "roll.go:97", after := #[], guard := none }
abbrev oF43 : Oper := { dst := some 28, op := Op.call { callee := Callee.builtin Builtin.len, args := #[Operand.tmp 27], argTypes := #[23] }, type := 3, pos := "roll.go:97", after := #[{ on := 1, ground := Ground.data }], guard := none }
abbrev oF44 : Oper := { dst := some 31, op := Op.move (Operand.tmp 1), type := 74, pos := "roll.go:97", after := #[{ on := 4, ground := Ground.guard }], guard := some (4, true) }
abbrev oF45 : Oper := { dst := some 32, op := Op.move (Operand.tmp 0), type := 23, pos := "roll.go:97", after := #[{ on := 4, ground := Ground.guard }], guard := some (4, true) }
abbrev oF46 : Oper := { dst := some 34, op := Op.indexAddr 23 (Operand.tmp 32) (Operand.tmp 33), type := 0, pos := "roll.go:97", after := #[{ on := 6, ground := Ground.data }, { on := 7, ground := Ground.data }, { on := 4, ground := Ground.guard }], guard := some (4, true) }
abbrev oF47 : Oper := { dst := some 35, op := Op.load 38 (Operand.tmp 34), type := 38, pos := "roll.go:97", after := #[{ on := 8, ground := Ground.data }, { on := 4, ground := Ground.guard }], guard := some (4, true) }
abbrev oF48 : Oper := { dst := some 36, op := Op.call { callee := Callee.value (Operand.tmp 31), args := #[Operand.tmp 35], argTypes := #[38] }, type := 3, pos := "roll.go:97", after := #[{ on := 5, ground := Ground.data }, { on := 9, ground := Ground.data }, { on := 4, ground := Ground.chain }, { on := 4, ground := Ground.guard }], guard := some (4, true) }
abbrev oF49 : Oper := { dst := some 37, op := Op.move (Operand.tmp 1), type := 74, pos := "roll.go:97", after := #[{ on := 4, ground := Ground.guard }], guard := some (4, true) }
abbrev oF50 : Oper := { dst := some 38, op := Op.load 38 (Operand.tmp 5), type := 38, pos := "roll.go:97", after := #[{ on := 4, ground := Ground.guard }], guard := some (4, true) }
abbrev oF51 : Oper := { dst := some 39, op := Op.call { callee := Callee.value (Operand.tmp 37), args := #[Operand.tmp 38], argTypes := #[38] }, type := 3, pos := "roll.go:97", after := #[{ on := 11, ground := Ground.data }, { on := 12, ground := Ground.data }, { on := 10, ground := Ground.chain }, { on := 4, ground := Ground.guard }], guard := some (4, true) }
abbrev oF52 : Oper := { dst := some 9, op := Op.move (Operand.tmp 0), type := 24, pos := "roll.go:94", after := #[], guard := none }
abbrev oF53 : Oper := { dst := some 10, op := Op.call { callee := Callee.builtin Builtin.len, args := #[Operand.tmp 9], argTypes := #[24] }, type := 3, pos := "roll.go:94", after := #[{ on := 1, ground := Ground.data }], guard := none }
abbrev oF54 : Oper := { dst := some 13, op := Op.move (Operand.tmp 1), type := 77, pos := "roll.go:94", after := #[{ on := 4, ground := Ground.guard }], guard := some (4, true) }
abbrev oF55 : Oper := { dst := some 14, op := Op.move (Operand.tmp 0), type := 24, pos := "roll.go:94", after := #[{ on := 4, ground := Ground.guard }], guard := some (4, true) }
abbrev oF56 : Oper := { dst := some 16, op := Op.indexAddr 24 (Operand.tmp 14) (Operand.tmp 15), type := 0, pos := "roll.go:94", after := #[{ on := 6, ground := Ground.data }, { on := 7, ground := Ground.data }, { on := 4, ground := Ground.guard }], guard := some (4, true) }
abbrev oF57 : Oper := { dst := some 17, op := Op.load 42 (Operand.tmp 16), type := 42, pos := "roll.go:94", after := #[{ on := 8, ground := Ground.data }, { on := 4, ground := Ground.guard }], guard := some (4, true) }
abbrev oF58 : Oper := { dst := some 18, op := Op.call { callee := Callee.value (Operand.tmp 13), args := #[Operand.tmp 17], argTypes := #[42] }, type := 3, pos := "roll.go:94", after := #[{ on := 5, ground := Ground.data }, { on := 9, ground := Ground.data }, { on := 4, ground := Ground.chain }, { on := 4, ground := Ground.guard }], guard := some (4, true) }
abbrev oF59 : Oper := { dst := some 19, op := Op.move (Operand.tmp 1), type := 77, pos := "roll.go:94", after := #[{ on := 4, ground := Ground.guard }], guard := some (4, true) }
abbrev oF60 : Oper := { dst := some 20, op := Op.load 42 (Operand.tmp 5), type := 42, pos := "roll.go:94", after := #[{ on := 4, ground := Ground.guard }], guard := some (4, true) }
abbrev oF61 : Oper := { dst := some 21, op := Op.call { callee := Callee.value (Operand.tmp 19), args := #[Operand.tmp 20], argTypes := #[42] }, type := 3, pos := "roll.go:94", after := #[{ on := 11, ground := Ground.data }, { on := 12, ground := Ground.data }, { on := 10, ground := Ground.chain }, { on := 4, ground := Ground.guard }], guard := some (4, true) }
abbrev oF62 : Oper := { dst := some 27, op := Op.move (Operand.tmp 0), type := 24, pos := "roll.go:97", after := #[], guard := none }
abbrev oF63 : Oper := { dst := some 28, op := Op.call { callee := Callee.builtin Builtin.len, args := #[Operand.tmp 27], argTypes := #[24] }, type := 3, pos := "roll.go:97", after := #[{ on := 1, ground := Ground.data }], guard := none }
abbrev oF64 : Oper := { dst := some 31, op := Op.move (Operand.tmp 1), type := 77, pos := "roll.go:97", after := #[{ on := 4, ground := Ground.guard }], guard := some (4, true) }
abbrev oF65 : Oper := { dst := some 32, op := Op.move (Operand.tmp 0), type := 24, pos := "roll.go:97", after := #[{ on := 4, ground := Ground.guard }], guard := some (4, true) }
abbrev oF66 : Oper := { dst := some 34, op := Op.indexAddr 24 (Operand.tmp 32) (Operand.tmp 33), type := 0, pos := "roll.go:97", after := #[{ on := 6, ground := Ground.data }, { on := 7, ground := Ground.data }, { on := 4, ground := Ground.guard }], guard := some (4, true) }
abbrev oF67 : Oper := { dst := some 35, op := Op.load 42 (Operand.tmp 34), type := 42, pos := "roll.go:97", after := #[{ on := 8, ground := Ground.data }, { on := 4, ground := Ground.guard }], guard := some (4, true) }
abbrev oF68 : Oper := { dst := some 36, op := Op.call { callee := Callee.value (Operand.tmp 31), args := #[Operand.tmp 35], argTypes := #[42] }, type := 3, pos := "roll.go:97", after := #[{ on := 5, ground := Ground.data }, { on := 9, ground := Ground.data }, { on := 4, ground := Ground.chain }, { on := 4, ground := Ground.guard }], guard := some (4, true) }
abbrev oF69 : Oper := { dst := some 37, op := Op.move (Operand.tmp 1), type := 77, pos := "roll.go:97", after := #[{ on := 4, ground := Ground.guard }], guard := some (4, true) }
abbrev oF70 : Oper := { dst := some 38, op := Op.load 42 (Operand.tmp 5), type := 42, pos := "roll.go:97", after := #[{ on := 4, ground := Ground.guard }], guard := some (4, true) }
abbrev oF71 : Oper := { dst := some 39, op := Op.call { callee := Callee.value (Operand.tmp 37), args := #[Operand.tmp 38], argTypes := #[42] }, type := 3, pos := "roll.go:97", after := #[{ on := 11, ground := Ground.data }, { on := 12, ground := Ground.data }, { on := 10, ground := Ground.chain }, { on := 4, ground := Ground.guard }], guard := some (4, true) }
theorem set_splice {α : Type} {enc : α → List Value} {K : Nat} {C : List Value} {n i c : Nat} {L : List α} {x : α} (he : ∀ a, (enc a).length = K) (hn : n = L.length) (hi : i < n) (hc : n ≤ c) (hl : C.length = c * K) (ht : C.take (n * K) = flatW enc L) :
  (splice C (i * K) (enc x)).take (n * K) = flatW enc (L.set i x) := by
 have hfl : (flatW enc L).length = n * K := by rw [hn]; exact flatW_length (fun a _ => he a)
 have h2 : (i + 1) * K = i * K + K := Nat.succ_mul i K
 have h3 : n * K ≤ c * K := Nat.mul_le_mul_right K hc
 have h4 : (i + 1) * K ≤ n * K := Nat.mul_le_mul_right K (by omega)
 rw [← flatW_set (f := enc) (W := K) (fun a _ => he a) (k := i) (by omega) x (he x)]
 apply List.ext_getElem?
 intro j
 have hx := he x
 have hT : ∀ j, j < n * K → C[j]? = (flatW enc L)[j]? := fun j hj => by
  have := congrArg (·[j]?) ht
  simp only [List.getElem?_take, hj, if_true] at this
  exact this
 have hN : ∀ j, n * K ≤ j → (flatW enc L)[j]? = none := fun j hj => List.getElem?_eq_none (by omega)
 unfold splice
 simp only [List.getElem?_append, List.getElem?_take, List.getElem?_drop, List.length_take, hfl, hx, hl]
 by_cases c1 : j < i * K
 ·
  have := hT j (by omega)
  grind
 ·
  by_cases c2 : j < i * K + K
  ·
   grind
  ·
   by_cases c3 : j < n * K
   ·
    have := hT j c3
    grind
   ·
    have := hN (i * K + K + (j - (i * K + K))) (by omega)
    grind
theorem OwnR.setRow1 {α : Type} {enc : α → List Value} {K : Nat} {t : TypeId} {w : World} {base g n c : Nat} {L : List α} (h : OwnR enc K t w base (.slice (some ⟨g, 0, none⟩) n c) L) {i : Nat} (hi : i < n) (x : α) :
  OwnR enc K t (w.setCells g (i * K) (enc x)) base (.slice (some ⟨g, 0, none⟩) n c) (L.set i x) ∧ Below base w (w.setCells g (i * K) (enc x)) ∧ Kept (fun k => k = g) w (w.setCells g (i * K) (enc x)) ∧ w.there g (i * K) (enc x).length := by
 obtain ⟨g', C, e, hg, hh, hn, hnc, hm, hl, ht⟩ := h.open
 cases e
 have h4 : (i + 1) * K ≤ n * K := Nat.mul_le_mul_right K (by omega)
 have h3 : n * K ≤ c * K := Nat.mul_le_mul_right K hnc
 have h2 : (i + 1) * K = i * K + K := Nat.succ_mul i K
 have hx := h.1 x
 have hp := hh.puts (o := i * K) (vs := enc x) (by omega)
 refine ⟨OwnR.close h.1 hg hp (by simpa using hn) hnc hm (by rw [splice_length (by omega)]; exact hl) (set_splice h.1 hn hi hnc hl ht), Below.puts (Below.refl _ _) hg _ _, setCells_kept _ _ _ _, fun j hj => ⟨hh.isSome (by omega), hh.frozen _⟩⟩
theorem OwnR.some_of {α : Type} {enc : α → List Value} {K : Nat} {t : TypeId} {w : World} {base n c : Nat} {a : Option Addr} {L : List α} (h : OwnR enc K t w base (.slice a n c) L) (hn : 0 < n) : ∃ g, a = some ⟨g, 0, none⟩ ∧ base ≤ g ∧ g < w.heap.size := by
 obtain ⟨ad, rfl⟩ : ∃ ad, a = some ad := by
  rcases h.2.2 with ⟨e, e2⟩ | ⟨g, cap, cur, e, _⟩
  ·
   simp only [Value.slice.injEq] at e
   omega
  ·
   simp only [Value.slice.injEq] at e
   exact ⟨_, e.1⟩
 obtain ⟨g, C, rfl, hg, hh, _⟩ := h.open
 exact ⟨g, rfl, hg, hh.lt⟩
set_option maxRecDepth 100000 in
set_option maxHeartbeats 1600000 in
theorem putM_any (w : World) (base : Nat) (av : Option Addr) (n cap : Nat) (L : List MbT) (x : MbT) (h : OwnR MbT.vs 3 33 w base (.slice av n cap) L) (hL : L.length ≤ 100000) (hb : base ≤ w.heap.size) :
  Calls Try.prog 61 #[.slice av n cap, .func (.func 45) #[] #[], .agg #[.int .i64 x.no, .int .i64 x.state, .int .i64 x.need]] w (RowsPost MbT.vs 3 33 w base (fun k => (Value.slice av n cap).ownBlock = some k) (putL MbT.no x L)) := by
 obtain ⟨a9, c9, e9, hcap, hm⟩ := h.rs.shape
 simp only [Value.slice.injEq] at e9
 obtain ⟨h1, hn, rfl⟩ := e9
 clear h1
 rw [← hn] at hcap
 have hn1 : n ≤ 100000 := by omega
 have hb0 : Below w.heap.size w (w.alloc (.cells #[.int .i64 x.no, .int .i64 x.state, .int .i64 x.need] 33)) := (Below.refl _ _).alloc (Nat.le_refl _) _
 have hx : HT (w.alloc (.cells #[.int .i64 x.no, .int .i64 x.state, .int .i64 x.need] 33)) w.heap.size 33 [.int .i64 x.no, .int .i64 x.state, .int .i64 x.need] := HT.new
 have HSZ : Hid ((Try.prog.info? 33).map (·.size) = some (#[.int .i64 x.no, .int .i64 x.state, .int .i64 x.need] : Array Value).size) := by show _ = _; rw [mem_sz]; rfl
 have HON : Hid ((#[.int .i64 x.no, .int .i64 x.state, .int .i64 x.need] : Array Value).all (·.oneCell') = true) := by show _ = true; simp [Value.oneCell']
 have HO := Lib.hid h
 have HN := Lib.hid hn
 have HB0 := Lib.hid hb0
 have HX0 := Lib.hid hx
 have HBB : Hid (base ≤ w.heap.size) := hb
 clear h hn hb0 hx hL hb
 go_enter Try.func61, Try.ntmps61
 go_wp2_with fail
 obtain ⟨gx, hgx⟩ : ∃ g, g = w.heap.size := ⟨_, rfl⟩
 rw [← hgx] at HX0 ⊢
 clear hgx
 go_loopw [7] (fun i wr => ∃ k : Nat, k ≤ n ∧ i = .int .i64 k ∧ Hid (∀ q (h : q < L.length), q < k → L[q].no < x.no) ∧ HT wr gx 33 [.int .i64 x.no, .int .i64 x.state, .int .i64 x.need] ∧ Below w.heap.size w wr) (fun i _ => n - (intOf i).toNat)
 case atStart => exact ⟨0, Nat.zero_le _, rfl, fun q hq h => absurd h (by omega), HX0.out, HB0.out⟩
 case round =>
  obtain ⟨k, hk, rfl, HLT, hx0, hbel⟩ := hrel
  have HBL := Lib.hid hbel
  have HX := Lib.hid hx0
  have hk0 : (0 : Int) ≤ k := by omega
  clear hbel hx0
  by_cases hlt : k < n
  ·
   have hkL : k < L.length := by rw [← HN.out]; exact hlt
   obtain ⟨ba, rfl, hba, hbs⟩ := HO.out.some_of (by omega)
   obtain ⟨c, hc⟩ : ∃ c, c = L[k] := ⟨_, rfl⟩
   have HCA : Hid (∀ j v, [.int .i64 c.no, .int .i64 c.state, .int .i64 c.need][j]? = some v → wr.cell? ⟨ba, k * 3 + j, none⟩ = some v) := by
    intro j v h
    obtain ⟨b2, o2, e2, _, hca2⟩ := (HO.out.rs.mono HBL.out).at (by omega) (by decide)
    simp only [Option.some.injEq, Addr.mk.injEq, and_true] at e2
    obtain ⟨rfl, rfl⟩ := e2
    have := hca2 k hkL j v (by rw [← hc]; exact h)
    rwa [Nat.zero_add] at this
   have hk1 : (k : Int) < n := by omega
   have HC := Lib.hid hc
   clear hc
   go_wp2_with fail
   by_cases hl : c.no < x.no
   ·
    have HNX : Hid (∀ q (h : q < L.length), q < k + 1 → L[q].no < x.no) := fun q hq hqk => by
     by_cases e : q = k
     ·
      subst e; rw [← HC.out]; exact hl
     ·
      exact HLT.out q hq (by omega)
    have hld : decide (c.no < x.no) = true := decide_eq_true hl
    clear hl
    refine wp_region_bl 16 (by kernel_rfl) ?_
    refine otks (i := 0) (oi := oF0) (v := (.int .i64 (k : Int))) rfl (by kernel_rfl) (BL.cls wr) rfl (fun w hSw => by go_simp) ?_
    try simp only [Act.put, zA, zB, zC]
    refine otks (i := 1) (oi := oF1) (v := (.slice (some ⟨ba, 0, none⟩) n cap)) rfl (by kernel_rfl) (BL.cls wr) rfl (fun w hSw => by go_simp) ?_
    try simp only [Act.put, zA, zB, zC]
    refine otks (i := 2) (oi := oF2) (v := (.int .i64 (n : Int))) rfl (by kernel_rfl) (BL.cls wr) rfl (fun w hSw => by go_simp) ?_
    try simp only [Act.put, zA, zB, zC]
    refine otks (i := 3) (oi := oF3) (v := (.bool true)) rfl (by kernel_rfl) (BL.cls wr) rfl (fun w hSw => by go_simp) ?_
    try simp only [Act.put, zA, zB, zC]
    refine otks (i := 4) (oi := oF4) (v := (.bool true)) rfl (by kernel_rfl) (BL.cls wr) rfl (fun w hSw => by go_simp) ?_
    try simp only [Act.put, zA, zB, zC]
    refine otks (i := 5) (oi := oF5) (v := (.func (.func 45) #[] #[])) rfl (by kernel_rfl) (BL.cls wr) rfl (fun w hSw => by go_simp) ?_
    try simp only [Act.put, zA, zB, zC]
    refine otks (i := 6) (oi := oF6) (v := (.slice (some ⟨ba, 0, none⟩) n cap)) rfl (by kernel_rfl) (BL.cls wr) rfl (fun w hSw => by go_simp) ?_
    try simp only [Act.put, zA, zB, zC]
    refine otks (i := 7) (oi := oF7) (v := (.int .i64 (k : Int))) rfl (by kernel_rfl) (BL.cls wr) rfl (fun w hSw => by go_simp) ?_
    try simp only [Act.put, zA, zB, zC]
    refine otks (i := 8) (oi := oF8) (v := (.pointer (some ⟨ba, k * 3, none⟩))) rfl (by kernel_rfl) (BL.cls wr) rfl (fun w hSw => by go_simp) ?_
    try simp only [Act.put, zA, zB, zC]
    refine otk (i := 9) (oi := oF9) (v := (.agg #[.int .i64 c.no, .int .i64 c.state, .int .i64 c.need])) rfl (by kernel_rfl) (BL.cls wr) ?_ ?_
    ·
     refine Or.inl ⟨rfl, fun w hSw => ?_⟩
     exact eff_load_mid 33 (.tmp 16) rfl ba (k * 3) rfl [.int .i64 c.no, .int .i64 c.state, .int .i64 c.need] _ (fun j v h => BL.cell hSw (HCA.out j v h)) Try.underlying33 rfl HSZ.out
    try simp only [Act.put, zA, zB, zC]
    refine otk (i := 10) (oi := oF10) (v := (.int .i64 c.no)) rfl (by kernel_rfl) (BL.cls wr) ?_ ?_
    ·
     refine Or.inl ⟨rfl, fun w hSw => ?_⟩
     go_simp
     show Calls _ _ _ _ _
     refine (noM_any _ c.no c.state c.need).mono ?_
     rintro e w1 ⟨rfl, hb⟩
     exact ⟨rfl, hb⟩
    try simp only [Act.put, zA, zB, zC]
    refine otks (i := 11) (oi := oF11) (v := (.func (.func 45) #[] #[])) rfl (by kernel_rfl) (BL.cls wr) rfl (fun w hSw => by go_simp) ?_
    try simp only [Act.put, zA, zB, zC]
    refine otk (i := 12) (oi := oF12) (v := (.agg #[.int .i64 x.no, .int .i64 x.state, .int .i64 x.need])) rfl (by kernel_rfl) (BL.cls wr) ?_ ?_
    ·
     refine Or.inl ⟨rfl, fun w hSw => ?_⟩
     exact eff_load_mid 33 (.tmp 5) rfl gx (0) rfl [.int .i64 x.no, .int .i64 x.state, .int .i64 x.need] _ (fun j v h => BL.cell hSw (HX.out.cell (by simpa using h))) Try.underlying33 rfl HSZ.out
    try simp only [Act.put, zA, zB, zC]
    refine otk (i := 13) (oi := oF13) (v := (.int .i64 x.no)) rfl (by kernel_rfl) (BL.cls wr) ?_ ?_
    ·
     refine Or.inl ⟨rfl, fun w hSw => ?_⟩
     go_simp
     show Calls _ _ _ _ _
     refine (noM_any _ x.no x.state x.need).mono ?_
     rintro e w1 ⟨rfl, hb⟩
     exact ⟨rfl, hb⟩
    try simp only [Act.put, zA, zB, zC]
    refine otks (i := 14) (oi := oF14) (v := (.bool true)) rfl (by kernel_rfl) (BL.cls wr) rfl (fun w hSw => by go_simp) ?_
    try simp only [Act.put, zA, zB, zC]
    refine otks (i := 15) (oi := oF15) (v := (.bool true)) rfl (by kernel_rfl) (BL.cls wr) rfl (fun w hSw => by go_simp) ?_
    try simp only [Act.put, zA, zB, zC]
    refine wpAnyU_done (by kernel_rfl) (fun w1 hb1 => ?_) _
    go_wp2_with fail
    exact ⟨⟨k + 1, by omega, by push_cast; rfl, HNX.out, HX.out.below hb1, bgo HBL.out hb1 HBL.out.size⟩, by simp [intOf]; omega⟩
   ·
    have hld : decide (c.no < x.no) = false := decide_eq_false hl
    refine wp_region_bl 16 (by kernel_rfl) ?_
    refine otks (i := 0) (oi := oF0) (v := (.int .i64 (k : Int))) rfl (by kernel_rfl) (BL.cls wr) rfl (fun w hSw => by go_simp) ?_
    try simp only [Act.put, zA, zB, zC]
    refine otks (i := 1) (oi := oF1) (v := (.slice (some ⟨ba, 0, none⟩) n cap)) rfl (by kernel_rfl) (BL.cls wr) rfl (fun w hSw => by go_simp) ?_
    try simp only [Act.put, zA, zB, zC]
    refine otks (i := 2) (oi := oF2) (v := (.int .i64 (n : Int))) rfl (by kernel_rfl) (BL.cls wr) rfl (fun w hSw => by go_simp) ?_
    try simp only [Act.put, zA, zB, zC]
    refine otks (i := 3) (oi := oF3) (v := (.bool true)) rfl (by kernel_rfl) (BL.cls wr) rfl (fun w hSw => by go_simp) ?_
    try simp only [Act.put, zA, zB, zC]
    refine otks (i := 4) (oi := oF4) (v := (.bool true)) rfl (by kernel_rfl) (BL.cls wr) rfl (fun w hSw => by go_simp) ?_
    try simp only [Act.put, zA, zB, zC]
    refine otks (i := 5) (oi := oF5) (v := (.func (.func 45) #[] #[])) rfl (by kernel_rfl) (BL.cls wr) rfl (fun w hSw => by go_simp) ?_
    try simp only [Act.put, zA, zB, zC]
    refine otks (i := 6) (oi := oF6) (v := (.slice (some ⟨ba, 0, none⟩) n cap)) rfl (by kernel_rfl) (BL.cls wr) rfl (fun w hSw => by go_simp) ?_
    try simp only [Act.put, zA, zB, zC]
    refine otks (i := 7) (oi := oF7) (v := (.int .i64 (k : Int))) rfl (by kernel_rfl) (BL.cls wr) rfl (fun w hSw => by go_simp) ?_
    try simp only [Act.put, zA, zB, zC]
    refine otks (i := 8) (oi := oF8) (v := (.pointer (some ⟨ba, k * 3, none⟩))) rfl (by kernel_rfl) (BL.cls wr) rfl (fun w hSw => by go_simp) ?_
    try simp only [Act.put, zA, zB, zC]
    refine otk (i := 9) (oi := oF9) (v := (.agg #[.int .i64 c.no, .int .i64 c.state, .int .i64 c.need])) rfl (by kernel_rfl) (BL.cls wr) ?_ ?_
    ·
     refine Or.inl ⟨rfl, fun w hSw => ?_⟩
     exact eff_load_mid 33 (.tmp 16) rfl ba (k * 3) rfl [.int .i64 c.no, .int .i64 c.state, .int .i64 c.need] _ (fun j v h => BL.cell hSw (HCA.out j v h)) Try.underlying33 rfl HSZ.out
    try simp only [Act.put, zA, zB, zC]
    refine otk (i := 10) (oi := oF10) (v := (.int .i64 c.no)) rfl (by kernel_rfl) (BL.cls wr) ?_ ?_
    ·
     refine Or.inl ⟨rfl, fun w hSw => ?_⟩
     go_simp
     show Calls _ _ _ _ _
     refine (noM_any _ c.no c.state c.need).mono ?_
     rintro e w1 ⟨rfl, hb⟩
     exact ⟨rfl, hb⟩
    try simp only [Act.put, zA, zB, zC]
    refine otks (i := 11) (oi := oF11) (v := (.func (.func 45) #[] #[])) rfl (by kernel_rfl) (BL.cls wr) rfl (fun w hSw => by go_simp) ?_
    try simp only [Act.put, zA, zB, zC]
    refine otk (i := 12) (oi := oF12) (v := (.agg #[.int .i64 x.no, .int .i64 x.state, .int .i64 x.need])) rfl (by kernel_rfl) (BL.cls wr) ?_ ?_
    ·
     refine Or.inl ⟨rfl, fun w hSw => ?_⟩
     exact eff_load_mid 33 (.tmp 5) rfl gx (0) rfl [.int .i64 x.no, .int .i64 x.state, .int .i64 x.need] _ (fun j v h => BL.cell hSw (HX.out.cell (by simpa using h))) Try.underlying33 rfl HSZ.out
    try simp only [Act.put, zA, zB, zC]
    refine otk (i := 13) (oi := oF13) (v := (.int .i64 x.no)) rfl (by kernel_rfl) (BL.cls wr) ?_ ?_
    ·
     refine Or.inl ⟨rfl, fun w hSw => ?_⟩
     go_simp
     show Calls _ _ _ _ _
     refine (noM_any _ x.no x.state x.need).mono ?_
     rintro e w1 ⟨rfl, hb⟩
     exact ⟨rfl, hb⟩
    try simp only [Act.put, zA, zB, zC]
    refine otks (i := 14) (oi := oF14) (v := (.bool false)) rfl (by kernel_rfl) (BL.cls wr) rfl (fun w hSw => by go_simp) ?_
    try simp only [Act.put, zA, zB, zC]
    refine otks (i := 15) (oi := oF15) (v := (.bool false)) rfl (by kernel_rfl) (BL.cls wr) rfl (fun w hSw => by go_simp) ?_
    try simp only [Act.put, zA, zB, zC]
    refine wpAnyU_done (by kernel_rfl) (fun w1 hb1 => ?_) _
    have HBV1 := Lib.hid (bgo HBL.out hb1 HBL.out.size)
    have HX1 := Lib.hid (HX.out.below hb1)
    have HO1 := Lib.hid (HO.out.below HBV1.out)
    have HB1 := Lib.hid hb1
    have HCA1 : Hid (∀ j v, [.int .i64 c.no, .int .i64 c.state, .int .i64 c.need][j]? = some v → w1.cell? ⟨ba, k * 3 + j, none⟩ = some v) := fun j v h => BL.cell hb1 (HCA.out j v h)
    clear hb1
    go_wp2_with fail
    by_cases he : c.no = x.no
    ·
     have HPL := Lib.hid (putL_set (no := MbT.no) hkL HLT.out (by rw [← HC.out]; exact he))
     have hed : (c.no == x.no) = true := by simpa using he
     clear he
     refine wp_region_bl 16 (by kernel_rfl) ?_
     refine otks (i := 0) (oi := oF16) (v := (.int .i64 (k : Int))) rfl (by kernel_rfl) (BL.cls w1) rfl (fun w hSw => by go_simp) ?_
     try simp only [Act.put, zA, zB, zC]
     refine otks (i := 1) (oi := oF17) (v := (.slice (some ⟨ba, 0, none⟩) n cap)) rfl (by kernel_rfl) (BL.cls w1) rfl (fun w hSw => by go_simp) ?_
     try simp only [Act.put, zA, zB, zC]
     refine otks (i := 2) (oi := oF18) (v := (.int .i64 (n : Int))) rfl (by kernel_rfl) (BL.cls w1) rfl (fun w hSw => by go_simp) ?_
     try simp only [Act.put, zA, zB, zC]
     refine otks (i := 3) (oi := oF19) (v := (.bool true)) rfl (by kernel_rfl) (BL.cls w1) rfl (fun w hSw => by go_simp) ?_
     try simp only [Act.put, zA, zB, zC]
     refine otks (i := 4) (oi := oF20) (v := (.bool true)) rfl (by kernel_rfl) (BL.cls w1) rfl (fun w hSw => by go_simp) ?_
     try simp only [Act.put, zA, zB, zC]
     refine otks (i := 5) (oi := oF21) (v := (.func (.func 45) #[] #[])) rfl (by kernel_rfl) (BL.cls w1) rfl (fun w hSw => by go_simp) ?_
     try simp only [Act.put, zA, zB, zC]
     refine otks (i := 6) (oi := oF22) (v := (.slice (some ⟨ba, 0, none⟩) n cap)) rfl (by kernel_rfl) (BL.cls w1) rfl (fun w hSw => by go_simp) ?_
     try simp only [Act.put, zA, zB, zC]
     refine otks (i := 7) (oi := oF23) (v := (.int .i64 (k : Int))) rfl (by kernel_rfl) (BL.cls w1) rfl (fun w hSw => by go_simp) ?_
     try simp only [Act.put, zA, zB, zC]
     refine otks (i := 8) (oi := oF24) (v := (.pointer (some ⟨ba, k * 3, none⟩))) rfl (by kernel_rfl) (BL.cls w1) rfl (fun w hSw => by go_simp) ?_
     try simp only [Act.put, zA, zB, zC]
     refine otk (i := 9) (oi := oF25) (v := (.agg #[.int .i64 c.no, .int .i64 c.state, .int .i64 c.need])) rfl (by kernel_rfl) (BL.cls w1) ?_ ?_
     ·
      refine Or.inl ⟨rfl, fun w hSw => ?_⟩
      exact eff_load_mid 33 (.tmp 34) rfl ba (k * 3) rfl [.int .i64 c.no, .int .i64 c.state, .int .i64 c.need] _ (fun j v h => BL.cell hSw (HCA1.out j v h)) Try.underlying33 rfl HSZ.out
     try simp only [Act.put, zA, zB, zC]
     refine otk (i := 10) (oi := oF26) (v := (.int .i64 c.no)) rfl (by kernel_rfl) (BL.cls w1) ?_ ?_
     ·
      refine Or.inl ⟨rfl, fun w hSw => ?_⟩
      go_simp
      show Calls _ _ _ _ _
      refine (noM_any _ c.no c.state c.need).mono ?_
      rintro e w1 ⟨rfl, hb⟩
      exact ⟨rfl, hb⟩
     try simp only [Act.put, zA, zB, zC]
     refine otks (i := 11) (oi := oF27) (v := (.func (.func 45) #[] #[])) rfl (by kernel_rfl) (BL.cls w1) rfl (fun w hSw => by go_simp) ?_
     try simp only [Act.put, zA, zB, zC]
     refine otk (i := 12) (oi := oF28) (v := (.agg #[.int .i64 x.no, .int .i64 x.state, .int .i64 x.need])) rfl (by kernel_rfl) (BL.cls w1) ?_ ?_
     ·
      refine Or.inl ⟨rfl, fun w hSw => ?_⟩
      exact eff_load_mid 33 (.tmp 5) rfl gx (0) rfl [.int .i64 x.no, .int .i64 x.state, .int .i64 x.need] _ (fun j v h => BL.cell hSw (HX1.out.cell (by simpa using h))) Try.underlying33 rfl HSZ.out
     try simp only [Act.put, zA, zB, zC]
     refine otk (i := 13) (oi := oF29) (v := (.int .i64 x.no)) rfl (by kernel_rfl) (BL.cls w1) ?_ ?_
     ·
      refine Or.inl ⟨rfl, fun w hSw => ?_⟩
      go_simp
      show Calls _ _ _ _ _
      refine (noM_any _ x.no x.state x.need).mono ?_
      rintro e w1 ⟨rfl, hb⟩
      exact ⟨rfl, hb⟩
     try simp only [Act.put, zA, zB, zC]
     refine otks (i := 14) (oi := oF30) (v := (.bool true)) rfl (by kernel_rfl) (BL.cls w1) rfl (fun w hSw => by go_simp) ?_
     try simp only [Act.put, zA, zB, zC]
     refine otks (i := 15) (oi := oF31) (v := (.bool true)) rfl (by kernel_rfl) (BL.cls w1) rfl (fun w hSw => by go_simp) ?_
     try simp only [Act.put, zA, zB, zC]
     refine wpAnyU_done (by kernel_rfl) (fun w1 hb1 => ?_) _
     have HBV2 := Lib.hid (bgo HBV1.out hb1 HBV1.out.size)
     have HBW2 : Hid (Below base w w1) := HBV2.out.mono HBB.out
     have HX2 := Lib.hid (HX1.out.below hb1)
     have HO2 := Lib.hid (HO.out.below HBV2.out)
     clear hb1
     have hst := HO2.out.setRow1 (i := k) hlt x
     have HTH : Hid (w1.there ba (k * 3) 3) := hst.2.2.2
     have HXA : Hid (w1.heap[gx]? = some (.cells #[.int .i64 x.no, .int .i64 x.state, .int .i64 x.need] 33 (0, 0))) := HX2.out
     have HFIN := Lib.hid hst
     clear hst
     go_wp2_with (first
      | (refine wpList_load_row rfl 33 (.tmp 5) rfl gx rfl 33 #[.int .i64 x.no, .int .i64 x.state, .int .i64 x.need] (0, 0) _ HXA.out Try.underlying33 rfl HSZ.out ?_)
      | (refine wpList_store_mid rfl 33 (.tmp 45) (.tmp 44) rfl ba (k * 3) #[.int .i64 x.no, .int .i64 x.state, .int .i64 x.need] rfl rfl HTH.out HSZ.out HON.out ?_)
      | fail)
     go_ret
     rw [HPL.out]
     exact ⟨_, _, _, rfl, HFIN.out.1, bgo HBW2.out HFIN.out.2.1 (Nat.le_refl _), ((Kept.of_below HBV2.out).weaken (fun _ h => h.elim)).trans (HFIN.out.2.2.1.weaken (fun j (h : j = ba) => by subst h; rfl)) (fun _ _ h => h)⟩
    ·
     have HPL := Lib.hid (putL_ins (no := MbT.no) (k := k) (by have := HN.out; omega) HLT.out (fun h => by rw [← HC.out]; omega))
     have hed : (c.no == x.no) = false := by simpa using he
     clear he
     refine wp_region_bl 16 (by kernel_rfl) ?_
     refine otks (i := 0) (oi := oF16) (v := (.int .i64 (k : Int))) rfl (by kernel_rfl) (BL.cls w1) rfl (fun w hSw => by go_simp) ?_
     try simp only [Act.put, zA, zB, zC]
     refine otks (i := 1) (oi := oF17) (v := (.slice (some ⟨ba, 0, none⟩) n cap)) rfl (by kernel_rfl) (BL.cls w1) rfl (fun w hSw => by go_simp) ?_
     try simp only [Act.put, zA, zB, zC]
     refine otks (i := 2) (oi := oF18) (v := (.int .i64 (n : Int))) rfl (by kernel_rfl) (BL.cls w1) rfl (fun w hSw => by go_simp) ?_
     try simp only [Act.put, zA, zB, zC]
     refine otks (i := 3) (oi := oF19) (v := (.bool true)) rfl (by kernel_rfl) (BL.cls w1) rfl (fun w hSw => by go_simp) ?_
     try simp only [Act.put, zA, zB, zC]
     refine otks (i := 4) (oi := oF20) (v := (.bool true)) rfl (by kernel_rfl) (BL.cls w1) rfl (fun w hSw => by go_simp) ?_
     try simp only [Act.put, zA, zB, zC]
     refine otks (i := 5) (oi := oF21) (v := (.func (.func 45) #[] #[])) rfl (by kernel_rfl) (BL.cls w1) rfl (fun w hSw => by go_simp) ?_
     try simp only [Act.put, zA, zB, zC]
     refine otks (i := 6) (oi := oF22) (v := (.slice (some ⟨ba, 0, none⟩) n cap)) rfl (by kernel_rfl) (BL.cls w1) rfl (fun w hSw => by go_simp) ?_
     try simp only [Act.put, zA, zB, zC]
     refine otks (i := 7) (oi := oF23) (v := (.int .i64 (k : Int))) rfl (by kernel_rfl) (BL.cls w1) rfl (fun w hSw => by go_simp) ?_
     try simp only [Act.put, zA, zB, zC]
     refine otks (i := 8) (oi := oF24) (v := (.pointer (some ⟨ba, k * 3, none⟩))) rfl (by kernel_rfl) (BL.cls w1) rfl (fun w hSw => by go_simp) ?_
     try simp only [Act.put, zA, zB, zC]
     refine otk (i := 9) (oi := oF25) (v := (.agg #[.int .i64 c.no, .int .i64 c.state, .int .i64 c.need])) rfl (by kernel_rfl) (BL.cls w1) ?_ ?_
     ·
      refine Or.inl ⟨rfl, fun w hSw => ?_⟩
      exact eff_load_mid 33 (.tmp 34) rfl ba (k * 3) rfl [.int .i64 c.no, .int .i64 c.state, .int .i64 c.need] _ (fun j v h => BL.cell hSw (HCA1.out j v h)) Try.underlying33 rfl HSZ.out
     try simp only [Act.put, zA, zB, zC]
     refine otk (i := 10) (oi := oF26) (v := (.int .i64 c.no)) rfl (by kernel_rfl) (BL.cls w1) ?_ ?_
     ·
      refine Or.inl ⟨rfl, fun w hSw => ?_⟩
      go_simp
      show Calls _ _ _ _ _
      refine (noM_any _ c.no c.state c.need).mono ?_
      rintro e w1 ⟨rfl, hb⟩
      exact ⟨rfl, hb⟩
     try simp only [Act.put, zA, zB, zC]
     refine otks (i := 11) (oi := oF27) (v := (.func (.func 45) #[] #[])) rfl (by kernel_rfl) (BL.cls w1) rfl (fun w hSw => by go_simp) ?_
     try simp only [Act.put, zA, zB, zC]
     refine otk (i := 12) (oi := oF28) (v := (.agg #[.int .i64 x.no, .int .i64 x.state, .int .i64 x.need])) rfl (by kernel_rfl) (BL.cls w1) ?_ ?_
     ·
      refine Or.inl ⟨rfl, fun w hSw => ?_⟩
      exact eff_load_mid 33 (.tmp 5) rfl gx (0) rfl [.int .i64 x.no, .int .i64 x.state, .int .i64 x.need] _ (fun j v h => BL.cell hSw (HX1.out.cell (by simpa using h))) Try.underlying33 rfl HSZ.out
     try simp only [Act.put, zA, zB, zC]
     refine otk (i := 13) (oi := oF29) (v := (.int .i64 x.no)) rfl (by kernel_rfl) (BL.cls w1) ?_ ?_
     ·
      refine Or.inl ⟨rfl, fun w hSw => ?_⟩
      go_simp
      show Calls _ _ _ _ _
      refine (noM_any _ x.no x.state x.need).mono ?_
      rintro e w1 ⟨rfl, hb⟩
      exact ⟨rfl, hb⟩
     try simp only [Act.put, zA, zB, zC]
     refine otks (i := 14) (oi := oF30) (v := (.bool false)) rfl (by kernel_rfl) (BL.cls w1) rfl (fun w hSw => by go_simp) ?_
     try simp only [Act.put, zA, zB, zC]
     refine otks (i := 15) (oi := oF31) (v := (.bool false)) rfl (by kernel_rfl) (BL.cls w1) rfl (fun w hSw => by go_simp) ?_
     try simp only [Act.put, zA, zB, zC]
     refine wpAnyU_done (by kernel_rfl) (fun w1 hb1 => ?_) _
     have HBV2 := Lib.hid (bgo HBV1.out hb1 HBV1.out.size)
     have HBW2 : Hid (Below base w w1) := HBV2.out.mono HBB.out
     have HX2 := Lib.hid (HX1.out.below hb1)
     have HO2 := Lib.hid (HO.out.below HBV2.out)
     clear hb1
     have HXA : Hid (w1.heap[gx]? = some (.cells #[.int .i64 x.no, .int .i64 x.state, .int .i64 x.need] 33 (0, 0))) := HX2.out
     have hbn : Below w1.heap.size w1 (w1.alloc (.cells #[.int .i64 x.no, .int .i64 x.state, .int .i64 x.need] 33)) := (Below.refl _ _).alloc (Nat.le_refl _) _
     have hins := mem_insert (x := x) (HO2.out.alloc (.cells #[.int .i64 x.no, .int .i64 x.state, .int .i64 x.need] 33)) (by have := HN.out; omega) hlt (by simp; have := HBB.out; have := HBV2.out.size; omega) (HT.new (w := w1) (t := 33) (C := [.int .i64 x.no, .int .i64 x.state, .int .i64 x.need])) (fun j hj => by have := HO2.out.lt j hj; omega)
     have HBN := Lib.hid hbn
     clear hbn
     go_wp2_with (first
      | (refine wpList_load_row rfl 33 (.tmp 5) rfl gx rfl 33 #[.int .i64 x.no, .int .i64 x.state, .int .i64 x.need] (0, 0) _ HXA.out Try.underlying33 rfl HSZ.out ?_)
      | fail)
     refine hins.mono ?_
     clear hins
     rintro e w3 ⟨a3, n3, c3, rfl, ho3, hb3, hk3⟩
     have HO3 := Lib.hid ho3
     have HB3 := Lib.hid hb3
     have HK3 := Lib.hid hk3
     clear ho3 hb3 hk3
     go_wp2_with fail
     go_ret
     rw [HPL.out]
     exact ⟨_, _, _, rfl, HO3.out, bgo (HBW2.out.trans (HBN.out.mono (by have := HBB.out; have := HBV2.out.size; omega))) HB3.out (Nat.le_refl _), ((Kept.of_below (bgo HBV2.out HBN.out HBV2.out.size)).weaken (fun _ h => h.elim)).trans HK3.out (fun _ _ h => h)⟩
  ·
   obtain rfl : k = n := by omega
   have HPL : Hid (putL MbT.no x L = L ++ [x]) := by
    have h1 := putL_ins (no := MbT.no) (x := x) (L := L) (k := L.length) (Nat.le_refl _) (fun q hq _ => HLT.out q hq (by have := HN.out; omega)) (fun h => absurd h (by omega))
    show _ = _
    rw [h1]
    simp
   go_wp2_with fail
   refine wp_region_bl 16 (by kernel_rfl) ?_
   refine otks (i := 0) (oi := oF0) (v := (.int .i64 (k : Int))) rfl (by kernel_rfl) (BL.cls wr) rfl (fun w hSw => by go_simp) ?_
   try simp only [Act.put, zA, zB, zC]
   refine otks (i := 1) (oi := oF1) (v := (.slice av k cap)) rfl (by kernel_rfl) (BL.cls wr) rfl (fun w hSw => by go_simp) ?_
   try simp only [Act.put, zA, zB, zC]
   refine otks (i := 2) (oi := oF2) (v := (.int .i64 (k : Int))) rfl (by kernel_rfl) (BL.cls wr) rfl (fun w hSw => by go_simp) ?_
   try simp only [Act.put, zA, zB, zC]
   refine otks (i := 3) (oi := oF3) (v := (.bool false)) rfl (by kernel_rfl) (BL.cls wr) rfl (fun w hSw => by go_simp) ?_
   try simp only [Act.put, zA, zB, zC]
   refine otks (i := 4) (oi := oF4) (v := (.bool false)) rfl (by kernel_rfl) (BL.cls wr) rfl (fun w hSw => by go_simp) ?_
   try simp only [Act.put, zA, zB, zC]
   refine otku (i := 5) (oi := oF5) rfl (by kernel_rfl) (BL.cls wr) rfl ?_
   try simp only [Act.put, zA, zB, zC]
   refine otku (i := 6) (oi := oF6) rfl (by kernel_rfl) (BL.cls wr) rfl ?_
   try simp only [Act.put, zA, zB, zC]
   refine otku (i := 7) (oi := oF7) rfl (by kernel_rfl) (BL.cls wr) rfl ?_
   try simp only [Act.put, zA, zB, zC]
   refine otku (i := 8) (oi := oF8) rfl (by kernel_rfl) (BL.cls wr) rfl ?_
   try simp only [Act.put, zA, zB, zC]
   refine otku (i := 9) (oi := oF9) rfl (by kernel_rfl) (BL.cls wr) rfl ?_
   try simp only [Act.put, zA, zB, zC]
   refine otku (i := 10) (oi := oF10) rfl (by kernel_rfl) (BL.cls wr) rfl ?_
   try simp only [Act.put, zA, zB, zC]
   refine otku (i := 11) (oi := oF11) rfl (by kernel_rfl) (BL.cls wr) rfl ?_
   try simp only [Act.put, zA, zB, zC]
   refine otku (i := 12) (oi := oF12) rfl (by kernel_rfl) (BL.cls wr) rfl ?_
   try simp only [Act.put, zA, zB, zC]
   refine otku (i := 13) (oi := oF13) rfl (by kernel_rfl) (BL.cls wr) rfl ?_
   try simp only [Act.put, zA, zB, zC]
   refine otku (i := 14) (oi := oF14) rfl (by kernel_rfl) (BL.cls wr) rfl ?_
   try simp only [Act.put, zA, zB, zC]
   refine otks (i := 15) (oi := oF15) (v := (.bool false)) rfl (by kernel_rfl) (BL.cls wr) rfl (fun w hSw => by go_simp) ?_
   try simp only [Act.put, zA, zB, zC]
   refine wpAnyU_done (by kernel_rfl) (fun w1 hb1 => ?_) _
   have HBV1 := Lib.hid (bgo HBL.out hb1 HBL.out.size)
   have HX1 := Lib.hid (HX.out.below hb1)
   have HO1 := Lib.hid (HO.out.below HBV1.out)
   have HB1 := Lib.hid hb1
   clear hb1
   go_wp2_with fail
   refine wp_region_bl 16 (by kernel_rfl) ?_
   refine otks (i := 0) (oi := oF16) (v := (.int .i64 (k : Int))) rfl (by kernel_rfl) (BL.cls w1) rfl (fun w hSw => by go_simp) ?_
   try simp only [Act.put, zA, zB, zC]
   refine otks (i := 1) (oi := oF17) (v := (.slice av k cap)) rfl (by kernel_rfl) (BL.cls w1) rfl (fun w hSw => by go_simp) ?_
   try simp only [Act.put, zA, zB, zC]
   refine otks (i := 2) (oi := oF18) (v := (.int .i64 (k : Int))) rfl (by kernel_rfl) (BL.cls w1) rfl (fun w hSw => by go_simp) ?_
   try simp only [Act.put, zA, zB, zC]
   refine otks (i := 3) (oi := oF19) (v := (.bool false)) rfl (by kernel_rfl) (BL.cls w1) rfl (fun w hSw => by go_simp) ?_
   try simp only [Act.put, zA, zB, zC]
   refine otks (i := 4) (oi := oF20) (v := (.bool false)) rfl (by kernel_rfl) (BL.cls w1) rfl (fun w hSw => by go_simp) ?_
   try simp only [Act.put, zA, zB, zC]
   refine otku (i := 5) (oi := oF21) rfl (by kernel_rfl) (BL.cls w1) rfl ?_
   try simp only [Act.put, zA, zB, zC]
   refine otku (i := 6) (oi := oF22) rfl (by kernel_rfl) (BL.cls w1) rfl ?_
   try simp only [Act.put, zA, zB, zC]
   refine otku (i := 7) (oi := oF23) rfl (by kernel_rfl) (BL.cls w1) rfl ?_
   try simp only [Act.put, zA, zB, zC]
   refine otku (i := 8) (oi := oF24) rfl (by kernel_rfl) (BL.cls w1) rfl ?_
   try simp only [Act.put, zA, zB, zC]
   refine otku (i := 9) (oi := oF25) rfl (by kernel_rfl) (BL.cls w1) rfl ?_
   try simp only [Act.put, zA, zB, zC]
   refine otku (i := 10) (oi := oF26) rfl (by kernel_rfl) (BL.cls w1) rfl ?_
   try simp only [Act.put, zA, zB, zC]
   refine otku (i := 11) (oi := oF27) rfl (by kernel_rfl) (BL.cls w1) rfl ?_
   try simp only [Act.put, zA, zB, zC]
   refine otku (i := 12) (oi := oF28) rfl (by kernel_rfl) (BL.cls w1) rfl ?_
   try simp only [Act.put, zA, zB, zC]
   refine otku (i := 13) (oi := oF29) rfl (by kernel_rfl) (BL.cls w1) rfl ?_
   try simp only [Act.put, zA, zB, zC]
   refine otku (i := 14) (oi := oF30) rfl (by kernel_rfl) (BL.cls w1) rfl ?_
   try simp only [Act.put, zA, zB, zC]
   refine otks (i := 15) (oi := oF31) (v := (.bool false)) rfl (by kernel_rfl) (BL.cls w1) rfl (fun w hSw => by go_simp) ?_
   try simp only [Act.put, zA, zB, zC]
   refine wpAnyU_done (by kernel_rfl) (fun w1 hb1 => ?_) _
   have HBV2 := Lib.hid (bgo HBV1.out hb1 HBV1.out.size)
   have HBW2 : Hid (Below base w w1) := HBV2.out.mono HBB.out
   have HX2 := Lib.hid (HX1.out.below hb1)
   have HO2 := Lib.hid (HO.out.below HBV2.out)
   clear hb1
   have HXA : Hid (w1.heap[gx]? = some (.cells #[.int .i64 x.no, .int .i64 x.state, .int .i64 x.need] 33 (0, 0))) := HX2.out
   have hbn : Below w1.heap.size w1 (w1.alloc (.cells #[.int .i64 x.no, .int .i64 x.state, .int .i64 x.need] 33)) := (Below.refl _ _).alloc (Nat.le_refl _) _
   have hins := InsEndM_any (w1.alloc (.cells #[.int .i64 x.no, .int .i64 x.state, .int .i64 x.need] 33)) base av k cap L (.slice (some ⟨w1.heap.size, 0, none⟩) 1 1) x (HO2.out.alloc _) (Rs.one MbT.len w1 x 33) HN.out (by have := HN.out; omega) (by simp; have := HBB.out; have := HBV2.out.size; omega)
   unfold RowsPost at hins
   have HBN := Lib.hid hbn
   clear hbn
   go_wp2_with (first
    | (refine wpList_load_row rfl 33 (.tmp 5) rfl gx rfl 33 #[.int .i64 x.no, .int .i64 x.state, .int .i64 x.need] (0, 0) _ HXA.out Try.underlying33 rfl HSZ.out ?_)
    | fail)
   refine hins.mono ?_
   clear hins
   rintro e w3 ⟨a3, n3, c3, rfl, ho3, hb3, hk3⟩
   have HO3 := Lib.hid ho3
   have HB3 := Lib.hid hb3
   have HK3 := Lib.hid hk3
   clear ho3 hb3 hk3
   go_wp2_with fail
   go_ret
   rw [HPL.out]
   exact ⟨_, _, _, rfl, HO3.out, bgo (HBW2.out.trans (HBN.out.mono (by have := HBB.out; have := HBV2.out.size; omega))) HB3.out (Nat.le_refl _), ((Kept.of_below (bgo HBV2.out HBN.out HBV2.out.size)).weaken (fun _ h => h.elim)).trans HK3.out (fun _ _ h => h)⟩
set_option maxRecDepth 100000 in
set_option maxHeartbeats 1600000 in
theorem putI_any (w : World) (base : Nat) (av : Option Addr) (n cap : Nat) (L : List InT) (x : InT) (h : OwnR InT.vs 12 38 w base (.slice av n cap) L) (hL : L.length ≤ 100000) (hb : base ≤ w.heap.size) :
  Calls Try.prog 62 #[.slice av n cap, .func (.func 48) #[] #[], .agg #[.int .i64 x.no, .int .i64 x.cur, .int .i64 x.mult, .int .i64 x.add, .int .i64 x.set, .int .i64 x.price, .int .i64 x.h0, .int .i64 x.h1, .int .i64 x.h2, .int .i64 x.h3, .int .i64 x.h4, .int .i64 x.h5]] w (RowsPost InT.vs 12 38 w base (fun k => (Value.slice av n cap).ownBlock = some k) (putL InT.no x L)) := by
 obtain ⟨a9, c9, e9, hcap, hm⟩ := h.rs.shape
 simp only [Value.slice.injEq] at e9
 obtain ⟨h1, hn, rfl⟩ := e9
 clear h1
 rw [← hn] at hcap
 have hn1 : n ≤ 100000 := by omega
 have hb0 : Below w.heap.size w (w.alloc (.cells #[.int .i64 x.no, .int .i64 x.cur, .int .i64 x.mult, .int .i64 x.add, .int .i64 x.set, .int .i64 x.price, .int .i64 x.h0, .int .i64 x.h1, .int .i64 x.h2, .int .i64 x.h3, .int .i64 x.h4, .int .i64 x.h5] 38)) := (Below.refl _ _).alloc (Nat.le_refl _) _
 have hx : HT (w.alloc (.cells #[.int .i64 x.no, .int .i64 x.cur, .int .i64 x.mult, .int .i64 x.add, .int .i64 x.set, .int .i64 x.price, .int .i64 x.h0, .int .i64 x.h1, .int .i64 x.h2, .int .i64 x.h3, .int .i64 x.h4, .int .i64 x.h5] 38)) w.heap.size 38 [.int .i64 x.no, .int .i64 x.cur, .int .i64 x.mult, .int .i64 x.add, .int .i64 x.set, .int .i64 x.price, .int .i64 x.h0, .int .i64 x.h1, .int .i64 x.h2, .int .i64 x.h3, .int .i64 x.h4, .int .i64 x.h5] := HT.new
 have HSZ : Hid ((Try.prog.info? 38).map (·.size) = some (#[.int .i64 x.no, .int .i64 x.cur, .int .i64 x.mult, .int .i64 x.add, .int .i64 x.set, .int .i64 x.price, .int .i64 x.h0, .int .i64 x.h1, .int .i64 x.h2, .int .i64 x.h3, .int .i64 x.h4, .int .i64 x.h5] : Array Value).size) := by show _ = _; rw [ins_sz]; rfl
 have HON : Hid ((#[.int .i64 x.no, .int .i64 x.cur, .int .i64 x.mult, .int .i64 x.add, .int .i64 x.set, .int .i64 x.price, .int .i64 x.h0, .int .i64 x.h1, .int .i64 x.h2, .int .i64 x.h3, .int .i64 x.h4, .int .i64 x.h5] : Array Value).all (·.oneCell') = true) := by show _ = true; simp [Value.oneCell']
 have HO := Lib.hid h
 have HN := Lib.hid hn
 have HB0 := Lib.hid hb0
 have HX0 := Lib.hid hx
 have HBB : Hid (base ≤ w.heap.size) := hb
 clear h hn hb0 hx hL hb
 go_enter Try.func62, Try.ntmps62
 go_wp2_with fail
 obtain ⟨gx, hgx⟩ : ∃ g, g = w.heap.size := ⟨_, rfl⟩
 rw [← hgx] at HX0 ⊢
 clear hgx
 go_loopw [7] (fun i wr => ∃ k : Nat, k ≤ n ∧ i = .int .i64 k ∧ Hid (∀ q (h : q < L.length), q < k → L[q].no < x.no) ∧ HT wr gx 38 [.int .i64 x.no, .int .i64 x.cur, .int .i64 x.mult, .int .i64 x.add, .int .i64 x.set, .int .i64 x.price, .int .i64 x.h0, .int .i64 x.h1, .int .i64 x.h2, .int .i64 x.h3, .int .i64 x.h4, .int .i64 x.h5] ∧ Below w.heap.size w wr) (fun i _ => n - (intOf i).toNat)
 case atStart => exact ⟨0, Nat.zero_le _, rfl, fun q hq h => absurd h (by omega), HX0.out, HB0.out⟩
 case round =>
  obtain ⟨k, hk, rfl, HLT, hx0, hbel⟩ := hrel
  have HBL := Lib.hid hbel
  have HX := Lib.hid hx0
  have hk0 : (0 : Int) ≤ k := by omega
  clear hbel hx0
  by_cases hlt : k < n
  ·
   have hkL : k < L.length := by rw [← HN.out]; exact hlt
   obtain ⟨ba, rfl, hba, hbs⟩ := HO.out.some_of (by omega)
   obtain ⟨c, hc⟩ : ∃ c, c = L[k] := ⟨_, rfl⟩
   have HCA : Hid (∀ j v, [.int .i64 c.no, .int .i64 c.cur, .int .i64 c.mult, .int .i64 c.add, .int .i64 c.set, .int .i64 c.price, .int .i64 c.h0, .int .i64 c.h1, .int .i64 c.h2, .int .i64 c.h3, .int .i64 c.h4, .int .i64 c.h5][j]? = some v → wr.cell? ⟨ba, k * 12 + j, none⟩ = some v) := by
    intro j v h
    obtain ⟨b2, o2, e2, _, hca2⟩ := (HO.out.rs.mono HBL.out).at (by omega) (by decide)
    simp only [Option.some.injEq, Addr.mk.injEq, and_true] at e2
    obtain ⟨rfl, rfl⟩ := e2
    have := hca2 k hkL j v (by rw [← hc]; exact h)
    rwa [Nat.zero_add] at this
   have hk1 : (k : Int) < n := by omega
   have HC := Lib.hid hc
   clear hc
   go_wp2_with fail
   by_cases hl : c.no < x.no
   ·
    have HNX : Hid (∀ q (h : q < L.length), q < k + 1 → L[q].no < x.no) := fun q hq hqk => by
     by_cases e : q = k
     ·
      subst e; rw [← HC.out]; exact hl
     ·
      exact HLT.out q hq (by omega)
    have hld : decide (c.no < x.no) = true := decide_eq_true hl
    clear hl
    refine wp_region_bl 16 (by kernel_rfl) ?_
    refine otks (i := 0) (oi := oF0) (v := (.int .i64 (k : Int))) rfl (by kernel_rfl) (BL.cls wr) rfl (fun w hSw => by go_simp) ?_
    try simp only [Act.put, zA, zB, zC]
    refine otks (i := 1) (oi := oF32) (v := (.slice (some ⟨ba, 0, none⟩) n cap)) rfl (by kernel_rfl) (BL.cls wr) rfl (fun w hSw => by go_simp) ?_
    try simp only [Act.put, zA, zB, zC]
    refine otks (i := 2) (oi := oF33) (v := (.int .i64 (n : Int))) rfl (by kernel_rfl) (BL.cls wr) rfl (fun w hSw => by go_simp) ?_
    try simp only [Act.put, zA, zB, zC]
    refine otks (i := 3) (oi := oF3) (v := (.bool true)) rfl (by kernel_rfl) (BL.cls wr) rfl (fun w hSw => by go_simp) ?_
    try simp only [Act.put, zA, zB, zC]
    refine otks (i := 4) (oi := oF4) (v := (.bool true)) rfl (by kernel_rfl) (BL.cls wr) rfl (fun w hSw => by go_simp) ?_
    try simp only [Act.put, zA, zB, zC]
    refine otks (i := 5) (oi := oF34) (v := (.func (.func 48) #[] #[])) rfl (by kernel_rfl) (BL.cls wr) rfl (fun w hSw => by go_simp) ?_
    try simp only [Act.put, zA, zB, zC]
    refine otks (i := 6) (oi := oF35) (v := (.slice (some ⟨ba, 0, none⟩) n cap)) rfl (by kernel_rfl) (BL.cls wr) rfl (fun w hSw => by go_simp) ?_
    try simp only [Act.put, zA, zB, zC]
    refine otks (i := 7) (oi := oF7) (v := (.int .i64 (k : Int))) rfl (by kernel_rfl) (BL.cls wr) rfl (fun w hSw => by go_simp) ?_
    try simp only [Act.put, zA, zB, zC]
    refine otks (i := 8) (oi := oF36) (v := (.pointer (some ⟨ba, k * 12, none⟩))) rfl (by kernel_rfl) (BL.cls wr) rfl (fun w hSw => by go_simp) ?_
    try simp only [Act.put, zA, zB, zC]
    refine otk (i := 9) (oi := oF37) (v := (.agg #[.int .i64 c.no, .int .i64 c.cur, .int .i64 c.mult, .int .i64 c.add, .int .i64 c.set, .int .i64 c.price, .int .i64 c.h0, .int .i64 c.h1, .int .i64 c.h2, .int .i64 c.h3, .int .i64 c.h4, .int .i64 c.h5])) rfl (by kernel_rfl) (BL.cls wr) ?_ ?_
    ·
     refine Or.inl ⟨rfl, fun w hSw => ?_⟩
     exact eff_load_mid 38 (.tmp 16) rfl ba (k * 12) rfl [.int .i64 c.no, .int .i64 c.cur, .int .i64 c.mult, .int .i64 c.add, .int .i64 c.set, .int .i64 c.price, .int .i64 c.h0, .int .i64 c.h1, .int .i64 c.h2, .int .i64 c.h3, .int .i64 c.h4, .int .i64 c.h5] _ (fun j v h => BL.cell hSw (HCA.out j v h)) Try.underlying38 rfl HSZ.out
    try simp only [Act.put, zA, zB, zC]
    refine otk (i := 10) (oi := oF38) (v := (.int .i64 c.no)) rfl (by kernel_rfl) (BL.cls wr) ?_ ?_
    ·
     refine Or.inl ⟨rfl, fun w hSw => ?_⟩
     go_simp
     show Calls _ _ _ _ _
     refine (noI_any _ c.no c.cur c.mult c.add c.set c.price c.h0 c.h1 c.h2 c.h3 c.h4 c.h5).mono ?_
     rintro e w1 ⟨rfl, hb⟩
     exact ⟨rfl, hb⟩
    try simp only [Act.put, zA, zB, zC]
    refine otks (i := 11) (oi := oF39) (v := (.func (.func 48) #[] #[])) rfl (by kernel_rfl) (BL.cls wr) rfl (fun w hSw => by go_simp) ?_
    try simp only [Act.put, zA, zB, zC]
    refine otk (i := 12) (oi := oF40) (v := (.agg #[.int .i64 x.no, .int .i64 x.cur, .int .i64 x.mult, .int .i64 x.add, .int .i64 x.set, .int .i64 x.price, .int .i64 x.h0, .int .i64 x.h1, .int .i64 x.h2, .int .i64 x.h3, .int .i64 x.h4, .int .i64 x.h5])) rfl (by kernel_rfl) (BL.cls wr) ?_ ?_
    ·
     refine Or.inl ⟨rfl, fun w hSw => ?_⟩
     exact eff_load_mid 38 (.tmp 5) rfl gx (0) rfl [.int .i64 x.no, .int .i64 x.cur, .int .i64 x.mult, .int .i64 x.add, .int .i64 x.set, .int .i64 x.price, .int .i64 x.h0, .int .i64 x.h1, .int .i64 x.h2, .int .i64 x.h3, .int .i64 x.h4, .int .i64 x.h5] _ (fun j v h => BL.cell hSw (HX.out.cell (by simpa using h))) Try.underlying38 rfl HSZ.out
    try simp only [Act.put, zA, zB, zC]
    refine otk (i := 13) (oi := oF41) (v := (.int .i64 x.no)) rfl (by kernel_rfl) (BL.cls wr) ?_ ?_
    ·
     refine Or.inl ⟨rfl, fun w hSw => ?_⟩
     go_simp
     show Calls _ _ _ _ _
     refine (noI_any _ x.no x.cur x.mult x.add x.set x.price x.h0 x.h1 x.h2 x.h3 x.h4 x.h5).mono ?_
     rintro e w1 ⟨rfl, hb⟩
     exact ⟨rfl, hb⟩
    try simp only [Act.put, zA, zB, zC]
    refine otks (i := 14) (oi := oF14) (v := (.bool true)) rfl (by kernel_rfl) (BL.cls wr) rfl (fun w hSw => by go_simp) ?_
    try simp only [Act.put, zA, zB, zC]
    refine otks (i := 15) (oi := oF15) (v := (.bool true)) rfl (by kernel_rfl) (BL.cls wr) rfl (fun w hSw => by go_simp) ?_
    try simp only [Act.put, zA, zB, zC]
    refine wpAnyU_done (by kernel_rfl) (fun w1 hb1 => ?_) _
    go_wp2_with fail
    exact ⟨⟨k + 1, by omega, by push_cast; rfl, HNX.out, HX.out.below hb1, bgo HBL.out hb1 HBL.out.size⟩, by simp [intOf]; omega⟩
   ·
    have hld : decide (c.no < x.no) = false := decide_eq_false hl
    refine wp_region_bl 16 (by kernel_rfl) ?_
    refine otks (i := 0) (oi := oF0) (v := (.int .i64 (k : Int))) rfl (by kernel_rfl) (BL.cls wr) rfl (fun w hSw => by go_simp) ?_
    try simp only [Act.put, zA, zB, zC]
    refine otks (i := 1) (oi := oF32) (v := (.slice (some ⟨ba, 0, none⟩) n cap)) rfl (by kernel_rfl) (BL.cls wr) rfl (fun w hSw => by go_simp) ?_
    try simp only [Act.put, zA, zB, zC]
    refine otks (i := 2) (oi := oF33) (v := (.int .i64 (n : Int))) rfl (by kernel_rfl) (BL.cls wr) rfl (fun w hSw => by go_simp) ?_
    try simp only [Act.put, zA, zB, zC]
    refine otks (i := 3) (oi := oF3) (v := (.bool true)) rfl (by kernel_rfl) (BL.cls wr) rfl (fun w hSw => by go_simp) ?_
    try simp only [Act.put, zA, zB, zC]
    refine otks (i := 4) (oi := oF4) (v := (.bool true)) rfl (by kernel_rfl) (BL.cls wr) rfl (fun w hSw => by go_simp) ?_
    try simp only [Act.put, zA, zB, zC]
    refine otks (i := 5) (oi := oF34) (v := (.func (.func 48) #[] #[])) rfl (by kernel_rfl) (BL.cls wr) rfl (fun w hSw => by go_simp) ?_
    try simp only [Act.put, zA, zB, zC]
    refine otks (i := 6) (oi := oF35) (v := (.slice (some ⟨ba, 0, none⟩) n cap)) rfl (by kernel_rfl) (BL.cls wr) rfl (fun w hSw => by go_simp) ?_
    try simp only [Act.put, zA, zB, zC]
    refine otks (i := 7) (oi := oF7) (v := (.int .i64 (k : Int))) rfl (by kernel_rfl) (BL.cls wr) rfl (fun w hSw => by go_simp) ?_
    try simp only [Act.put, zA, zB, zC]
    refine otks (i := 8) (oi := oF36) (v := (.pointer (some ⟨ba, k * 12, none⟩))) rfl (by kernel_rfl) (BL.cls wr) rfl (fun w hSw => by go_simp) ?_
    try simp only [Act.put, zA, zB, zC]
    refine otk (i := 9) (oi := oF37) (v := (.agg #[.int .i64 c.no, .int .i64 c.cur, .int .i64 c.mult, .int .i64 c.add, .int .i64 c.set, .int .i64 c.price, .int .i64 c.h0, .int .i64 c.h1, .int .i64 c.h2, .int .i64 c.h3, .int .i64 c.h4, .int .i64 c.h5])) rfl (by kernel_rfl) (BL.cls wr) ?_ ?_
    ·
     refine Or.inl ⟨rfl, fun w hSw => ?_⟩
     exact eff_load_mid 38 (.tmp 16) rfl ba (k * 12) rfl [.int .i64 c.no, .int .i64 c.cur, .int .i64 c.mult, .int .i64 c.add, .int .i64 c.set, .int .i64 c.price, .int .i64 c.h0, .int .i64 c.h1, .int .i64 c.h2, .int .i64 c.h3, .int .i64 c.h4, .int .i64 c.h5] _ (fun j v h => BL.cell hSw (HCA.out j v h)) Try.underlying38 rfl HSZ.out
    try simp only [Act.put, zA, zB, zC]
    refine otk (i := 10) (oi := oF38) (v := (.int .i64 c.no)) rfl (by kernel_rfl) (BL.cls wr) ?_ ?_
    ·
     refine Or.inl ⟨rfl, fun w hSw => ?_⟩
     go_simp
     show Calls _ _ _ _ _
     refine (noI_any _ c.no c.cur c.mult c.add c.set c.price c.h0 c.h1 c.h2 c.h3 c.h4 c.h5).mono ?_
     rintro e w1 ⟨rfl, hb⟩
     exact ⟨rfl, hb⟩
    try simp only [Act.put, zA, zB, zC]
    refine otks (i := 11) (oi := oF39) (v := (.func (.func 48) #[] #[])) rfl (by kernel_rfl) (BL.cls wr) rfl (fun w hSw => by go_simp) ?_
    try simp only [Act.put, zA, zB, zC]
    refine otk (i := 12) (oi := oF40) (v := (.agg #[.int .i64 x.no, .int .i64 x.cur, .int .i64 x.mult, .int .i64 x.add, .int .i64 x.set, .int .i64 x.price, .int .i64 x.h0, .int .i64 x.h1, .int .i64 x.h2, .int .i64 x.h3, .int .i64 x.h4, .int .i64 x.h5])) rfl (by kernel_rfl) (BL.cls wr) ?_ ?_
    ·
     refine Or.inl ⟨rfl, fun w hSw => ?_⟩
     exact eff_load_mid 38 (.tmp 5) rfl gx (0) rfl [.int .i64 x.no, .int .i64 x.cur, .int .i64 x.mult, .int .i64 x.add, .int .i64 x.set, .int .i64 x.price, .int .i64 x.h0, .int .i64 x.h1, .int .i64 x.h2, .int .i64 x.h3, .int .i64 x.h4, .int .i64 x.h5] _ (fun j v h => BL.cell hSw (HX.out.cell (by simpa using h))) Try.underlying38 rfl HSZ.out
    try simp only [Act.put, zA, zB, zC]
    refine otk (i := 13) (oi := oF41) (v := (.int .i64 x.no)) rfl (by kernel_rfl) (BL.cls wr) ?_ ?_
    ·
     refine Or.inl ⟨rfl, fun w hSw => ?_⟩
     go_simp
     show Calls _ _ _ _ _
     refine (noI_any _ x.no x.cur x.mult x.add x.set x.price x.h0 x.h1 x.h2 x.h3 x.h4 x.h5).mono ?_
     rintro e w1 ⟨rfl, hb⟩
     exact ⟨rfl, hb⟩
    try simp only [Act.put, zA, zB, zC]
    refine otks (i := 14) (oi := oF14) (v := (.bool false)) rfl (by kernel_rfl) (BL.cls wr) rfl (fun w hSw => by go_simp) ?_
    try simp only [Act.put, zA, zB, zC]
    refine otks (i := 15) (oi := oF15) (v := (.bool false)) rfl (by kernel_rfl) (BL.cls wr) rfl (fun w hSw => by go_simp) ?_
    try simp only [Act.put, zA, zB, zC]
    refine wpAnyU_done (by kernel_rfl) (fun w1 hb1 => ?_) _
    have HBV1 := Lib.hid (bgo HBL.out hb1 HBL.out.size)
    have HX1 := Lib.hid (HX.out.below hb1)
    have HO1 := Lib.hid (HO.out.below HBV1.out)
    have HB1 := Lib.hid hb1
    have HCA1 : Hid (∀ j v, [.int .i64 c.no, .int .i64 c.cur, .int .i64 c.mult, .int .i64 c.add, .int .i64 c.set, .int .i64 c.price, .int .i64 c.h0, .int .i64 c.h1, .int .i64 c.h2, .int .i64 c.h3, .int .i64 c.h4, .int .i64 c.h5][j]? = some v → w1.cell? ⟨ba, k * 12 + j, none⟩ = some v) := fun j v h => BL.cell hb1 (HCA.out j v h)
    clear hb1
    go_wp2_with fail
    by_cases he : c.no = x.no
    ·
     have HPL := Lib.hid (putL_set (no := InT.no) hkL HLT.out (by rw [← HC.out]; exact he))
     have hed : (c.no == x.no) = true := by simpa using he
     clear he
     refine wp_region_bl 16 (by kernel_rfl) ?_
     refine otks (i := 0) (oi := oF16) (v := (.int .i64 (k : Int))) rfl (by kernel_rfl) (BL.cls w1) rfl (fun w hSw => by go_simp) ?_
     try simp only [Act.put, zA, zB, zC]
     refine otks (i := 1) (oi := oF42) (v := (.slice (some ⟨ba, 0, none⟩) n cap)) rfl (by kernel_rfl) (BL.cls w1) rfl (fun w hSw => by go_simp) ?_
     try simp only [Act.put, zA, zB, zC]
     refine otks (i := 2) (oi := oF43) (v := (.int .i64 (n : Int))) rfl (by kernel_rfl) (BL.cls w1) rfl (fun w hSw => by go_simp) ?_
     try simp only [Act.put, zA, zB, zC]
     refine otks (i := 3) (oi := oF19) (v := (.bool true)) rfl (by kernel_rfl) (BL.cls w1) rfl (fun w hSw => by go_simp) ?_
     try simp only [Act.put, zA, zB, zC]
     refine otks (i := 4) (oi := oF20) (v := (.bool true)) rfl (by kernel_rfl) (BL.cls w1) rfl (fun w hSw => by go_simp) ?_
     try simp only [Act.put, zA, zB, zC]
     refine otks (i := 5) (oi := oF44) (v := (.func (.func 48) #[] #[])) rfl (by kernel_rfl) (BL.cls w1) rfl (fun w hSw => by go_simp) ?_
     try simp only [Act.put, zA, zB, zC]
     refine otks (i := 6) (oi := oF45) (v := (.slice (some ⟨ba, 0, none⟩) n cap)) rfl (by kernel_rfl) (BL.cls w1) rfl (fun w hSw => by go_simp) ?_
     try simp only [Act.put, zA, zB, zC]
     refine otks (i := 7) (oi := oF23) (v := (.int .i64 (k : Int))) rfl (by kernel_rfl) (BL.cls w1) rfl (fun w hSw => by go_simp) ?_
     try simp only [Act.put, zA, zB, zC]
     refine otks (i := 8) (oi := oF46) (v := (.pointer (some ⟨ba, k * 12, none⟩))) rfl (by kernel_rfl) (BL.cls w1) rfl (fun w hSw => by go_simp) ?_
     try simp only [Act.put, zA, zB, zC]
     refine otk (i := 9) (oi := oF47) (v := (.agg #[.int .i64 c.no, .int .i64 c.cur, .int .i64 c.mult, .int .i64 c.add, .int .i64 c.set, .int .i64 c.price, .int .i64 c.h0, .int .i64 c.h1, .int .i64 c.h2, .int .i64 c.h3, .int .i64 c.h4, .int .i64 c.h5])) rfl (by kernel_rfl) (BL.cls w1) ?_ ?_
     ·
      refine Or.inl ⟨rfl, fun w hSw => ?_⟩
      exact eff_load_mid 38 (.tmp 34) rfl ba (k * 12) rfl [.int .i64 c.no, .int .i64 c.cur, .int .i64 c.mult, .int .i64 c.add, .int .i64 c.set, .int .i64 c.price, .int .i64 c.h0, .int .i64 c.h1, .int .i64 c.h2, .int .i64 c.h3, .int .i64 c.h4, .int .i64 c.h5] _ (fun j v h => BL.cell hSw (HCA1.out j v h)) Try.underlying38 rfl HSZ.out
     try simp only [Act.put, zA, zB, zC]
     refine otk (i := 10) (oi := oF48) (v := (.int .i64 c.no)) rfl (by kernel_rfl) (BL.cls w1) ?_ ?_
     ·
      refine Or.inl ⟨rfl, fun w hSw => ?_⟩
      go_simp
      show Calls _ _ _ _ _
      refine (noI_any _ c.no c.cur c.mult c.add c.set c.price c.h0 c.h1 c.h2 c.h3 c.h4 c.h5).mono ?_
      rintro e w1 ⟨rfl, hb⟩
      exact ⟨rfl, hb⟩
     try simp only [Act.put, zA, zB, zC]
     refine otks (i := 11) (oi := oF49) (v := (.func (.func 48) #[] #[])) rfl (by kernel_rfl) (BL.cls w1) rfl (fun w hSw => by go_simp) ?_
     try simp only [Act.put, zA, zB, zC]
     refine otk (i := 12) (oi := oF50) (v := (.agg #[.int .i64 x.no, .int .i64 x.cur, .int .i64 x.mult, .int .i64 x.add, .int .i64 x.set, .int .i64 x.price, .int .i64 x.h0, .int .i64 x.h1, .int .i64 x.h2, .int .i64 x.h3, .int .i64 x.h4, .int .i64 x.h5])) rfl (by kernel_rfl) (BL.cls w1) ?_ ?_
     ·
      refine Or.inl ⟨rfl, fun w hSw => ?_⟩
      exact eff_load_mid 38 (.tmp 5) rfl gx (0) rfl [.int .i64 x.no, .int .i64 x.cur, .int .i64 x.mult, .int .i64 x.add, .int .i64 x.set, .int .i64 x.price, .int .i64 x.h0, .int .i64 x.h1, .int .i64 x.h2, .int .i64 x.h3, .int .i64 x.h4, .int .i64 x.h5] _ (fun j v h => BL.cell hSw (HX1.out.cell (by simpa using h))) Try.underlying38 rfl HSZ.out
     try simp only [Act.put, zA, zB, zC]
     refine otk (i := 13) (oi := oF51) (v := (.int .i64 x.no)) rfl (by kernel_rfl) (BL.cls w1) ?_ ?_
     ·
      refine Or.inl ⟨rfl, fun w hSw => ?_⟩
      go_simp
      show Calls _ _ _ _ _
      refine (noI_any _ x.no x.cur x.mult x.add x.set x.price x.h0 x.h1 x.h2 x.h3 x.h4 x.h5).mono ?_
      rintro e w1 ⟨rfl, hb⟩
      exact ⟨rfl, hb⟩
     try simp only [Act.put, zA, zB, zC]
     refine otks (i := 14) (oi := oF30) (v := (.bool true)) rfl (by kernel_rfl) (BL.cls w1) rfl (fun w hSw => by go_simp) ?_
     try simp only [Act.put, zA, zB, zC]
     refine otks (i := 15) (oi := oF31) (v := (.bool true)) rfl (by kernel_rfl) (BL.cls w1) rfl (fun w hSw => by go_simp) ?_
     try simp only [Act.put, zA, zB, zC]
     refine wpAnyU_done (by kernel_rfl) (fun w1 hb1 => ?_) _
     have HBV2 := Lib.hid (bgo HBV1.out hb1 HBV1.out.size)
     have HBW2 : Hid (Below base w w1) := HBV2.out.mono HBB.out
     have HX2 := Lib.hid (HX1.out.below hb1)
     have HO2 := Lib.hid (HO.out.below HBV2.out)
     clear hb1
     have hst := HO2.out.setRow1 (i := k) hlt x
     have HTH : Hid (w1.there ba (k * 12) 12) := hst.2.2.2
     have HXA : Hid (w1.heap[gx]? = some (.cells #[.int .i64 x.no, .int .i64 x.cur, .int .i64 x.mult, .int .i64 x.add, .int .i64 x.set, .int .i64 x.price, .int .i64 x.h0, .int .i64 x.h1, .int .i64 x.h2, .int .i64 x.h3, .int .i64 x.h4, .int .i64 x.h5] 38 (0, 0))) := HX2.out
     have HFIN := Lib.hid hst
     clear hst
     go_wp2_with (first
      | (refine wpList_load_row rfl 38 (.tmp 5) rfl gx rfl 38 #[.int .i64 x.no, .int .i64 x.cur, .int .i64 x.mult, .int .i64 x.add, .int .i64 x.set, .int .i64 x.price, .int .i64 x.h0, .int .i64 x.h1, .int .i64 x.h2, .int .i64 x.h3, .int .i64 x.h4, .int .i64 x.h5] (0, 0) _ HXA.out Try.underlying38 rfl HSZ.out ?_)
      | (refine wpList_store_mid rfl 38 (.tmp 45) (.tmp 44) rfl ba (k * 12) #[.int .i64 x.no, .int .i64 x.cur, .int .i64 x.mult, .int .i64 x.add, .int .i64 x.set, .int .i64 x.price, .int .i64 x.h0, .int .i64 x.h1, .int .i64 x.h2, .int .i64 x.h3, .int .i64 x.h4, .int .i64 x.h5] rfl rfl HTH.out HSZ.out HON.out ?_)
      | fail)
     go_ret
     rw [HPL.out]
     exact ⟨_, _, _, rfl, HFIN.out.1, bgo HBW2.out HFIN.out.2.1 (Nat.le_refl _), ((Kept.of_below HBV2.out).weaken (fun _ h => h.elim)).trans (HFIN.out.2.2.1.weaken (fun j (h : j = ba) => by subst h; rfl)) (fun _ _ h => h)⟩
    ·
     have HPL := Lib.hid (putL_ins (no := InT.no) (k := k) (by have := HN.out; omega) HLT.out (fun h => by rw [← HC.out]; omega))
     have hed : (c.no == x.no) = false := by simpa using he
     clear he
     refine wp_region_bl 16 (by kernel_rfl) ?_
     refine otks (i := 0) (oi := oF16) (v := (.int .i64 (k : Int))) rfl (by kernel_rfl) (BL.cls w1) rfl (fun w hSw => by go_simp) ?_
     try simp only [Act.put, zA, zB, zC]
     refine otks (i := 1) (oi := oF42) (v := (.slice (some ⟨ba, 0, none⟩) n cap)) rfl (by kernel_rfl) (BL.cls w1) rfl (fun w hSw => by go_simp) ?_
     try simp only [Act.put, zA, zB, zC]
     refine otks (i := 2) (oi := oF43) (v := (.int .i64 (n : Int))) rfl (by kernel_rfl) (BL.cls w1) rfl (fun w hSw => by go_simp) ?_
     try simp only [Act.put, zA, zB, zC]
     refine otks (i := 3) (oi := oF19) (v := (.bool true)) rfl (by kernel_rfl) (BL.cls w1) rfl (fun w hSw => by go_simp) ?_
     try simp only [Act.put, zA, zB, zC]
     refine otks (i := 4) (oi := oF20) (v := (.bool true)) rfl (by kernel_rfl) (BL.cls w1) rfl (fun w hSw => by go_simp) ?_
     try simp only [Act.put, zA, zB, zC]
     refine otks (i := 5) (oi := oF44) (v := (.func (.func 48) #[] #[])) rfl (by kernel_rfl) (BL.cls w1) rfl (fun w hSw => by go_simp) ?_
     try simp only [Act.put, zA, zB, zC]
     refine otks (i := 6) (oi := oF45) (v := (.slice (some ⟨ba, 0, none⟩) n cap)) rfl (by kernel_rfl) (BL.cls w1) rfl (fun w hSw => by go_simp) ?_
     try simp only [Act.put, zA, zB, zC]
     refine otks (i := 7) (oi := oF23) (v := (.int .i64 (k : Int))) rfl (by kernel_rfl) (BL.cls w1) rfl (fun w hSw => by go_simp) ?_
     try simp only [Act.put, zA, zB, zC]
     refine otks (i := 8) (oi := oF46) (v := (.pointer (some ⟨ba, k * 12, none⟩))) rfl (by kernel_rfl) (BL.cls w1) rfl (fun w hSw => by go_simp) ?_
     try simp only [Act.put, zA, zB, zC]
     refine otk (i := 9) (oi := oF47) (v := (.agg #[.int .i64 c.no, .int .i64 c.cur, .int .i64 c.mult, .int .i64 c.add, .int .i64 c.set, .int .i64 c.price, .int .i64 c.h0, .int .i64 c.h1, .int .i64 c.h2, .int .i64 c.h3, .int .i64 c.h4, .int .i64 c.h5])) rfl (by kernel_rfl) (BL.cls w1) ?_ ?_
     ·
      refine Or.inl ⟨rfl, fun w hSw => ?_⟩
      exact eff_load_mid 38 (.tmp 34) rfl ba (k * 12) rfl [.int .i64 c.no, .int .i64 c.cur, .int .i64 c.mult, .int .i64 c.add, .int .i64 c.set, .int .i64 c.price, .int .i64 c.h0, .int .i64 c.h1, .int .i64 c.h2, .int .i64 c.h3, .int .i64 c.h4, .int .i64 c.h5] _ (fun j v h => BL.cell hSw (HCA1.out j v h)) Try.underlying38 rfl HSZ.out
     try simp only [Act.put, zA, zB, zC]
     refine otk (i := 10) (oi := oF48) (v := (.int .i64 c.no)) rfl (by kernel_rfl) (BL.cls w1) ?_ ?_
     ·
      refine Or.inl ⟨rfl, fun w hSw => ?_⟩
      go_simp
      show Calls _ _ _ _ _
      refine (noI_any _ c.no c.cur c.mult c.add c.set c.price c.h0 c.h1 c.h2 c.h3 c.h4 c.h5).mono ?_
      rintro e w1 ⟨rfl, hb⟩
      exact ⟨rfl, hb⟩
     try simp only [Act.put, zA, zB, zC]
     refine otks (i := 11) (oi := oF49) (v := (.func (.func 48) #[] #[])) rfl (by kernel_rfl) (BL.cls w1) rfl (fun w hSw => by go_simp) ?_
     try simp only [Act.put, zA, zB, zC]
     refine otk (i := 12) (oi := oF50) (v := (.agg #[.int .i64 x.no, .int .i64 x.cur, .int .i64 x.mult, .int .i64 x.add, .int .i64 x.set, .int .i64 x.price, .int .i64 x.h0, .int .i64 x.h1, .int .i64 x.h2, .int .i64 x.h3, .int .i64 x.h4, .int .i64 x.h5])) rfl (by kernel_rfl) (BL.cls w1) ?_ ?_
     ·
      refine Or.inl ⟨rfl, fun w hSw => ?_⟩
      exact eff_load_mid 38 (.tmp 5) rfl gx (0) rfl [.int .i64 x.no, .int .i64 x.cur, .int .i64 x.mult, .int .i64 x.add, .int .i64 x.set, .int .i64 x.price, .int .i64 x.h0, .int .i64 x.h1, .int .i64 x.h2, .int .i64 x.h3, .int .i64 x.h4, .int .i64 x.h5] _ (fun j v h => BL.cell hSw (HX1.out.cell (by simpa using h))) Try.underlying38 rfl HSZ.out
     try simp only [Act.put, zA, zB, zC]
     refine otk (i := 13) (oi := oF51) (v := (.int .i64 x.no)) rfl (by kernel_rfl) (BL.cls w1) ?_ ?_
     ·
      refine Or.inl ⟨rfl, fun w hSw => ?_⟩
      go_simp
      show Calls _ _ _ _ _
      refine (noI_any _ x.no x.cur x.mult x.add x.set x.price x.h0 x.h1 x.h2 x.h3 x.h4 x.h5).mono ?_
      rintro e w1 ⟨rfl, hb⟩
      exact ⟨rfl, hb⟩
     try simp only [Act.put, zA, zB, zC]
     refine otks (i := 14) (oi := oF30) (v := (.bool false)) rfl (by kernel_rfl) (BL.cls w1) rfl (fun w hSw => by go_simp) ?_
     try simp only [Act.put, zA, zB, zC]
     refine otks (i := 15) (oi := oF31) (v := (.bool false)) rfl (by kernel_rfl) (BL.cls w1) rfl (fun w hSw => by go_simp) ?_
     try simp only [Act.put, zA, zB, zC]
     refine wpAnyU_done (by kernel_rfl) (fun w1 hb1 => ?_) _
     have HBV2 := Lib.hid (bgo HBV1.out hb1 HBV1.out.size)
     have HBW2 : Hid (Below base w w1) := HBV2.out.mono HBB.out
     have HX2 := Lib.hid (HX1.out.below hb1)
     have HO2 := Lib.hid (HO.out.below HBV2.out)
     clear hb1
     have HXA : Hid (w1.heap[gx]? = some (.cells #[.int .i64 x.no, .int .i64 x.cur, .int .i64 x.mult, .int .i64 x.add, .int .i64 x.set, .int .i64 x.price, .int .i64 x.h0, .int .i64 x.h1, .int .i64 x.h2, .int .i64 x.h3, .int .i64 x.h4, .int .i64 x.h5] 38 (0, 0))) := HX2.out
     have hbn : Below w1.heap.size w1 (w1.alloc (.cells #[.int .i64 x.no, .int .i64 x.cur, .int .i64 x.mult, .int .i64 x.add, .int .i64 x.set, .int .i64 x.price, .int .i64 x.h0, .int .i64 x.h1, .int .i64 x.h2, .int .i64 x.h3, .int .i64 x.h4, .int .i64 x.h5] 38)) := (Below.refl _ _).alloc (Nat.le_refl _) _
     have hins := ins_insert (x := x) (HO2.out.alloc (.cells #[.int .i64 x.no, .int .i64 x.cur, .int .i64 x.mult, .int .i64 x.add, .int .i64 x.set, .int .i64 x.price, .int .i64 x.h0, .int .i64 x.h1, .int .i64 x.h2, .int .i64 x.h3, .int .i64 x.h4, .int .i64 x.h5] 38)) (by have := HN.out; omega) hlt (by simp; have := HBB.out; have := HBV2.out.size; omega) (HT.new (w := w1) (t := 38) (C := [.int .i64 x.no, .int .i64 x.cur, .int .i64 x.mult, .int .i64 x.add, .int .i64 x.set, .int .i64 x.price, .int .i64 x.h0, .int .i64 x.h1, .int .i64 x.h2, .int .i64 x.h3, .int .i64 x.h4, .int .i64 x.h5])) (fun j hj => by have := HO2.out.lt j hj; omega)
     have HBN := Lib.hid hbn
     clear hbn
     go_wp2_with (first
      | (refine wpList_load_row rfl 38 (.tmp 5) rfl gx rfl 38 #[.int .i64 x.no, .int .i64 x.cur, .int .i64 x.mult, .int .i64 x.add, .int .i64 x.set, .int .i64 x.price, .int .i64 x.h0, .int .i64 x.h1, .int .i64 x.h2, .int .i64 x.h3, .int .i64 x.h4, .int .i64 x.h5] (0, 0) _ HXA.out Try.underlying38 rfl HSZ.out ?_)
      | fail)
     refine hins.mono ?_
     clear hins
     rintro e w3 ⟨a3, n3, c3, rfl, ho3, hb3, hk3⟩
     have HO3 := Lib.hid ho3
     have HB3 := Lib.hid hb3
     have HK3 := Lib.hid hk3
     clear ho3 hb3 hk3
     go_wp2_with fail
     go_ret
     rw [HPL.out]
     exact ⟨_, _, _, rfl, HO3.out, bgo (HBW2.out.trans (HBN.out.mono (by have := HBB.out; have := HBV2.out.size; omega))) HB3.out (Nat.le_refl _), ((Kept.of_below (bgo HBV2.out HBN.out HBV2.out.size)).weaken (fun _ h => h.elim)).trans HK3.out (fun _ _ h => h)⟩
  ·
   obtain rfl : k = n := by omega
   have HPL : Hid (putL InT.no x L = L ++ [x]) := by
    have h1 := putL_ins (no := InT.no) (x := x) (L := L) (k := L.length) (Nat.le_refl _) (fun q hq _ => HLT.out q hq (by have := HN.out; omega)) (fun h => absurd h (by omega))
    show _ = _
    rw [h1]
    simp
   go_wp2_with fail
   refine wp_region_bl 16 (by kernel_rfl) ?_
   refine otks (i := 0) (oi := oF0) (v := (.int .i64 (k : Int))) rfl (by kernel_rfl) (BL.cls wr) rfl (fun w hSw => by go_simp) ?_
   try simp only [Act.put, zA, zB, zC]
   refine otks (i := 1) (oi := oF32) (v := (.slice av k cap)) rfl (by kernel_rfl) (BL.cls wr) rfl (fun w hSw => by go_simp) ?_
   try simp only [Act.put, zA, zB, zC]
   refine otks (i := 2) (oi := oF33) (v := (.int .i64 (k : Int))) rfl (by kernel_rfl) (BL.cls wr) rfl (fun w hSw => by go_simp) ?_
   try simp only [Act.put, zA, zB, zC]
   refine otks (i := 3) (oi := oF3) (v := (.bool false)) rfl (by kernel_rfl) (BL.cls wr) rfl (fun w hSw => by go_simp) ?_
   try simp only [Act.put, zA, zB, zC]
   refine otks (i := 4) (oi := oF4) (v := (.bool false)) rfl (by kernel_rfl) (BL.cls wr) rfl (fun w hSw => by go_simp) ?_
   try simp only [Act.put, zA, zB, zC]
   refine otku (i := 5) (oi := oF34) rfl (by kernel_rfl) (BL.cls wr) rfl ?_
   try simp only [Act.put, zA, zB, zC]
   refine otku (i := 6) (oi := oF35) rfl (by kernel_rfl) (BL.cls wr) rfl ?_
   try simp only [Act.put, zA, zB, zC]
   refine otku (i := 7) (oi := oF7) rfl (by kernel_rfl) (BL.cls wr) rfl ?_
   try simp only [Act.put, zA, zB, zC]
   refine otku (i := 8) (oi := oF36) rfl (by kernel_rfl) (BL.cls wr) rfl ?_
   try simp only [Act.put, zA, zB, zC]
   refine otku (i := 9) (oi := oF37) rfl (by kernel_rfl) (BL.cls wr) rfl ?_
   try simp only [Act.put, zA, zB, zC]
   refine otku (i := 10) (oi := oF38) rfl (by kernel_rfl) (BL.cls wr) rfl ?_
   try simp only [Act.put, zA, zB, zC]
   refine otku (i := 11) (oi := oF39) rfl (by kernel_rfl) (BL.cls wr) rfl ?_
   try simp only [Act.put, zA, zB, zC]
   refine otku (i := 12) (oi := oF40) rfl (by kernel_rfl) (BL.cls wr) rfl ?_
   try simp only [Act.put, zA, zB, zC]
   refine otku (i := 13) (oi := oF41) rfl (by kernel_rfl) (BL.cls wr) rfl ?_
   try simp only [Act.put, zA, zB, zC]
   refine otku (i := 14) (oi := oF14) rfl (by kernel_rfl) (BL.cls wr) rfl ?_
   try simp only [Act.put, zA, zB, zC]
   refine otks (i := 15) (oi := oF15) (v := (.bool false)) rfl (by kernel_rfl) (BL.cls wr) rfl (fun w hSw => by go_simp) ?_
   try simp only [Act.put, zA, zB, zC]
   refine wpAnyU_done (by kernel_rfl) (fun w1 hb1 => ?_) _
   have HBV1 := Lib.hid (bgo HBL.out hb1 HBL.out.size)
   have HX1 := Lib.hid (HX.out.below hb1)
   have HO1 := Lib.hid (HO.out.below HBV1.out)
   have HB1 := Lib.hid hb1
   clear hb1
   go_wp2_with fail
   refine wp_region_bl 16 (by kernel_rfl) ?_
   refine otks (i := 0) (oi := oF16) (v := (.int .i64 (k : Int))) rfl (by kernel_rfl) (BL.cls w1) rfl (fun w hSw => by go_simp) ?_
   try simp only [Act.put, zA, zB, zC]
   refine otks (i := 1) (oi := oF42) (v := (.slice av k cap)) rfl (by kernel_rfl) (BL.cls w1) rfl (fun w hSw => by go_simp) ?_
   try simp only [Act.put, zA, zB, zC]
   refine otks (i := 2) (oi := oF43) (v := (.int .i64 (k : Int))) rfl (by kernel_rfl) (BL.cls w1) rfl (fun w hSw => by go_simp) ?_
   try simp only [Act.put, zA, zB, zC]
   refine otks (i := 3) (oi := oF19) (v := (.bool false)) rfl (by kernel_rfl) (BL.cls w1) rfl (fun w hSw => by go_simp) ?_
   try simp only [Act.put, zA, zB, zC]
   refine otks (i := 4) (oi := oF20) (v := (.bool false)) rfl (by kernel_rfl) (BL.cls w1) rfl (fun w hSw => by go_simp) ?_
   try simp only [Act.put, zA, zB, zC]
   refine otku (i := 5) (oi := oF44) rfl (by kernel_rfl) (BL.cls w1) rfl ?_
   try simp only [Act.put, zA, zB, zC]
   refine otku (i := 6) (oi := oF45) rfl (by kernel_rfl) (BL.cls w1) rfl ?_
   try simp only [Act.put, zA, zB, zC]
   refine otku (i := 7) (oi := oF23) rfl (by kernel_rfl) (BL.cls w1) rfl ?_
   try simp only [Act.put, zA, zB, zC]
   refine otku (i := 8) (oi := oF46) rfl (by kernel_rfl) (BL.cls w1) rfl ?_
   try simp only [Act.put, zA, zB, zC]
   refine otku (i := 9) (oi := oF47) rfl (by kernel_rfl) (BL.cls w1) rfl ?_
   try simp only [Act.put, zA, zB, zC]
   refine otku (i := 10) (oi := oF48) rfl (by kernel_rfl) (BL.cls w1) rfl ?_
   try simp only [Act.put, zA, zB, zC]
   refine otku (i := 11) (oi := oF49) rfl (by kernel_rfl) (BL.cls w1) rfl ?_
   try simp only [Act.put, zA, zB, zC]
   refine otku (i := 12) (oi := oF50) rfl (by kernel_rfl) (BL.cls w1) rfl ?_
   try simp only [Act.put, zA, zB, zC]
   refine otku (i := 13) (oi := oF51) rfl (by kernel_rfl) (BL.cls w1) rfl ?_
   try simp only [Act.put, zA, zB, zC]
   refine otku (i := 14) (oi := oF30) rfl (by kernel_rfl) (BL.cls w1) rfl ?_
   try simp only [Act.put, zA, zB, zC]
   refine otks (i := 15) (oi := oF31) (v := (.bool false)) rfl (by kernel_rfl) (BL.cls w1) rfl (fun w hSw => by go_simp) ?_
   try simp only [Act.put, zA, zB, zC]
   refine wpAnyU_done (by kernel_rfl) (fun w1 hb1 => ?_) _
   have HBV2 := Lib.hid (bgo HBV1.out hb1 HBV1.out.size)
   have HBW2 : Hid (Below base w w1) := HBV2.out.mono HBB.out
   have HX2 := Lib.hid (HX1.out.below hb1)
   have HO2 := Lib.hid (HO.out.below HBV2.out)
   clear hb1
   have HXA : Hid (w1.heap[gx]? = some (.cells #[.int .i64 x.no, .int .i64 x.cur, .int .i64 x.mult, .int .i64 x.add, .int .i64 x.set, .int .i64 x.price, .int .i64 x.h0, .int .i64 x.h1, .int .i64 x.h2, .int .i64 x.h3, .int .i64 x.h4, .int .i64 x.h5] 38 (0, 0))) := HX2.out
   have hbn : Below w1.heap.size w1 (w1.alloc (.cells #[.int .i64 x.no, .int .i64 x.cur, .int .i64 x.mult, .int .i64 x.add, .int .i64 x.set, .int .i64 x.price, .int .i64 x.h0, .int .i64 x.h1, .int .i64 x.h2, .int .i64 x.h3, .int .i64 x.h4, .int .i64 x.h5] 38)) := (Below.refl _ _).alloc (Nat.le_refl _) _
   have hins := InsEndI_any (w1.alloc (.cells #[.int .i64 x.no, .int .i64 x.cur, .int .i64 x.mult, .int .i64 x.add, .int .i64 x.set, .int .i64 x.price, .int .i64 x.h0, .int .i64 x.h1, .int .i64 x.h2, .int .i64 x.h3, .int .i64 x.h4, .int .i64 x.h5] 38)) base av k cap L (.slice (some ⟨w1.heap.size, 0, none⟩) 1 1) x (HO2.out.alloc _) (Rs.one InT.len w1 x 38) HN.out (by have := HN.out; omega) (by simp; have := HBB.out; have := HBV2.out.size; omega)
   unfold RowsPost at hins
   have HBN := Lib.hid hbn
   clear hbn
   go_wp2_with (first
    | (refine wpList_load_row rfl 38 (.tmp 5) rfl gx rfl 38 #[.int .i64 x.no, .int .i64 x.cur, .int .i64 x.mult, .int .i64 x.add, .int .i64 x.set, .int .i64 x.price, .int .i64 x.h0, .int .i64 x.h1, .int .i64 x.h2, .int .i64 x.h3, .int .i64 x.h4, .int .i64 x.h5] (0, 0) _ HXA.out Try.underlying38 rfl HSZ.out ?_)
    | fail)
   refine hins.mono ?_
   clear hins
   rintro e w3 ⟨a3, n3, c3, rfl, ho3, hb3, hk3⟩
   have HO3 := Lib.hid ho3
   have HB3 := Lib.hid hb3
   have HK3 := Lib.hid hk3
   clear ho3 hb3 hk3
   go_wp2_with fail
   go_ret
   rw [HPL.out]
   exact ⟨_, _, _, rfl, HO3.out, bgo (HBW2.out.trans (HBN.out.mono (by have := HBB.out; have := HBV2.out.size; omega))) HB3.out (Nat.le_refl _), ((Kept.of_below (bgo HBV2.out HBN.out HBV2.out.size)).weaken (fun _ h => h.elim)).trans HK3.out (fun _ _ h => h)⟩
set_option maxRecDepth 100000 in
set_option maxHeartbeats 1600000 in
theorem putA_any (w : World) (base : Nat) (av : Option Addr) (n cap : Nat) (L : List AsT) (x : AsT) (h : OwnR AsT.vs 4 42 w base (.slice av n cap) L) (hL : L.length ≤ 100000) (hb : base ≤ w.heap.size) :
  Calls Try.prog 63 #[.slice av n cap, .func (.func 51) #[] #[], .agg #[.int .i64 x.no, .int .i64 x.cur, .int .i64 x.price, .int .i64 x.cut]] w (RowsPost AsT.vs 4 42 w base (fun k => (Value.slice av n cap).ownBlock = some k) (putL AsT.no x L)) := by
 obtain ⟨a9, c9, e9, hcap, hm⟩ := h.rs.shape
 simp only [Value.slice.injEq] at e9
 obtain ⟨h1, hn, rfl⟩ := e9
 clear h1
 rw [← hn] at hcap
 have hn1 : n ≤ 100000 := by omega
 have hb0 : Below w.heap.size w (w.alloc (.cells #[.int .i64 x.no, .int .i64 x.cur, .int .i64 x.price, .int .i64 x.cut] 42)) := (Below.refl _ _).alloc (Nat.le_refl _) _
 have hx : HT (w.alloc (.cells #[.int .i64 x.no, .int .i64 x.cur, .int .i64 x.price, .int .i64 x.cut] 42)) w.heap.size 42 [.int .i64 x.no, .int .i64 x.cur, .int .i64 x.price, .int .i64 x.cut] := HT.new
 have HSZ : Hid ((Try.prog.info? 42).map (·.size) = some (#[.int .i64 x.no, .int .i64 x.cur, .int .i64 x.price, .int .i64 x.cut] : Array Value).size) := by show _ = _; rw [ass_sz]; rfl
 have HON : Hid ((#[.int .i64 x.no, .int .i64 x.cur, .int .i64 x.price, .int .i64 x.cut] : Array Value).all (·.oneCell') = true) := by show _ = true; simp [Value.oneCell']
 have HO := Lib.hid h
 have HN := Lib.hid hn
 have HB0 := Lib.hid hb0
 have HX0 := Lib.hid hx
 have HBB : Hid (base ≤ w.heap.size) := hb
 clear h hn hb0 hx hL hb
 go_enter Try.func63, Try.ntmps63
 go_wp2_with fail
 obtain ⟨gx, hgx⟩ : ∃ g, g = w.heap.size := ⟨_, rfl⟩
 rw [← hgx] at HX0 ⊢
 clear hgx
 go_loopw [7] (fun i wr => ∃ k : Nat, k ≤ n ∧ i = .int .i64 k ∧ Hid (∀ q (h : q < L.length), q < k → L[q].no < x.no) ∧ HT wr gx 42 [.int .i64 x.no, .int .i64 x.cur, .int .i64 x.price, .int .i64 x.cut] ∧ Below w.heap.size w wr) (fun i _ => n - (intOf i).toNat)
 case atStart => exact ⟨0, Nat.zero_le _, rfl, fun q hq h => absurd h (by omega), HX0.out, HB0.out⟩
 case round =>
  obtain ⟨k, hk, rfl, HLT, hx0, hbel⟩ := hrel
  have HBL := Lib.hid hbel
  have HX := Lib.hid hx0
  have hk0 : (0 : Int) ≤ k := by omega
  clear hbel hx0
  by_cases hlt : k < n
  ·
   have hkL : k < L.length := by rw [← HN.out]; exact hlt
   obtain ⟨ba, rfl, hba, hbs⟩ := HO.out.some_of (by omega)
   obtain ⟨c, hc⟩ : ∃ c, c = L[k] := ⟨_, rfl⟩
   have HCA : Hid (∀ j v, [.int .i64 c.no, .int .i64 c.cur, .int .i64 c.price, .int .i64 c.cut][j]? = some v → wr.cell? ⟨ba, k * 4 + j, none⟩ = some v) := by
    intro j v h
    obtain ⟨b2, o2, e2, _, hca2⟩ := (HO.out.rs.mono HBL.out).at (by omega) (by decide)
    simp only [Option.some.injEq, Addr.mk.injEq, and_true] at e2
    obtain ⟨rfl, rfl⟩ := e2
    have := hca2 k hkL j v (by rw [← hc]; exact h)
    rwa [Nat.zero_add] at this
   have hk1 : (k : Int) < n := by omega
   have HC := Lib.hid hc
   clear hc
   go_wp2_with fail
   by_cases hl : c.no < x.no
   ·
    have HNX : Hid (∀ q (h : q < L.length), q < k + 1 → L[q].no < x.no) := fun q hq hqk => by
     by_cases e : q = k
     ·
      subst e; rw [← HC.out]; exact hl
     ·
      exact HLT.out q hq (by omega)
    have hld : decide (c.no < x.no) = true := decide_eq_true hl
    clear hl
    refine wp_region_bl 16 (by kernel_rfl) ?_
    refine otks (i := 0) (oi := oF0) (v := (.int .i64 (k : Int))) rfl (by kernel_rfl) (BL.cls wr) rfl (fun w hSw => by go_simp) ?_
    try simp only [Act.put, zA, zB, zC]
    refine otks (i := 1) (oi := oF52) (v := (.slice (some ⟨ba, 0, none⟩) n cap)) rfl (by kernel_rfl) (BL.cls wr) rfl (fun w hSw => by go_simp) ?_
    try simp only [Act.put, zA, zB, zC]
    refine otks (i := 2) (oi := oF53) (v := (.int .i64 (n : Int))) rfl (by kernel_rfl) (BL.cls wr) rfl (fun w hSw => by go_simp) ?_
    try simp only [Act.put, zA, zB, zC]
    refine otks (i := 3) (oi := oF3) (v := (.bool true)) rfl (by kernel_rfl) (BL.cls wr) rfl (fun w hSw => by go_simp) ?_
    try simp only [Act.put, zA, zB, zC]
    refine otks (i := 4) (oi := oF4) (v := (.bool true)) rfl (by kernel_rfl) (BL.cls wr) rfl (fun w hSw => by go_simp) ?_
    try simp only [Act.put, zA, zB, zC]
    refine otks (i := 5) (oi := oF54) (v := (.func (.func 51) #[] #[])) rfl (by kernel_rfl) (BL.cls wr) rfl (fun w hSw => by go_simp) ?_
    try simp only [Act.put, zA, zB, zC]
    refine otks (i := 6) (oi := oF55) (v := (.slice (some ⟨ba, 0, none⟩) n cap)) rfl (by kernel_rfl) (BL.cls wr) rfl (fun w hSw => by go_simp) ?_
    try simp only [Act.put, zA, zB, zC]
    refine otks (i := 7) (oi := oF7) (v := (.int .i64 (k : Int))) rfl (by kernel_rfl) (BL.cls wr) rfl (fun w hSw => by go_simp) ?_
    try simp only [Act.put, zA, zB, zC]
    refine otks (i := 8) (oi := oF56) (v := (.pointer (some ⟨ba, k * 4, none⟩))) rfl (by kernel_rfl) (BL.cls wr) rfl (fun w hSw => by go_simp) ?_
    try simp only [Act.put, zA, zB, zC]
    refine otk (i := 9) (oi := oF57) (v := (.agg #[.int .i64 c.no, .int .i64 c.cur, .int .i64 c.price, .int .i64 c.cut])) rfl (by kernel_rfl) (BL.cls wr) ?_ ?_
    ·
     refine Or.inl ⟨rfl, fun w hSw => ?_⟩
     exact eff_load_mid 42 (.tmp 16) rfl ba (k * 4) rfl [.int .i64 c.no, .int .i64 c.cur, .int .i64 c.price, .int .i64 c.cut] _ (fun j v h => BL.cell hSw (HCA.out j v h)) Try.underlying42 rfl HSZ.out
    try simp only [Act.put, zA, zB, zC]
    refine otk (i := 10) (oi := oF58) (v := (.int .i64 c.no)) rfl (by kernel_rfl) (BL.cls wr) ?_ ?_
    ·
     refine Or.inl ⟨rfl, fun w hSw => ?_⟩
     go_simp
     show Calls _ _ _ _ _
     refine (noA_any _ c.no c.cur c.price c.cut).mono ?_
     rintro e w1 ⟨rfl, hb⟩
     exact ⟨rfl, hb⟩
    try simp only [Act.put, zA, zB, zC]
    refine otks (i := 11) (oi := oF59) (v := (.func (.func 51) #[] #[])) rfl (by kernel_rfl) (BL.cls wr) rfl (fun w hSw => by go_simp) ?_
    try simp only [Act.put, zA, zB, zC]
    refine otk (i := 12) (oi := oF60) (v := (.agg #[.int .i64 x.no, .int .i64 x.cur, .int .i64 x.price, .int .i64 x.cut])) rfl (by kernel_rfl) (BL.cls wr) ?_ ?_
    ·
     refine Or.inl ⟨rfl, fun w hSw => ?_⟩
     exact eff_load_mid 42 (.tmp 5) rfl gx (0) rfl [.int .i64 x.no, .int .i64 x.cur, .int .i64 x.price, .int .i64 x.cut] _ (fun j v h => BL.cell hSw (HX.out.cell (by simpa using h))) Try.underlying42 rfl HSZ.out
    try simp only [Act.put, zA, zB, zC]
    refine otk (i := 13) (oi := oF61) (v := (.int .i64 x.no)) rfl (by kernel_rfl) (BL.cls wr) ?_ ?_
    ·
     refine Or.inl ⟨rfl, fun w hSw => ?_⟩
     go_simp
     show Calls _ _ _ _ _
     refine (noA_any _ x.no x.cur x.price x.cut).mono ?_
     rintro e w1 ⟨rfl, hb⟩
     exact ⟨rfl, hb⟩
    try simp only [Act.put, zA, zB, zC]
    refine otks (i := 14) (oi := oF14) (v := (.bool true)) rfl (by kernel_rfl) (BL.cls wr) rfl (fun w hSw => by go_simp) ?_
    try simp only [Act.put, zA, zB, zC]
    refine otks (i := 15) (oi := oF15) (v := (.bool true)) rfl (by kernel_rfl) (BL.cls wr) rfl (fun w hSw => by go_simp) ?_
    try simp only [Act.put, zA, zB, zC]
    refine wpAnyU_done (by kernel_rfl) (fun w1 hb1 => ?_) _
    go_wp2_with fail
    exact ⟨⟨k + 1, by omega, by push_cast; rfl, HNX.out, HX.out.below hb1, bgo HBL.out hb1 HBL.out.size⟩, by simp [intOf]; omega⟩
   ·
    have hld : decide (c.no < x.no) = false := decide_eq_false hl
    refine wp_region_bl 16 (by kernel_rfl) ?_
    refine otks (i := 0) (oi := oF0) (v := (.int .i64 (k : Int))) rfl (by kernel_rfl) (BL.cls wr) rfl (fun w hSw => by go_simp) ?_
    try simp only [Act.put, zA, zB, zC]
    refine otks (i := 1) (oi := oF52) (v := (.slice (some ⟨ba, 0, none⟩) n cap)) rfl (by kernel_rfl) (BL.cls wr) rfl (fun w hSw => by go_simp) ?_
    try simp only [Act.put, zA, zB, zC]
    refine otks (i := 2) (oi := oF53) (v := (.int .i64 (n : Int))) rfl (by kernel_rfl) (BL.cls wr) rfl (fun w hSw => by go_simp) ?_
    try simp only [Act.put, zA, zB, zC]
    refine otks (i := 3) (oi := oF3) (v := (.bool true)) rfl (by kernel_rfl) (BL.cls wr) rfl (fun w hSw => by go_simp) ?_
    try simp only [Act.put, zA, zB, zC]
    refine otks (i := 4) (oi := oF4) (v := (.bool true)) rfl (by kernel_rfl) (BL.cls wr) rfl (fun w hSw => by go_simp) ?_
    try simp only [Act.put, zA, zB, zC]
    refine otks (i := 5) (oi := oF54) (v := (.func (.func 51) #[] #[])) rfl (by kernel_rfl) (BL.cls wr) rfl (fun w hSw => by go_simp) ?_
    try simp only [Act.put, zA, zB, zC]
    refine otks (i := 6) (oi := oF55) (v := (.slice (some ⟨ba, 0, none⟩) n cap)) rfl (by kernel_rfl) (BL.cls wr) rfl (fun w hSw => by go_simp) ?_
    try simp only [Act.put, zA, zB, zC]
    refine otks (i := 7) (oi := oF7) (v := (.int .i64 (k : Int))) rfl (by kernel_rfl) (BL.cls wr) rfl (fun w hSw => by go_simp) ?_
    try simp only [Act.put, zA, zB, zC]
    refine otks (i := 8) (oi := oF56) (v := (.pointer (some ⟨ba, k * 4, none⟩))) rfl (by kernel_rfl) (BL.cls wr) rfl (fun w hSw => by go_simp) ?_
    try simp only [Act.put, zA, zB, zC]
    refine otk (i := 9) (oi := oF57) (v := (.agg #[.int .i64 c.no, .int .i64 c.cur, .int .i64 c.price, .int .i64 c.cut])) rfl (by kernel_rfl) (BL.cls wr) ?_ ?_
    ·
     refine Or.inl ⟨rfl, fun w hSw => ?_⟩
     exact eff_load_mid 42 (.tmp 16) rfl ba (k * 4) rfl [.int .i64 c.no, .int .i64 c.cur, .int .i64 c.price, .int .i64 c.cut] _ (fun j v h => BL.cell hSw (HCA.out j v h)) Try.underlying42 rfl HSZ.out
    try simp only [Act.put, zA, zB, zC]
    refine otk (i := 10) (oi := oF58) (v := (.int .i64 c.no)) rfl (by kernel_rfl) (BL.cls wr) ?_ ?_
    ·
     refine Or.inl ⟨rfl, fun w hSw => ?_⟩
     go_simp
     show Calls _ _ _ _ _
     refine (noA_any _ c.no c.cur c.price c.cut).mono ?_
     rintro e w1 ⟨rfl, hb⟩
     exact ⟨rfl, hb⟩
    try simp only [Act.put, zA, zB, zC]
    refine otks (i := 11) (oi := oF59) (v := (.func (.func 51) #[] #[])) rfl (by kernel_rfl) (BL.cls wr) rfl (fun w hSw => by go_simp) ?_
    try simp only [Act.put, zA, zB, zC]
    refine otk (i := 12) (oi := oF60) (v := (.agg #[.int .i64 x.no, .int .i64 x.cur, .int .i64 x.price, .int .i64 x.cut])) rfl (by kernel_rfl) (BL.cls wr) ?_ ?_
    ·
     refine Or.inl ⟨rfl, fun w hSw => ?_⟩
     exact eff_load_mid 42 (.tmp 5) rfl gx (0) rfl [.int .i64 x.no, .int .i64 x.cur, .int .i64 x.price, .int .i64 x.cut] _ (fun j v h => BL.cell hSw (HX.out.cell (by simpa using h))) Try.underlying42 rfl HSZ.out
    try simp only [Act.put, zA, zB, zC]
    refine otk (i := 13) (oi := oF61) (v := (.int .i64 x.no)) rfl (by kernel_rfl) (BL.cls wr) ?_ ?_
    ·
     refine Or.inl ⟨rfl, fun w hSw => ?_⟩
     go_simp
     show Calls _ _ _ _ _
     refine (noA_any _ x.no x.cur x.price x.cut).mono ?_
     rintro e w1 ⟨rfl, hb⟩
     exact ⟨rfl, hb⟩
    try simp only [Act.put, zA, zB, zC]
    refine otks (i := 14) (oi := oF14) (v := (.bool false)) rfl (by kernel_rfl) (BL.cls wr) rfl (fun w hSw => by go_simp) ?_
    try simp only [Act.put, zA, zB, zC]
    refine otks (i := 15) (oi := oF15) (v := (.bool false)) rfl (by kernel_rfl) (BL.cls wr) rfl (fun w hSw => by go_simp) ?_
    try simp only [Act.put, zA, zB, zC]
    refine wpAnyU_done (by kernel_rfl) (fun w1 hb1 => ?_) _
    have HBV1 := Lib.hid (bgo HBL.out hb1 HBL.out.size)
    have HX1 := Lib.hid (HX.out.below hb1)
    have HO1 := Lib.hid (HO.out.below HBV1.out)
    have HB1 := Lib.hid hb1
    have HCA1 : Hid (∀ j v, [.int .i64 c.no, .int .i64 c.cur, .int .i64 c.price, .int .i64 c.cut][j]? = some v → w1.cell? ⟨ba, k * 4 + j, none⟩ = some v) := fun j v h => BL.cell hb1 (HCA.out j v h)
    clear hb1
    go_wp2_with fail
    by_cases he : c.no = x.no
    ·
     have HPL := Lib.hid (putL_set (no := AsT.no) hkL HLT.out (by rw [← HC.out]; exact he))
     have hed : (c.no == x.no) = true := by simpa using he
     clear he
     refine wp_region_bl 16 (by kernel_rfl) ?_
     refine otks (i := 0) (oi := oF16) (v := (.int .i64 (k : Int))) rfl (by kernel_rfl) (BL.cls w1) rfl (fun w hSw => by go_simp) ?_
     try simp only [Act.put, zA, zB, zC]
     refine otks (i := 1) (oi := oF62) (v := (.slice (some ⟨ba, 0, none⟩) n cap)) rfl (by kernel_rfl) (BL.cls w1) rfl (fun w hSw => by go_simp) ?_
     try simp only [Act.put, zA, zB, zC]
     refine otks (i := 2) (oi := oF63) (v := (.int .i64 (n : Int))) rfl (by kernel_rfl) (BL.cls w1) rfl (fun w hSw => by go_simp) ?_
     try simp only [Act.put, zA, zB, zC]
     refine otks (i := 3) (oi := oF19) (v := (.bool true)) rfl (by kernel_rfl) (BL.cls w1) rfl (fun w hSw => by go_simp) ?_
     try simp only [Act.put, zA, zB, zC]
     refine otks (i := 4) (oi := oF20) (v := (.bool true)) rfl (by kernel_rfl) (BL.cls w1) rfl (fun w hSw => by go_simp) ?_
     try simp only [Act.put, zA, zB, zC]
     refine otks (i := 5) (oi := oF64) (v := (.func (.func 51) #[] #[])) rfl (by kernel_rfl) (BL.cls w1) rfl (fun w hSw => by go_simp) ?_
     try simp only [Act.put, zA, zB, zC]
     refine otks (i := 6) (oi := oF65) (v := (.slice (some ⟨ba, 0, none⟩) n cap)) rfl (by kernel_rfl) (BL.cls w1) rfl (fun w hSw => by go_simp) ?_
     try simp only [Act.put, zA, zB, zC]
     refine otks (i := 7) (oi := oF23) (v := (.int .i64 (k : Int))) rfl (by kernel_rfl) (BL.cls w1) rfl (fun w hSw => by go_simp) ?_
     try simp only [Act.put, zA, zB, zC]
     refine otks (i := 8) (oi := oF66) (v := (.pointer (some ⟨ba, k * 4, none⟩))) rfl (by kernel_rfl) (BL.cls w1) rfl (fun w hSw => by go_simp) ?_
     try simp only [Act.put, zA, zB, zC]
     refine otk (i := 9) (oi := oF67) (v := (.agg #[.int .i64 c.no, .int .i64 c.cur, .int .i64 c.price, .int .i64 c.cut])) rfl (by kernel_rfl) (BL.cls w1) ?_ ?_
     ·
      refine Or.inl ⟨rfl, fun w hSw => ?_⟩
      exact eff_load_mid 42 (.tmp 34) rfl ba (k * 4) rfl [.int .i64 c.no, .int .i64 c.cur, .int .i64 c.price, .int .i64 c.cut] _ (fun j v h => BL.cell hSw (HCA1.out j v h)) Try.underlying42 rfl HSZ.out
     try simp only [Act.put, zA, zB, zC]
     refine otk (i := 10) (oi := oF68) (v := (.int .i64 c.no)) rfl (by kernel_rfl) (BL.cls w1) ?_ ?_
     ·
      refine Or.inl ⟨rfl, fun w hSw => ?_⟩
      go_simp
      show Calls _ _ _ _ _
      refine (noA_any _ c.no c.cur c.price c.cut).mono ?_
      rintro e w1 ⟨rfl, hb⟩
      exact ⟨rfl, hb⟩
     try simp only [Act.put, zA, zB, zC]
     refine otks (i := 11) (oi := oF69) (v := (.func (.func 51) #[] #[])) rfl (by kernel_rfl) (BL.cls w1) rfl (fun w hSw => by go_simp) ?_
     try simp only [Act.put, zA, zB, zC]
     refine otk (i := 12) (oi := oF70) (v := (.agg #[.int .i64 x.no, .int .i64 x.cur, .int .i64 x.price, .int .i64 x.cut])) rfl (by kernel_rfl) (BL.cls w1) ?_ ?_
     ·
      refine Or.inl ⟨rfl, fun w hSw => ?_⟩
      exact eff_load_mid 42 (.tmp 5) rfl gx (0) rfl [.int .i64 x.no, .int .i64 x.cur, .int .i64 x.price, .int .i64 x.cut] _ (fun j v h => BL.cell hSw (HX1.out.cell (by simpa using h))) Try.underlying42 rfl HSZ.out
     try simp only [Act.put, zA, zB, zC]
     refine otk (i := 13) (oi := oF71) (v := (.int .i64 x.no)) rfl (by kernel_rfl) (BL.cls w1) ?_ ?_
     ·
      refine Or.inl ⟨rfl, fun w hSw => ?_⟩
      go_simp
      show Calls _ _ _ _ _
      refine (noA_any _ x.no x.cur x.price x.cut).mono ?_
      rintro e w1 ⟨rfl, hb⟩
      exact ⟨rfl, hb⟩
     try simp only [Act.put, zA, zB, zC]
     refine otks (i := 14) (oi := oF30) (v := (.bool true)) rfl (by kernel_rfl) (BL.cls w1) rfl (fun w hSw => by go_simp) ?_
     try simp only [Act.put, zA, zB, zC]
     refine otks (i := 15) (oi := oF31) (v := (.bool true)) rfl (by kernel_rfl) (BL.cls w1) rfl (fun w hSw => by go_simp) ?_
     try simp only [Act.put, zA, zB, zC]
     refine wpAnyU_done (by kernel_rfl) (fun w1 hb1 => ?_) _
     have HBV2 := Lib.hid (bgo HBV1.out hb1 HBV1.out.size)
     have HBW2 : Hid (Below base w w1) := HBV2.out.mono HBB.out
     have HX2 := Lib.hid (HX1.out.below hb1)
     have HO2 := Lib.hid (HO.out.below HBV2.out)
     clear hb1
     have hst := HO2.out.setRow1 (i := k) hlt x
     have HTH : Hid (w1.there ba (k * 4) 4) := hst.2.2.2
     have HXA : Hid (w1.heap[gx]? = some (.cells #[.int .i64 x.no, .int .i64 x.cur, .int .i64 x.price, .int .i64 x.cut] 42 (0, 0))) := HX2.out
     have HFIN := Lib.hid hst
     clear hst
     go_wp2_with (first
      | (refine wpList_load_row rfl 42 (.tmp 5) rfl gx rfl 42 #[.int .i64 x.no, .int .i64 x.cur, .int .i64 x.price, .int .i64 x.cut] (0, 0) _ HXA.out Try.underlying42 rfl HSZ.out ?_)
      | (refine wpList_store_mid rfl 42 (.tmp 45) (.tmp 44) rfl ba (k * 4) #[.int .i64 x.no, .int .i64 x.cur, .int .i64 x.price, .int .i64 x.cut] rfl rfl HTH.out HSZ.out HON.out ?_)
      | fail)
     go_ret
     rw [HPL.out]
     exact ⟨_, _, _, rfl, HFIN.out.1, bgo HBW2.out HFIN.out.2.1 (Nat.le_refl _), ((Kept.of_below HBV2.out).weaken (fun _ h => h.elim)).trans (HFIN.out.2.2.1.weaken (fun j (h : j = ba) => by subst h; rfl)) (fun _ _ h => h)⟩
    ·
     have HPL := Lib.hid (putL_ins (no := AsT.no) (k := k) (by have := HN.out; omega) HLT.out (fun h => by rw [← HC.out]; omega))
     have hed : (c.no == x.no) = false := by simpa using he
     clear he
     refine wp_region_bl 16 (by kernel_rfl) ?_
     refine otks (i := 0) (oi := oF16) (v := (.int .i64 (k : Int))) rfl (by kernel_rfl) (BL.cls w1) rfl (fun w hSw => by go_simp) ?_
     try simp only [Act.put, zA, zB, zC]
     refine otks (i := 1) (oi := oF62) (v := (.slice (some ⟨ba, 0, none⟩) n cap)) rfl (by kernel_rfl) (BL.cls w1) rfl (fun w hSw => by go_simp) ?_
     try simp only [Act.put, zA, zB, zC]
     refine otks (i := 2) (oi := oF63) (v := (.int .i64 (n : Int))) rfl (by kernel_rfl) (BL.cls w1) rfl (fun w hSw => by go_simp) ?_
     try simp only [Act.put, zA, zB, zC]
     refine otks (i := 3) (oi := oF19) (v := (.bool true)) rfl (by kernel_rfl) (BL.cls w1) rfl (fun w hSw => by go_simp) ?_
     try simp only [Act.put, zA, zB, zC]
     refine otks (i := 4) (oi := oF20) (v := (.bool true)) rfl (by kernel_rfl) (BL.cls w1) rfl (fun w hSw => by go_simp) ?_
     try simp only [Act.put, zA, zB, zC]
     refine otks (i := 5) (oi := oF64) (v := (.func (.func 51) #[] #[])) rfl (by kernel_rfl) (BL.cls w1) rfl (fun w hSw => by go_simp) ?_
     try simp only [Act.put, zA, zB, zC]
     refine otks (i := 6) (oi := oF65) (v := (.slice (some ⟨ba, 0, none⟩) n cap)) rfl (by kernel_rfl) (BL.cls w1) rfl (fun w hSw => by go_simp) ?_
     try simp only [Act.put, zA, zB, zC]
     refine otks (i := 7) (oi := oF23) (v := (.int .i64 (k : Int))) rfl (by kernel_rfl) (BL.cls w1) rfl (fun w hSw => by go_simp) ?_
     try simp only [Act.put, zA, zB, zC]
     refine otks (i := 8) (oi := oF66) (v := (.pointer (some ⟨ba, k * 4, none⟩))) rfl (by kernel_rfl) (BL.cls w1) rfl (fun w hSw => by go_simp) ?_
     try simp only [Act.put, zA, zB, zC]
     refine otk (i := 9) (oi := oF67) (v := (.agg #[.int .i64 c.no, .int .i64 c.cur, .int .i64 c.price, .int .i64 c.cut])) rfl (by kernel_rfl) (BL.cls w1) ?_ ?_
     ·
      refine Or.inl ⟨rfl, fun w hSw => ?_⟩
      exact eff_load_mid 42 (.tmp 34) rfl ba (k * 4) rfl [.int .i64 c.no, .int .i64 c.cur, .int .i64 c.price, .int .i64 c.cut] _ (fun j v h => BL.cell hSw (HCA1.out j v h)) Try.underlying42 rfl HSZ.out
     try simp only [Act.put, zA, zB, zC]
     refine otk (i := 10) (oi := oF68) (v := (.int .i64 c.no)) rfl (by kernel_rfl) (BL.cls w1) ?_ ?_
     ·
      refine Or.inl ⟨rfl, fun w hSw => ?_⟩
      go_simp
      show Calls _ _ _ _ _
      refine (noA_any _ c.no c.cur c.price c.cut).mono ?_
      rintro e w1 ⟨rfl, hb⟩
      exact ⟨rfl, hb⟩
     try simp only [Act.put, zA, zB, zC]
     refine otks (i := 11) (oi := oF69) (v := (.func (.func 51) #[] #[])) rfl (by kernel_rfl) (BL.cls w1) rfl (fun w hSw => by go_simp) ?_
     try simp only [Act.put, zA, zB, zC]
     refine otk (i := 12) (oi := oF70) (v := (.agg #[.int .i64 x.no, .int .i64 x.cur, .int .i64 x.price, .int .i64 x.cut])) rfl (by kernel_rfl) (BL.cls w1) ?_ ?_
     ·
      refine Or.inl ⟨rfl, fun w hSw => ?_⟩
      exact eff_load_mid 42 (.tmp 5) rfl gx (0) rfl [.int .i64 x.no, .int .i64 x.cur, .int .i64 x.price, .int .i64 x.cut] _ (fun j v h => BL.cell hSw (HX1.out.cell (by simpa using h))) Try.underlying42 rfl HSZ.out
     try simp only [Act.put, zA, zB, zC]
     refine otk (i := 13) (oi := oF71) (v := (.int .i64 x.no)) rfl (by kernel_rfl) (BL.cls w1) ?_ ?_
     ·
      refine Or.inl ⟨rfl, fun w hSw => ?_⟩
      go_simp
      show Calls _ _ _ _ _
      refine (noA_any _ x.no x.cur x.price x.cut).mono ?_
      rintro e w1 ⟨rfl, hb⟩
      exact ⟨rfl, hb⟩
     try simp only [Act.put, zA, zB, zC]
     refine otks (i := 14) (oi := oF30) (v := (.bool false)) rfl (by kernel_rfl) (BL.cls w1) rfl (fun w hSw => by go_simp) ?_
     try simp only [Act.put, zA, zB, zC]
     refine otks (i := 15) (oi := oF31) (v := (.bool false)) rfl (by kernel_rfl) (BL.cls w1) rfl (fun w hSw => by go_simp) ?_
     try simp only [Act.put, zA, zB, zC]
     refine wpAnyU_done (by kernel_rfl) (fun w1 hb1 => ?_) _
     have HBV2 := Lib.hid (bgo HBV1.out hb1 HBV1.out.size)
     have HBW2 : Hid (Below base w w1) := HBV2.out.mono HBB.out
     have HX2 := Lib.hid (HX1.out.below hb1)
     have HO2 := Lib.hid (HO.out.below HBV2.out)
     clear hb1
     have HXA : Hid (w1.heap[gx]? = some (.cells #[.int .i64 x.no, .int .i64 x.cur, .int .i64 x.price, .int .i64 x.cut] 42 (0, 0))) := HX2.out
     have hbn : Below w1.heap.size w1 (w1.alloc (.cells #[.int .i64 x.no, .int .i64 x.cur, .int .i64 x.price, .int .i64 x.cut] 42)) := (Below.refl _ _).alloc (Nat.le_refl _) _
     have hins := ass_insert (x := x) (HO2.out.alloc (.cells #[.int .i64 x.no, .int .i64 x.cur, .int .i64 x.price, .int .i64 x.cut] 42)) (by have := HN.out; omega) hlt (by simp; have := HBB.out; have := HBV2.out.size; omega) (HT.new (w := w1) (t := 42) (C := [.int .i64 x.no, .int .i64 x.cur, .int .i64 x.price, .int .i64 x.cut])) (fun j hj => by have := HO2.out.lt j hj; omega)
     have HBN := Lib.hid hbn
     clear hbn
     go_wp2_with (first
      | (refine wpList_load_row rfl 42 (.tmp 5) rfl gx rfl 42 #[.int .i64 x.no, .int .i64 x.cur, .int .i64 x.price, .int .i64 x.cut] (0, 0) _ HXA.out Try.underlying42 rfl HSZ.out ?_)
      | fail)
     refine hins.mono ?_
     clear hins
     rintro e w3 ⟨a3, n3, c3, rfl, ho3, hb3, hk3⟩
     have HO3 := Lib.hid ho3
     have HB3 := Lib.hid hb3
     have HK3 := Lib.hid hk3
     clear ho3 hb3 hk3
     go_wp2_with fail
     go_ret
     rw [HPL.out]
     exact ⟨_, _, _, rfl, HO3.out, bgo (HBW2.out.trans (HBN.out.mono (by have := HBB.out; have := HBV2.out.size; omega))) HB3.out (Nat.le_refl _), ((Kept.of_below (bgo HBV2.out HBN.out HBV2.out.size)).weaken (fun _ h => h.elim)).trans HK3.out (fun _ _ h => h)⟩
  ·
   obtain rfl : k = n := by omega
   have HPL : Hid (putL AsT.no x L = L ++ [x]) := by
    have h1 := putL_ins (no := AsT.no) (x := x) (L := L) (k := L.length) (Nat.le_refl _) (fun q hq _ => HLT.out q hq (by have := HN.out; omega)) (fun h => absurd h (by omega))
    show _ = _
    rw [h1]
    simp
   go_wp2_with fail
   refine wp_region_bl 16 (by kernel_rfl) ?_
   refine otks (i := 0) (oi := oF0) (v := (.int .i64 (k : Int))) rfl (by kernel_rfl) (BL.cls wr) rfl (fun w hSw => by go_simp) ?_
   try simp only [Act.put, zA, zB, zC]
   refine otks (i := 1) (oi := oF52) (v := (.slice av k cap)) rfl (by kernel_rfl) (BL.cls wr) rfl (fun w hSw => by go_simp) ?_
   try simp only [Act.put, zA, zB, zC]
   refine otks (i := 2) (oi := oF53) (v := (.int .i64 (k : Int))) rfl (by kernel_rfl) (BL.cls wr) rfl (fun w hSw => by go_simp) ?_
   try simp only [Act.put, zA, zB, zC]
   refine otks (i := 3) (oi := oF3) (v := (.bool false)) rfl (by kernel_rfl) (BL.cls wr) rfl (fun w hSw => by go_simp) ?_
   try simp only [Act.put, zA, zB, zC]
   refine otks (i := 4) (oi := oF4) (v := (.bool false)) rfl (by kernel_rfl) (BL.cls wr) rfl (fun w hSw => by go_simp) ?_
   try simp only [Act.put, zA, zB, zC]
   refine otku (i := 5) (oi := oF54) rfl (by kernel_rfl) (BL.cls wr) rfl ?_
   try simp only [Act.put, zA, zB, zC]
   refine otku (i := 6) (oi := oF55) rfl (by kernel_rfl) (BL.cls wr) rfl ?_
   try simp only [Act.put, zA, zB, zC]
   refine otku (i := 7) (oi := oF7) rfl (by kernel_rfl) (BL.cls wr) rfl ?_
   try simp only [Act.put, zA, zB, zC]
   refine otku (i := 8) (oi := oF56) rfl (by kernel_rfl) (BL.cls wr) rfl ?_
   try simp only [Act.put, zA, zB, zC]
   refine otku (i := 9) (oi := oF57) rfl (by kernel_rfl) (BL.cls wr) rfl ?_
   try simp only [Act.put, zA, zB, zC]
   refine otku (i := 10) (oi := oF58) rfl (by kernel_rfl) (BL.cls wr) rfl ?_
   try simp only [Act.put, zA, zB, zC]
   refine otku (i := 11) (oi := oF59) rfl (by kernel_rfl) (BL.cls wr) rfl ?_
   try simp only [Act.put, zA, zB, zC]
   refine otku (i := 12) (oi := oF60) rfl (by kernel_rfl) (BL.cls wr) rfl ?_
   try simp only [Act.put, zA, zB, zC]
   refine otku (i := 13) (oi := oF61) rfl (by kernel_rfl) (BL.cls wr) rfl ?_
   try simp only [Act.put, zA, zB, zC]
   refine otku (i := 14) (oi := oF14) rfl (by kernel_rfl) (BL.cls wr) rfl ?_
   try simp only [Act.put, zA, zB, zC]
   refine otks (i := 15) (oi := oF15) (v := (.bool false)) rfl (by kernel_rfl) (BL.cls wr) rfl (fun w hSw => by go_simp) ?_
   try simp only [Act.put, zA, zB, zC]
   refine wpAnyU_done (by kernel_rfl) (fun w1 hb1 => ?_) _
   have HBV1 := Lib.hid (bgo HBL.out hb1 HBL.out.size)
   have HX1 := Lib.hid (HX.out.below hb1)
   have HO1 := Lib.hid (HO.out.below HBV1.out)
   have HB1 := Lib.hid hb1
   clear hb1
   go_wp2_with fail
   refine wp_region_bl 16 (by kernel_rfl) ?_
   refine otks (i := 0) (oi := oF16) (v := (.int .i64 (k : Int))) rfl (by kernel_rfl) (BL.cls w1) rfl (fun w hSw => by go_simp) ?_
   try simp only [Act.put, zA, zB, zC]
   refine otks (i := 1) (oi := oF62) (v := (.slice av k cap)) rfl (by kernel_rfl) (BL.cls w1) rfl (fun w hSw => by go_simp) ?_
   try simp only [Act.put, zA, zB, zC]
   refine otks (i := 2) (oi := oF63) (v := (.int .i64 (k : Int))) rfl (by kernel_rfl) (BL.cls w1) rfl (fun w hSw => by go_simp) ?_
   try simp only [Act.put, zA, zB, zC]
   refine otks (i := 3) (oi := oF19) (v := (.bool false)) rfl (by kernel_rfl) (BL.cls w1) rfl (fun w hSw => by go_simp) ?_
   try simp only [Act.put, zA, zB, zC]
   refine otks (i := 4) (oi := oF20) (v := (.bool false)) rfl (by kernel_rfl) (BL.cls w1) rfl (fun w hSw => by go_simp) ?_
   try simp only [Act.put, zA, zB, zC]
   refine otku (i := 5) (oi := oF64) rfl (by kernel_rfl) (BL.cls w1) rfl ?_
   try simp only [Act.put, zA, zB, zC]
   refine otku (i := 6) (oi := oF65) rfl (by kernel_rfl) (BL.cls w1) rfl ?_
   try simp only [Act.put, zA, zB, zC]
   refine otku (i := 7) (oi := oF23) rfl (by kernel_rfl) (BL.cls w1) rfl ?_
   try simp only [Act.put, zA, zB, zC]
   refine otku (i := 8) (oi := oF66) rfl (by kernel_rfl) (BL.cls w1) rfl ?_
   try simp only [Act.put, zA, zB, zC]
   refine otku (i := 9) (oi := oF67) rfl (by kernel_rfl) (BL.cls w1) rfl ?_
   try simp only [Act.put, zA, zB, zC]
   refine otku (i := 10) (oi := oF68) rfl (by kernel_rfl) (BL.cls w1) rfl ?_
   try simp only [Act.put, zA, zB, zC]
   refine otku (i := 11) (oi := oF69) rfl (by kernel_rfl) (BL.cls w1) rfl ?_
   try simp only [Act.put, zA, zB, zC]
   refine otku (i := 12) (oi := oF70) rfl (by kernel_rfl) (BL.cls w1) rfl ?_
   try simp only [Act.put, zA, zB, zC]
   refine otku (i := 13) (oi := oF71) rfl (by kernel_rfl) (BL.cls w1) rfl ?_
   try simp only [Act.put, zA, zB, zC]
   refine otku (i := 14) (oi := oF30) rfl (by kernel_rfl) (BL.cls w1) rfl ?_
   try simp only [Act.put, zA, zB, zC]
   refine otks (i := 15) (oi := oF31) (v := (.bool false)) rfl (by kernel_rfl) (BL.cls w1) rfl (fun w hSw => by go_simp) ?_
   try simp only [Act.put, zA, zB, zC]
   refine wpAnyU_done (by kernel_rfl) (fun w1 hb1 => ?_) _
   have HBV2 := Lib.hid (bgo HBV1.out hb1 HBV1.out.size)
   have HBW2 : Hid (Below base w w1) := HBV2.out.mono HBB.out
   have HX2 := Lib.hid (HX1.out.below hb1)
   have HO2 := Lib.hid (HO.out.below HBV2.out)
   clear hb1
   have HXA : Hid (w1.heap[gx]? = some (.cells #[.int .i64 x.no, .int .i64 x.cur, .int .i64 x.price, .int .i64 x.cut] 42 (0, 0))) := HX2.out
   have hbn : Below w1.heap.size w1 (w1.alloc (.cells #[.int .i64 x.no, .int .i64 x.cur, .int .i64 x.price, .int .i64 x.cut] 42)) := (Below.refl _ _).alloc (Nat.le_refl _) _
   have hins := InsEndA_any (w1.alloc (.cells #[.int .i64 x.no, .int .i64 x.cur, .int .i64 x.price, .int .i64 x.cut] 42)) base av k cap L (.slice (some ⟨w1.heap.size, 0, none⟩) 1 1) x (HO2.out.alloc _) (Rs.one AsT.len w1 x 42) HN.out (by have := HN.out; omega) (by simp; have := HBB.out; have := HBV2.out.size; omega)
   unfold RowsPost at hins
   have HBN := Lib.hid hbn
   clear hbn
   go_wp2_with (first
    | (refine wpList_load_row rfl 42 (.tmp 5) rfl gx rfl 42 #[.int .i64 x.no, .int .i64 x.cur, .int .i64 x.price, .int .i64 x.cut] (0, 0) _ HXA.out Try.underlying42 rfl HSZ.out ?_)
    | fail)
   refine hins.mono ?_
   clear hins
   rintro e w3 ⟨a3, n3, c3, rfl, ho3, hb3, hk3⟩
   have HO3 := Lib.hid ho3
   have HB3 := Lib.hid hb3
   have HK3 := Lib.hid hk3
   clear ho3 hb3 hk3
   go_wp2_with fail
   go_ret
   rw [HPL.out]
   exact ⟨_, _, _, rfl, HO3.out, bgo (HBW2.out.trans (HBN.out.mono (by have := HBB.out; have := HBV2.out.size; omega))) HB3.out (Nat.le_refl _), ((Kept.of_below (bgo HBV2.out HBN.out HBV2.out.size)).weaken (fun _ h => h.elim)).trans HK3.out (fun _ _ h => h)⟩
end Cam
