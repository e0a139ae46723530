import Derived.Test.YtgeclnjkkjmbaaaGreatWrH
import Derived.Test.YtgeclnjkkjmbaaaGreatWrD
import Derived.Deep.MidRow
/- cambistlaw24: wakes, WireCmds. -/
namespace Cam
open Go Go.RowKit Go.Proofs

theorem eff_load_mid {P : Program} {op : Oper} {a : Act} {w : World} (ty : TypeId) (x : Operand) (ho : op.op = .load ty x)
    (b o : Nat) (hx : a.eval x = .pointer (some ⟨b, o, none⟩)) (cs : List Value) (d : TypeDesc) (hc : w.rangeAt b o cs)
    (hu : P.underlying ty = some d) (hd : d.isRow = true) (hi : (P.info? ty).map (·.size) = some cs.length) : EffR P (.agg cs.toArray) w ((execOp a.eval op).run P w) :=
  EffR.same (by
    unfold execOp
    simp only [ho, hx, Instr.loadAt, Instr.sureAddr, Sem.run_bind, Sem.run_pure, Result.andThen_ok, run_loadVar_mid w b o ty cs d hc hu hd hi])
def WK : List UInt8 := [0, 0, 6, 0, 0, 0, 0, 0, 0, 0, 0, 0, 0, 0, 0, 0, 0]
theorem wk_enc : encIs [0, 0, 3, 0, 0, 0, 0, 0, 0, 0, 0, 0, 0, 0, 0, 0, 0] = WK := by decide +kernel
theorem wk_read : (readC WK).1.getD 2 0 = 3 := by decide +kernel
theorem bgo {w w1 w2 : World} {g g2 : Nat} (h : Below g w w1) (h2 : Below g2 w1 w2) (hg : g ≤ g2) : Below g w w2 := h.trans (h2.mono hg)
set_option maxRecDepth 100000 in
theorem wakes_any (w : World) : Calls Tryz.prog 15 #[] w fun e w' => e = .returned (.bool true) ∧ Below w.heap.size w w' := by
  have wc := Cmd_any w 0 0 3 0 0 0 0 0 0 0 0 0 0 0 0 0 0 (by intro n hn; simp at hn; omega)
  rw [wk_enc] at wc
  go_enter Tryz.func15, Tryz.ntmps15
  go_wp2_with fail
  refine wc.mono ?_
  clear wc
  rintro e w1 ⟨v, rfl, hown, hb⟩
  obtain ⟨a, cap, rfl, _, _⟩ := hown.bs.shape
  obtain ⟨b, off, rfl, _, hcell⟩ := hown.bs.at (by decide)
  have hc2 : w1.cell? ⟨b, off + 2, none⟩ = some (.int .u8 6) := hcell 2 (by decide)
  have kd := Kind_any w1 _ WK hown.bs (by decide)
  rw [wk_read] at kd
  have HBB := Lib.hid hb
  rw [show WK.length = 17 from rfl] at kd ⊢
  clear hcell hown hb
  go_wp2_with fail
  refine kd.mono ?_
  clear kd
  rintro e w2 ⟨rfl, hb2⟩
  go_wp2_with fail
  go_ret
  exact ⟨rfl, HBB.out.next hb2⟩

theorem ivs_lit (L : List Int) (h : L.length = 17) : ∃ z0 z1 z2 z3 z4 z5 z6 z7 z8 z9 z10 z11 z12 z13 z14 z15 z16, L = [z0, z1, z2, z3, z4, z5, z6, z7, z8, z9, z10, z11, z12, z13, z14, z15, z16] := by
  match L, h with
  | [z0, z1, z2, z3, z4, z5, z6, z7, z8, z9, z10, z11, z12, z13, z14, z15, z16], _ => exact ⟨z0, z1, z2, z3, z4, z5, z6, z7, z8, z9, z10, z11, z12, z13, z14, z15, z16, rfl⟩
theorem readC_two (l : List UInt8) : (readC l).2 = 0 ∨ (readC l).2 = 6 := by
  unfold readC
  split
  · exact .inr rfl
  · split
    · exact .inl rfl
    · exact .inr rfl
theorem ivs_at {L : List Int} {j : Nat} (h : j < L.length) : (ivs L)[j]? = some (.int .i64 L[j]) := by
  rw [List.getElem?_map, List.getElem?_eq_getElem h]; rfl
end Cam
