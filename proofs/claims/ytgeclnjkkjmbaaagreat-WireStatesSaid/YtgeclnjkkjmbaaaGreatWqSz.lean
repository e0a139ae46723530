import Derived.Test.YtgeclnjkkjmbaaaGreatVa
import Derived.Test.YtgeclnjkkjmbaaaGreatWqM
import Derived.Test.YtgeclnjkkjmbaaaGreatWqRz
import Derived.Test.YtgeclnjkkjmbaaaGreatYpLz
/- Several small texts in one: WrRM, WqS. No condition. -/
namespace Cam
open Go Go.RowKit Go.Proofs
set_option linter.unusedVariables false
set_option linter.unusedSimpArgs false
set_option maxHeartbeats 200000
theorem rMark_any (w : World) (b : Bool) : Calls Tryz.prog 28 #[.bool b] w (RetB 5 w (markB b)) := by
 cases b with
 | true =>
  go_in
  go_wp2_with fail
  go_ret
  exact ⟨_, rfl, OwnB.lit w [1] (by decide), Bn⟩
 | false =>
  go_in
  go_wp2_with fail
  go_ret
  exact ⟨_, rfl, OwnB.lit w [0] (by decide), Bn⟩
end Cam
namespace Cam
open Go Go.RowKit Go.Proofs
set_option linter.unusedVariables false
set_option linter.unusedSimpArgs false
set_option maxHeartbeats 200000
def WsP (W : World) (l : List UInt8) (a : Option Addr) (n c : Nat) (x : World) : Prop := BK W.heap.size W (.slice none 0 0) l (.slice a n c) x
theorem wsl {α : Type} (b : α → List UInt8) {L : List α} {k m : Nat} {l : List UInt8} (h : ∀ x ∈ L, (b x).length ≤ m) (hn : L.length * m ≤ 300000000) (hl : l.length ≤ 500000000) : (l ++ encG b (L.take k)).length ≤ 1000000000 := by
 have h1 := encG_length b m L h
 have h2 := encG_take_le b L k
 rw [List.length_append]
 omega
theorem BK.shifts {base : Nat} {W wr wa : World} {vb v2 : Value} {l : List UInt8} {y0 y1 y2 y3 y4 y5 : Int} (h : BK base W vb l v2 wr) (hb : Below wr.heap.size wr wa) (hr : okI [y0, y1, y2, y3, y4, y5]) (hll : l.length ≤ 10000000) (hbase : base ≤ W.heap.size) :
  Calls Tryz.prog 27 #[v2, .agg #[y0, y1, y2, y3, y4, y5]] wa (BKPost base W vb (l ++ encIs [y0, y1, y2, y3, y4, y5])) :=
 (shifts_any wa base v2 l y0 y1 y2 y3 y4 y5 (OwnB.below h.1 hb) hr hll (Nat.le_trans hbase (Nat.le_trans h.2.1.size hb.size))).mono fun _ _ k => h.next hb k
theorem eff_load_midW {P : Program} {op : Oper} {a : Act} {w : World} (ty : TypeId) (x : Operand) (ho : op.op = .load ty x)
  (b o : Nat) (hx : a.eval x = .pointer (some ⟨b, o, none⟩)) (cs : List Value) (d : TypeDesc) (hc : w.rangeAt b o cs)
  (hu : P.underlying ty = some d) (hd : d.isRow = true) (hi : (P.info? ty).map (·.size) = some cs.length) : EffR P (.agg cs.toArray) w ((execOp a.eval op).run P w) :=
 EffR.same (by
  unfold execOp
  simp only [ho, hx, Instr.loadAt, Instr.sureAddr, Sem.run_bind, Sem.run_pure, Result.andThen_ok, run_loadVar_mid w b o ty cs d hc hu hd hi])
theorem HT.mid {w : World} {g : Nat} {t : TypeId} {A cs : List Value} (h : HT w g t (A ++ cs)) : w.rangeAt g A.length cs := by
 intro j u hu
 exact h.cell (j := A.length + j) (by rw [List.getElem?_append_right (by omega)]; simpa using hu)
theorem wsl6 {L : List InT} {k : Nat} {l : List UInt8} {d : InT} (h : ∀ x ∈ L, okI x.ints) (hn : L.length ≤ 1024) (hk : k < L.length) (hd : d = L[k]) (hl : l.length ≤ 5000000) : (l ++ encG InT.bytes (L.take k) ++ encIs [d.no, d.cur, d.mult, d.add, d.set, d.price]).length ≤ 10000000 := by
 have h1 := encG_length InT.bytes 200 L (fun x hx => InT.blen x (h x hx))
 have h2 := encG_take_le InT.bytes L k
 have h3 := encIs_length [d.no, d.cur, d.mult, d.add, d.set, d.price] (fun m hm => h d (by rw [hd]; exact List.getElem_mem _) m (by unfold InT.ints; simp only [List.mem_cons, List.not_mem_nil, or_false] at hm ⊢; rcases hm with h | h | h | h | h | h <;> simp [h]))
 simp only [List.length_append]
 simp at h3
 omega
theorem wslT {L : List TrT} {k : Nat} {l : List UInt8} {d : TrT} (h : ∀ x ∈ L, okI x.ints) (hn : L.length ≤ 1024) (hk : k < L.length) (hd : d = L[k]) (hl : l.length ≤ 500000000) : (l ++ encG TrT.bytes (L.take k) ++ encIs [d.no, d.buyer, d.seller, d.inst, d.qty, d.price]).length + (markB d.off).length ≤ 140737488355328 := by
 have h1 := encG_length TrT.bytes 200 L (fun x hx => TrT.blen x (h x hx))
 have h2 := encG_take_le TrT.bytes L k
 have h3 := encIs_length [d.no, d.buyer, d.seller, d.inst, d.qty, d.price] (h d (by rw [hd]; exact List.getElem_mem _))
 have h4 := markB_len d.off
 simp only [List.length_append]
 simp at h3
 omega
theorem step_append_bytes_at {P : Program} {ops : Array Oper} {o : Oper} {a : Act} {w : World} {K : Act → World → Prop} {Q : Exit → Act → World → Prop} {E' : Prop}
  (hg : o.guard = none) (s x : Operand) (t : TypeId) (hop : o.op = Op.call { callee := Callee.builtin Builtin.append, args := #[s, x], argTypes := #[t, t] })
  {e base : Nat} {v vx : Value} {l m : List UInt8} (E : Elem P t e 1 1) (hs : a.eval s = v) (hx : a.eval x = vx)
  (hown : OwnB e w base v l) (hsrc : Bs w vx m) (hlen : l.length + m.length ≤ 140737488355328) (hbase : base ≤ w.heap.size)
  (h : ∀ a' n' cap' w', Hid (n' = l.length + m.length) → OwnB e w' base (.slice a' n' cap') (l ++ m) → w.grownBy w' v.ownBlock →
   Hid ((Value.slice a' n' cap').ownBlock = v.ownBlock ∨ (Value.slice a' n' cap').ownBlock = some w.heap.size) → K (a.put o.dst (.slice a' n' cap')) w') :
  if Region.wanted o (yielded ops a.tmps) = true then Oper.wp P o a w K Q else E' := by
 rw [if_pos (by simp [Region.wanted, hg])]
 obtain ⟨a', cap', w', hr, h2, h3, h4⟩ := run_append_sl_at (P := P) (ty := o.type) w E hown hsrc (bs_oneCell m) (by unfold maxLen; omega) (by omega) hbase
 unfold Oper.wp execOp
 simp only [hop, resolve, invoke, builtin, Sem.run_bind, Sem.run_pure, Result.andThen_ok, List.map_toArray, List.map_cons, List.map_nil, hs, hx, hr]
 exact h a' _ cap' w' rfl (OwnB.app h2) h3 h4
theorem BK.grow {base : Nat} {W w w' : World} {vb v2 : Value} {a : Option Addr} {n c : Nat} {l l' : List UInt8} (h : BK base W vb l v2 w) (ho : OwnB 5 w' base (.slice a n c) l') (hg : w.grownBy w' v2.ownBlock) (hat : (Value.slice a n c).ownBlock = v2.ownBlock ∨ (Value.slice a n c).ownBlock = some w.heap.size) : BK base W vb l' (.slice a n c) w' := by
 refine ⟨ho, h.2.1.trans (Kept.of_grown hg) (fun i hi e => ?_), fun k e => ?_⟩
 ·
  rcases h.2.2 i e with h1 | h1
  ·
   exact h1
  ·
   omega
 ·
  rcases hat with h1 | h1
  ·
   exact h.2.2 k (by rw [← h1]; exact e)
  ·
   rw [h1] at e
   injection e with e
   exact .inr (by rw [← e]; exact h.2.1.size)
theorem BK.rep {base : Nat} {W wr wa : World} {vb v2 : Value} {l : List UInt8} (h : BK base W vb l v2 wr) (hb : Below wr.heap.size wr wa) {xc xn xa : Int} {vd vf : Value} {D : List DT} {F : List FT}
  (hd : ∀ w', Kept (fun k => vb.ownBlock = some k) W w' → Rs DT.vs 3 w' vd D) (hf : ∀ w', Kept (fun k => vb.ownBlock = some k) W w' → Rs FT.vs 8 w' vf F)
  (hr : okI [xc, xn, xa]) (hrd : ∀ x ∈ D, okI x.ints) (hrf : ∀ x ∈ F, okI x.ints) (hll : l.length ≤ 500000000) (hbase : base ≤ W.heap.size) (hDl : D.length ≤ 1200) (hFl : F.length ≤ 1200) :
  Calls Tryz.prog 29 #[v2, .agg #[xc, xn, xa, vd, vf]] wa (BKPost base W vb (l ++ encRepP xc xn xa D F)) := by
 have hk : ∀ w', Kept (fun k => v2.ownBlock = some k) wa w' → Kept (fun k => vb.ownBlock = some k) W w' := fun w' hk =>
  (h.2.1.trans (Kept.of_below hb) (fun _ _ h => h.elim)).trans hk (fun i hi e => by
   rcases h.2.2 i e with h1 | h1
   ·
    exact h1
   ·
    omega)
 exact (rrepw_any wa base v2 l xc xn xa vd vf D F (OwnB.below h.1 hb) (fun w' h9 => hd w' (hk w' h9)) (fun w' h9 => hf w' (hk w' h9)) hr hrd hrf hll (Nat.le_trans hbase (Nat.le_trans h.2.1.size hb.size)) hDl hFl).mono fun _ _ k => h.next hb k
end Cam
