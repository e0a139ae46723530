import Derived.Test.YtlnclfiiplpaiaaDkNz
/- api.Write values: built, laid into a slice, appended. -/
namespace Cam
open Go Go.RowKit Go.Proofs
theorem splice_cons (C : List Value) (o : Nat) (v : Value) (r : List Value) (h : o < C.length) : splice (C.set o v) (o + 1) r = splice C o (v :: r) := by
 unfold splice
 apply List.ext_getElem?
 intro i
 simp only [List.getElem?_append, List.getElem?_take, List.getElem?_drop, List.getElem?_set, List.length_take, List.length_set, List.length_cons, List.getElem?_cons]
 grind
theorem fold_set : ∀ (cs : List Value) (k off : Nat) (Z : Array Value), off + k + cs.length ≤ Z.size → ((cs.zipIdx k).foldl (fun a x => a.setIfInBounds (off + x.2) x.1) Z) = (splice Z.toList (off + k) cs).toArray
 | [], k, off, Z, _ => by simp [splice]
 | c :: r, k, off, Z, h => by
  simp only [List.length_cons] at h
  rw [List.zipIdx_cons, List.foldl_cons, fold_set r (k + 1) off _ (by simp; omega)]
  congr 1
  rw [Array.toList_setIfInBounds, show off + (k + 1) = off + k + 1 by omega]
  exact splice_cons _ _ _ _ (by simp; omega)
theorem fold_arr (cs : List Value) (off : Nat) (Z : Array Value) (h : off + cs.length ≤ Z.size) : (cs.toArray.zipIdx.foldl (fun a (x : Value × Nat) => a.setIfInBounds (off + x.2) x.1) Z) = (splice Z.toList off cs).toArray := by
 have := fold_set cs 0 off Z (by simpa using h)
 rw [← Array.foldl_toList, Array.toList_zipIdx]
 simpa using this
theorem fW_length {x : Nat × List UInt8} (h : x.2.length = 64) : (fW x).length = 65 := by simp [fW, h]
theorem fW_one (x : Nat × List UInt8) : ∀ v ∈ fW x, v.oneCell' = true := by
 intro v hv
 simp only [fW, List.mem_cons] at hv
 rcases hv with rfl | hv
 ·
  rfl
 ·
  exact bs_oneCell _ v hv
theorem built_struct {P : Program} {t : TypeId} {it : TypeInfo} {fields : Array Field} {z : Value} {places : List (Nat × Nat)} {parts : List (Nat × Value)} (h1 : P.info? t = some it) (h2 : P.underlying t = some (.struct fields)) (h3 : it.zero = some z)
  (h4 : fields.toList.mapM (fun f => (P.info? f.type).map fun i => (f.offset, i.size)) = some places) : P.built t parts = Instr.fill (fun i => places.toArray[i]?) z.cells parts := by
 unfold Program.built
 simp only [h1, h2, h3, h4]
theorem fill_cons {place : Nat → Option (Nat × Nat)} {Z : Array Value} {i off size : Nat} {v : Value} {rest : List (Nat × Value)} (hp : place i = some (off, size)) (hs : v.cells.size = size) (hz : off + size ≤ Z.size) :
  Instr.fill place Z ((i, v) :: rest) = Instr.fill place (splice Z.toList off v.cells.toList).toArray rest := by
 rw [Instr.fill, hp]
 simp only
 rw [if_neg (by simp; omega)]
 have := fold_arr v.cells.toList off Z (by simp; omega)
 simp only [Array.toArray_toList] at this
 rw [this]
set_option maxRecDepth 100000 in
theorem built_write (k : Nat) (b : List UInt8) (hb : b.length = 64) : Try.prog.built 100 [(0, .int .i64 (k : Int)), (1, .agg (bvs b).toArray)] = some (fW (k, b)).toArray := by
 have hi : (Try.prog.info? 100).map (·.zero) = some (some (.agg (fW (0, zero64)).toArray)) := by kernel_rfl
 cases hq : Try.prog.info? 100 with
 | none => rw [hq] at hi; cases hi
 | some it =>
  rw [hq] at hi
  simp only [Option.map_some, Option.some.injEq] at hi
  rw [built_struct (places := [(0, 1), (1, 64)]) hq Try.underlying100 hi (by kernel_rfl)]
  have hs : (bvs b).toArray.size = 64 := by simp [hb]
  have hz : (fW (0, zero64)).length = 65 := fW_length (x := (0, zero64)) zero64_length
  rw [show (Value.agg (fW (0, zero64)).toArray).cells = (fW (0, zero64)).toArray from rfl]
  rw [fill_cons (place := fun i => [(0, 1), (1, 64)].toArray[i]?) (Z := (fW (0, zero64)).toArray) (i := 0) (v := .int .i64 (k : Int)) (off := 0) (size := 1) rfl rfl (by simp [hz])]
  rw [fill_cons (place := fun i => [(0, 1), (1, 64)].toArray[i]?) (Z := (splice (fW (0, zero64)).toArray.toList 0 (Value.int .i64 (k : Int)).cells.toList).toArray) (i := 1) (v := .agg (bvs b).toArray) (off := 1) (size := 64) rfl hs (by simp [splice, Value.cells, hz])]
  rw [Instr.fill]
  refine congrArg some ?_
  simp only [Value.cells, splice, fW, List.take_zero, List.nil_append]
  simp [hb, zero64_length]
theorem step_build_write {ops : Array Oper} {o : Oper} {a : Act} {w : World} {K : Act → World → Prop} {Q : Exit → Act → World → Prop} {E : Prop} (hgd : o.guard = none) (x y : Operand) (hop : o.op = .build 100 #[(0, x), (1, y)])
  (k : Nat) (b : List UInt8) (hb : b.length = 64) (hx : a.eval x = .int .i64 (k : Int)) (hy : a.eval y = .agg (bvs b).toArray)
  (h : K (a.put o.dst (.agg (fW (k, b)).toArray)) w) : if Region.wanted o (yielded ops a.tmps) = true then Oper.wp Try.prog o a w K Q else E := by
 rw [if_pos (by simp [Region.wanted, hgd])]
 unfold Oper.wp execOp
 have hr := run_build (P := Try.prog) w 100 #[(0, .int .i64 (k : Int)), (1, .agg (bvs b).toArray)] _ (built_write k b hb)
 simp only [hop, Sem.run_bind]
 rw [show (#[(0, x), (1, y)].map fun (p : Nat × Operand) => (p.1, a.eval p.2)) = #[(0, .int .i64 (k : Int)), (1, .agg (bvs b).toArray)] by simp [hx, hy], hr]
 exact h
theorem run_lay_write (w : World) (C : List Value) (hC : C.length = 65) : (Instr.buildSlice 76 1 #[(0, .agg C.toArray)]).run Try.prog w = .ok (.slice (some ⟨w.heap.size, 0, none⟩) 1 1) (w.alloc (.cells C.toArray 100)) := by
 have hi : (Try.prog.info? 100).map (fun i => (i.zero, i.size)) = some (some (.agg (fW (0, zero64)).toArray), 65) := by kernel_rfl
 cases hq : Try.prog.info? 100 with
 | none => rw [hq] at hi; cases hi
 | some it =>
  rw [hq] at hi
  simp only [Option.map_some, Option.some.injEq, Prod.mk.injEq] at hi
  obtain ⟨h1, h2⟩ := hi
  have hz : (Value.agg (fW (0, zero64)).toArray).cells.size = 65 := by simp [Value.cells, fW_length (x := (0, zero64)) zero64_length]
  have hf := fill_cons (place := fun i => some (i * 65, 65)) (Z := (Array.range (1 * 65)).map fun x => (Value.agg (fW (0, zero64)).toArray).cells[x % (Value.agg (fW (0, zero64)).toArray).cells.size]!) (i := 0) (off := 0 * 65) (size := 65) (v := .agg C.toArray) (rest := []) rfl (by simp [Value.cells, hC]) (by simp)
  have hs : splice ((Array.range (1 * 65)).map fun x => (Value.agg (fW (0, zero64)).toArray).cells[x % (Value.agg (fW (0, zero64)).toArray).cells.size]!).toList (0 * 65) (Value.agg C.toArray).cells.toList = C := by
   simp [splice, Value.cells, hC]
  rw [hs, Instr.fill] at hf
  unfold Instr.buildSlice
  simp [run_underlying Try.underlying76, Go.sizeOf, typeInfo, zeroValue, hq, h1, h2]
  simp only [Nat.one_mul] at hf
  rw [hf]
  simp [newRow]
theorem step_lay_write {ops : Array Oper} {o : Oper} {a : Act} {w : World} {K : Act → World → Prop} {Q : Exit → Act → World → Prop} {E : Prop} (hgd : o.guard = none) (x : Operand) (hop : o.op = .buildSlice 76 1 #[(0, x)])
  (C : List Value) (hC : C.length = 65) (hx : a.eval x = .agg C.toArray)
  (h : K (a.put o.dst (.slice (some ⟨w.heap.size, 0, none⟩) 1 1)) (w.alloc (.cells C.toArray 100))) : if Region.wanted o (yielded ops a.tmps) = true then Oper.wp Try.prog o a w K Q else E := by
 rw [if_pos (by simp [Region.wanted, hgd])]
 unfold Oper.wp execOp
 have hr := run_lay_write w C hC
 simp only [hop, Sem.run_bind]
 rw [show (#[(0, x)].map fun (p : Nat × Operand) => (p.1, a.eval p.2)) = #[(0, .agg C.toArray)] by simp [hx], hr]
 exact h
theorem elem_write : Elem Try.prog 76 100 65 72 := Elem.mk' (z := .agg (fW (0, zero64)).toArray) Try.underlying76 (by kernel_rfl) (by simp [Value.cells, fW_length (x := (0, zero64)) zero64_length]) (by decide)
theorem step_append_write {ops : Array Oper} {o : Oper} {a : Act} {w : World} {K : Act → World → Prop} {Q : Exit → Act → World → Prop} {E' : Prop}
  (hg : o.guard = none) (s x : Operand) (hop : o.op = Op.call { callee := Callee.builtin Builtin.append, args := #[s, x], argTypes := #[76, 76] })
  {base n : Nat} {v vx : Value} {xs ys : List Value} (hs : a.eval s = v) (hx : a.eval x = vx)
  (hown : w.ownsRow base 100 65 v n xs) (hsrc : Sl w vx 65 1 ys) (h1 : ∀ u ∈ ys, u.oneCell' = true)
  (hn : n ≤ 1000000) (hbase : base ≤ w.heap.size)
  (h : ∀ a' cap' w', w'.ownsRow base 100 65 (.slice a' (n + 1) cap') (n + 1) (xs ++ ys) → w.grownBy w' v.ownBlock →
   ((Value.slice a' (n + 1) cap').ownBlock = v.ownBlock ∨ (Value.slice a' (n + 1) cap').ownBlock = some w.heap.size) → K (a.put o.dst (.slice a' (n + 1) cap')) w') :
  if Region.wanted o (yielded ops a.tmps) = true then Oper.wp Try.prog o a w K Q else E' := by
 rw [if_pos (by simp [Region.wanted, hg])]
 obtain ⟨a', cap', w', hr, h2, h3, h4⟩ := run_append_sl_at (P := Try.prog) (ty := o.type) w elem_write hown hsrc h1 (by unfold maxLen; omega) (by omega) hbase
 unfold Oper.wp execOp
 simp only [hop, resolve, invoke, builtin, Sem.run_bind, Sem.run_pure, Result.andThen_ok, List.map_toArray, List.map_cons, List.map_nil, hs, hx, hr]
 exact h a' cap' w' h2 h3 h4
theorem Sl.lit {w : World} {C : List Value} {t : TypeId} {size : Nat} (hC : C.length = size) : Sl (w.alloc (.cells C.toArray t)) (.slice (some ⟨w.heap.size, 0, none⟩) 1 1) size 1 C := by
 have := Sl.block (n := 1) (cap := 1) (size := size) (heap_new (w := w) (o := .cells C.toArray t) rfl) (by simpa using hC) (Nat.le_refl _) (by simp [maxLen])
 simpa using this
theorem DM.setNow {w : World} {g gs gn : Nat} {vo : Value} {n : Nat} {D : DK} (h : DM w g gs gn vo n D) {k : Nat} (hk : k < n) {b : List UInt8} (hb : b.length = 64) : DM (w.setCells gn (k * 64) (bvs b)) g gs gn vo n { D with now := D.now.set k b } := by
 have hkk := setCells_kept gn (bvs b) (k * 64) w
 obtain ⟨l1, l2, l3⟩ := h.lt
 have ok := h.ok
 have hW : ∀ a ∈ D.now, (bvs a).length = 64 := fun a ha => by rw [bvs_length]; exact ok.now.2 a ha
 have hkn : k < D.now.length := by rw [ok.now.1]; exact hk
 refine ⟨h.hd.kept hkk (by omega), h.hs.kept hkk (by omega), ?_, ?_, h.lt, ⟨ok.n1, ok.syn, ⟨by simp [ok.now.1], fun x hx => ?_⟩, ok.op, ok.few, ok.arm⟩⟩
 ·
  have := h.hn.puts (vs := bvs b) (o := k * 64) (by rw [flatW_length hW, bvs_length, hb]; have := Nat.mul_le_mul_right 64 hkn; rw [Nat.succ_mul] at this; exact this)
  rw [flatW_set hW hkn b (by rw [bvs_length, hb])] at this
  exact this
 ·
  refine ⟨h.ho.1, ?_⟩
  rcases h.ho.2 with h2 | ⟨c, cap, cur, hv, hg, hh, r⟩
  ·
   exact Or.inl h2
  ·
   have hlt : g < c := (h.row c (by rw [hv]; rfl)).1
   exact Or.inr ⟨c, cap, cur, hv, hg, (hkk.block c (Array.getElem?_eq_some_iff.1 hh).1 (by omega)).trans hh, r⟩
 ·
  rcases List.mem_or_eq_of_mem_set hx with h1 | rfl
  ·
   exact ok.now.2 x h1
  ·
   exact hb
def DPost (w : World) (g gs gn : Nat) (vo : Value) (n : Nat) (D : DK) (w' : World) : Prop := ∃ vo', DM w' g gs gn vo' n D ∧ Kept (DS g gs gn vo) w w' ∧ ∀ k, vo'.ownBlock = some k → vo.ownBlock = some k ∨ w.heap.size ≤ k
theorem DM.push {W w2 : World} {g gs gn : Nat} {vo vo' : Value} {n : Nat} {D : DK} {o : Obj} (h : DM W g gs gn vo n D) {k : Nat} (hk : k < n) {b : List UInt8} (hb : b.length = 64) (hf : D.op.length < 1000000)
  (ho : w2.ownsRow (g + 1) 100 65 vo' (D.op.length + 1) (flatW fW D.op ++ fW (k, b))) (hg : (W.alloc o).grownBy w2 vo.ownBlock) (hat : vo'.ownBlock = vo.ownBlock ∨ vo'.ownBlock = some (W.alloc o).heap.size) :
  DPost W g gs gn vo n { D with op := D.op ++ [(k, b)] } (w2.setCell ⟨g, 2, none⟩ vo') := by
 have hA := h.alloc o
 obtain ⟨l1, l2, l3⟩ := h.lt
 have hkg := Kept.of_grown hg
 have hne : ∀ j, j ≤ g → vo.ownBlock ≠ some j := fun j hj e => by have := (h.row j e).1; omega
 have hk1 : Kept (DS g gs gn vo) W w2 := ((Kept.refl _ W).alloc o).trans hkg (fun i _ e => .inr (.inr (.inr e)))
 have hk2 : Kept (fun k => k = g) w2 (w2.setCell ⟨g, 2, none⟩ vo') := (Kept.refl _ _).setCell _ _ rfl
 have ok := h.ok
 refine ⟨vo', ⟨?_, (hA.hs.kept hkg (hne gs (by omega))).kept hk2 (by omega), (hA.hn.kept hkg (hne gn (by omega))).kept hk2 (by omega), ?_, h.lt, ⟨ok.n1, ok.syn, ok.now, fun x hx => ?_, by simp; omega, ok.arm⟩⟩, hk1.trans hk2 (fun i _ e => .inl e), fun j hj => ?_⟩
 ·
  exact (hA.hd.kept hkg (hne g (Nat.le_refl _))).put 2 vo'
 ·
  have := ownsRow_setCell_other ho (a := ⟨g, 2, none⟩) (fun e => by have := (World.ownsRow.lt ho g e).1; omega) vo'
  rw [show flatW fW (D.op ++ [(k, b)]) = flatW fW D.op ++ fW (k, b) from flatW_snoc _ _ _, List.length_append]
  exact this
 ·
  rcases List.mem_append.1 hx with h1 | h1
  ·
   exact ok.op x h1
  ·
   simp at h1
   subst h1
   exact ⟨hk, hb⟩
 ·
  rcases hat with e | e
  ·
   exact .inl (by rw [← e]; exact hj)
  ·
   rw [e] at hj
   simp at hj
   exact .inr (by omega)
end Cam
