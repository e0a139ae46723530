import Derived.Test.YtlnclfiiplpaiaaDkZ
import Derived.Laws.StructEq
import Derived.ChangeKeysEq
import Derived.Test.YtlnclfiiplpaiaaDkBaz
/- Several small texts in one: DkS, DkKa, Row, Ht. No condition. -/
namespace Cam
open Go Go.RowKit Go.Proofs
def dStart (D : DK) : DK := if D.off = true ∧ D.torn = true then { dCrash D [] with off := false } else { D with off := false }
theorem DM.putOff {w : World} {g gs gn : Nat} {vo : Value} {n : Nat} {D : DK} (h : DM w g gs gn vo n D) (b : Bool) : DM (w.setCell ⟨g, 3, none⟩ (.bool b)) g gs gn vo n { D with off := b } := h.put rfl rfl rfl rfl h.ok.arm
set_option maxRecDepth 100000 in
set_option maxHeartbeats 1600000 in
theorem Start_any (w : World) (g gs gn : Nat) (vo : Value) (n : Nat) (D : DK) (h : DM w g gs gn vo n D) :
  Calls Try.prog 27 #[.pointer (some ⟨g, 0, none⟩)] w fun e w' => e = .returned (.tuple #[]) ∧ DPost w g gs gn vo n (dStart D) w' := by
 obtain ⟨hc0, hc1, hc2, hc3, hc4, hc5⟩ := h.cells
 have hcr := Crash_any w g gs gn vo n D h (.slice none 0 0) [] (fun w' _ => Is.nil w')
 have hf3 := h.hd.frozen 3
 obtain ⟨o, ho⟩ : ∃ o, o = D.off := ⟨_, rfl⟩
 obtain ⟨t, ht⟩ : ∃ t, t = D.torn := ⟨_, rfl⟩
 have HD : Hid (dStart D = if o = true ∧ t = true then { dCrash D [] with off := false } else { D with off := false }) := by show _ = _; rw [ho, ht]; rfl
 rw [← ho] at hc3
 rw [← ht] at hc5
 have Hoff := Lib.hid (h.putOff false)
 clear ho ht h hc0 hc1 hc2 hc4
 cases o with
 | true =>
  cases t with
  | true =>
   go_enter Try.func27, Try.ntmps27
   go_wp2_with fail
   refine hcr.mono ?_
   rintro e w1 ⟨rfl, vo1, hd1, hk1, ho1⟩
   have hx3 := hd1.cells.2.2.2.1
   have hg3 := hd1.hd.frozen 3
   have Hd1 := Lib.hid (hd1.putOff false)
   have Hk1 := Lib.hid hk1
   clear hd1 hk1 hc3 hc5 hf3 hcr
   go_wp2_with fail
   go_end0
   rw [HD.out, if_pos (by simp)]
   exact ⟨rfl, vo1, Hd1.out, Hk1.out.trans DM.keptPut (fun i _ e => .inl e), ho1⟩
  | false =>
   clear hcr
   go_enter Try.func27, Try.ntmps27
   go_wp2_with fail
   go_end0
   rw [HD.out, if_neg (by simp)]
   exact ⟨rfl, vo, Hoff.out, DM.keptPut.weaken (fun i e => .inl e), fun k hk => .inl hk⟩
 | false =>
  clear hcr
  go_enter Try.func27, Try.ntmps27
  go_wp2_with fail
  go_end0
  rw [HD.out, if_neg (by simp)]
  exact ⟨rfl, vo, Hoff.out, DM.keptPut.weaken (fun i e => .inl e), fun k hk => .inl hk⟩
theorem eqItems_bytes (w : World) (d : Nat) (l m : List UInt8) (hl : l.length = 64) (hm : m.length = 64) : ∀ (is : List Nat), (∀ i ∈ is, i < 64) →
  (Op.eqItems (d + 1) 5 1 (bvs l).toArray (bvs m).toArray is).run Try.prog w = .ok (decide (∀ i ∈ is, l[i]? = m[i]?)) w
 | [], _ => by simp [Op.eqItems]
 | i :: is, h => by
  have hi := h i (by simp)
  have ih := eqItems_bytes w d l m hl hm is (fun j hj => h j (by simp [hj]))
  have h1 : (bvs l).toArray[i * 1]? = some (.int .u8 ((l[i]'(by omega)).toNat : Int)) := by simp [bvs, List.getElem?_eq_getElem (show i < l.length by omega)]
  have h2 : (bvs m).toArray[i * 1]? = some (.int .u8 ((m[i]'(by omega)).toNat : Int)) := by simp [bvs, List.getElem?_eq_getElem (show i < m.length by omega)]
  have hp : ∀ (xs : Array Value) v, xs[i * 1]? = some v → (part 5 xs (i * 1)).run Try.prog w = .ok v w := fun xs v hx => run_part_plain (w := w) (by kernel_rfl) hx
  simp only [Op.eqItems, Sem.run_bind]
  rw [hp _ _ h1, Result.andThen_ok, hp _ _ h2, Result.andThen_ok, run_equalIn_int (P := Try.prog) w d 5 .u8 .u8 _ _ Try.underlying5, Result.andThen_ok]
  have e1 : l[i]? = some (l[i]'(by omega)) := List.getElem?_eq_getElem (by omega)
  have e2 : m[i]? = some (m[i]'(by omega)) := List.getElem?_eq_getElem (by omega)
  by_cases hx : l[i]'(by omega) = m[i]'(by omega)
  ·
   simp only [hx, beq_self_eq_true, Bool.not_true, Bool.false_eq_true, if_false]
   rw [ih]
   congr 1
   simp [e1, e2, hx]
  ·
   have hne : ((((l[i]'(by omega)).toNat : Int)) == ((m[i]'(by omega)).toNat : Int)) = false := by
    simp
    intro e
    exact hx (UInt8.toNat_inj.1 (by omega))
   simp only [hne, Bool.not_false, if_true]
   simp [e1, e2, hx]
set_option maxRecDepth 100000 in
theorem blocks_eq (w : World) (l m : List UInt8) (hl : l.length = 64) (hm : m.length = 64) :
  (Op.equalIn 10000 36 (.agg (bvs l).toArray) (.agg (bvs m).toArray)).run Try.prog w = .ok (decide (l = m)) w := by
 obtain ⟨i, hi⟩ : ∃ i, Try.prog.info? 5 = some i := ⟨_, rfl⟩
 rw [show (10000 : Nat) = 9999 + 1 from rfl, run_equalIn_array w 9999 _ _ Try.underlying36 hi, show Try.prog.cellsOf 5 = 1 by kernel_rfl, show (9999 : Nat) = 9998 + 1 from rfl, eqItems_bytes w 9998 l m hl hm _ (fun i hi => List.mem_range.1 hi)]
 congr 1
 apply decide_eq_decide.2
 constructor
 ·
  intro h
  apply List.ext_getElem?
  intro i
  by_cases hi : i < 64
  ·
   exact h i (List.mem_range.2 hi)
  ·
   rw [List.getElem?_eq_none (by omega), List.getElem?_eq_none (by omega)]
 ·
  rintro rfl i _
  rfl
end Cam
namespace Cam
open Go Go.RowKit Go.Proofs
theorem DPost.dm {w w' : World} {g gs gn : Nat} {vo : Value} {n : Nat} {D : DK} (h : DPost w g gs gn vo n D w') : ∃ vo', DM w' g gs gn vo' n D ∧ Kept (DS g gs gn vo) w w' ∧ ∀ k, vo'.ownBlock = some k → vo.ownBlock = some k ∨ w.heap.size ≤ k := h
def Far (B g gs gn : Nat) (vo : Value) : Prop := B ≤ g ∧ B ≤ gs ∧ B ≤ gn ∧ ∀ k, vo.ownBlock = some k → B ≤ k
theorem Far.below {B : Nat} {w w' : World} {g gs gn : Nat} {vo : Value} (h : Far B g gs gn vo) (hk : Kept (DS g gs gn vo) w w') (hB : B ≤ w.heap.size) : Below B w w' :=
 hk.below (fun k hk hs => by
  obtain ⟨h1, h2, h3, h4⟩ := h
  rcases hs with rfl | rfl | rfl | e
  ·
   omega
  ·
   omega
  ·
   omega
  ·
   have := h4 k e
   omega) hB
theorem Far.next {B : Nat} {w : World} {g gs gn : Nat} {vo vo' : Value} (h : Far B g gs gn vo) (ho : ∀ k, vo'.ownBlock = some k → vo.ownBlock = some k ∨ w.heap.size ≤ k) (hB : B ≤ w.heap.size) : Far B g gs gn vo' :=
 ⟨h.1, h.2.1, h.2.2.1, fun k hk => by
  rcases ho k hk with e | e
  ·
   exact h.2.2.2 k e
  ·
   omega⟩
theorem Read_on (w : World) (g gs gn : Nat) (vo : Value) (n : Nat) (D : DK) (h : DM w g gs gn vo n D) (hoff : D.off = false) (k : Nat) (hk : k < n) (b : List UInt8) (hb : D.now[k]? = some b) :
  Calls Try.prog 17 #[.pointer (some ⟨g, 0, none⟩), .int .i64 (k : Int)] w fun e w' => e = .returned (.tuple #[.agg (bvs b).toArray, .int .i64 0]) ∧ Below w.heap.size w w' := by
 have := Read_any w g gs gn vo n D h (k : Int)
 rw [dRight_ok hoff hk] at this
 refine this.mono ?_
 rintro e w' ⟨⟨b', rfl, h1, _⟩, hb'⟩
 have e1 := h1 rfl
 rw [Int.toNat_natCast, hb] at e1
 obtain rfl := Option.some.inj e1
 exact ⟨rfl, hb'⟩
def dWrite (D : DK) (k : Nat) (b : List UInt8) : Int × DK := if D.off = true then (7, D) else (if (dLast (dPut D k b)).1 = true then 7 else 0, (dLast (dPut D k b)).2)
set_option maxHeartbeats 1600000 in
theorem Write_any (w : World) (g gs gn : Nat) (vo : Value) (n : Nat) (D : DK) (h : DM w g gs gn vo n D) (k : Nat) (b : List UInt8) (hk : k < n) (hb : b.length = 64) (hf : D.op.length < 1000000) :
  Calls Try.prog 54 #[.pointer (some ⟨g, 0, none⟩), .int .i64 (k : Int), .agg (bvs b).toArray] w fun e w' => e = .returned (.int .i64 (dWrite D k b).1) ∧ DPost w g gs gn vo n (dWrite D k b).2 w' := by
 by_cases hoff : D.off = true
 ·
  have e : dWrite D k b = (7, D) := by unfold dWrite; rw [if_pos hoff]
  rw [e]
  have hA := h.alloc (.cells (bvs b).toArray 36)
  have hri := right_any _ g gs gn vo n D hA (k : Int)
  rw [show dRight n D (k : Int) = 7 by unfold dRight; rw [if_pos hoff]] at hri
  have HA := Lib.hid hA
  clear hA h hoff e hb hf
  go_enter Try.func54, Try.ntmps54
  go_wp2_with fail
  refine hri.mono ?_
  rintro e w1 ⟨rfl, rfl⟩
  go_wp2_with fail
  go_ret
  exact ⟨rfl, vo, HA.out, (Kept.refl _ w).alloc _, fun j hj => .inl hj⟩
 ·
  have e : dWrite D k b = (if (dLast (dPut D k b)).1 = true then 7 else 0, (dLast (dPut D k b)).2) := by unfold dWrite; rw [if_neg hoff]
  rw [e]
  exact Write_ok w g gs gn vo n D h k b (by simpa using hoff) hk hb hf
end Cam
namespace Cam
open Go Go.RowKit
variable {α : Type} {enc : α → List Value} {K : Nat}
def Rs (enc : α → List Value) (K : Nat) (w : World) (v : Value) (L : List α) : Prop := (∀ a, (enc a).length = K) ∧ Sl w v K L.length (flatW enc L)
theorem Rs.shape {w : World} {v : Value} {L : List α} (h : Rs enc K w v L) : ∃ a cap, v = .slice a L.length cap ∧ L.length ≤ cap ∧ cap ≤ 9223372036854775807 := Sl.shape h.2
theorem Rs.mono {w w' : World} {v : Value} {L : List α} (h : Rs enc K w v L) (hb : Below w.heap.size w w') : Rs enc K w' v L := ⟨h.1, Sl.mono h.2 hb⟩
theorem Rs.monoB {w w' : World} {B : Nat} {v : Value} {L : List α} (h : Rs enc K w v L) (hb : Below B w w') (hB : w.heap.size ≤ B) : Rs enc K w' v L := h.mono (hb.mono hB)
theorem Rs.alloc {w : World} {v : Value} {L : List α} (h : Rs enc K w v L) (o : Obj) : Rs enc K (w.alloc o) v L := h.mono ((Below.refl _ _).alloc (Nat.le_refl _) _)
theorem Rs.nil (he : ∀ a, (enc a).length = K) (w : World) : Rs enc K w (.slice none 0 0) ([] : List α) := ⟨he, Sl.nil w K⟩
theorem Rs.at {w : World} {a : Option Addr} {len cap : Nat} {L : List α} (h : Rs enc K w (.slice a len cap) L) (hp : 0 < L.length) (hK : 0 < K) :
  ∃ b off, a = some ⟨b, off, none⟩ ∧ b < w.heap.size ∧ ∀ i (hi : i < L.length) j u, (enc L[i])[j]? = some u → w.cell? ⟨b, off + i * K + j, none⟩ = some u := by
 have hl : (flatW enc L).length = L.length * K := flatW_length (fun a _ => h.1 a)
 obtain ⟨b, off, h1, h2, h3⟩ := Sl.at h.2 (by rw [hl]; exact Nat.mul_pos hp hK)
 refine ⟨b, off, h1, h2, fun i hi j u hu => ?_⟩
 have h5 := flatW_at (f := enc) (W := K) (fun a _ => h.1 a) hi j u hu
 have hlt := (List.getElem?_eq_some_iff.1 h5).1
 have h4 := h3 (i * K + j) hlt
 rw [Nat.add_assoc, h4]
 exact (List.getElem_eq_iff hlt).2 h5 ▸ rfl
def OwnR (enc : α → List Value) (K : Nat) (t : TypeId) (w : World) (base : Nat) (v : Value) (L : List α) : Prop := (∀ a, (enc a).length = K) ∧ w.ownsRow base t K v L.length (flatW enc L)
theorem OwnR.rs {t : TypeId} {w : World} {base : Nat} {v : Value} {L : List α} (h : OwnR enc K t w base v L) : Rs enc K w v L := ⟨h.1, Sl.of_owns h.2⟩
theorem OwnR.named {t : TypeId} {w : World} {base : Nat} {v : Value} {L : List α} (h : OwnR enc K t w base v L) : ∃ a n cap, v = .slice a n cap ∧ Hid (n = L.length) ∧ OwnR enc K t w base (.slice a n cap) L := by
 obtain ⟨a, cap, rfl, _⟩ := h.rs.shape
 exact ⟨a, _, cap, rfl, rfl, h⟩
theorem OwnR.empty (he : ∀ a, (enc a).length = K) (t : TypeId) (w : World) (base : Nat) : OwnR enc K t w base (.slice none 0 0) ([] : List α) := ⟨he, World.ownsRow_nil _ _ _ _⟩
theorem OwnR.below {t : TypeId} {w w' : World} {base : Nat} {v : Value} {L : List α} (h : OwnR enc K t w base v L) (hb : Below w.heap.size w w') : OwnR enc K t w' base v L := ⟨h.1, ownsRow_below h.2 hb⟩
theorem OwnR.belowB {t : TypeId} {w w' : World} {base B : Nat} {v : Value} {L : List α} (h : OwnR enc K t w base v L) (hb : Below B w w') (hl : ∀ g, v.ownBlock = some g → g < B) : OwnR enc K t w' base v L := ⟨h.1, ownsRow_belowB h.2 hb hl⟩
theorem OwnR.base {t : TypeId} {w : World} {base base' : Nat} {v : Value} {L : List α} (h : OwnR enc K t w base v L) (hb : base' ≤ base) : OwnR enc K t w base' v L := ⟨h.1, ownsRow_base h.2 hb⟩
theorem OwnR.alloc {t : TypeId} {w : World} {base : Nat} {v : Value} {L : List α} (h : OwnR enc K t w base v L) (o : Obj) : OwnR enc K t (w.alloc o) base v L := ⟨h.1, World.ownsRow.alloc h.2 o⟩
theorem OwnR.lt {t : TypeId} {w : World} {base : Nat} {v : Value} {L : List α} (h : OwnR enc K t w base v L) : ∀ g, v.ownBlock = some g → g < w.heap.size := fun g hg => (World.ownsRow.lt h.2 g hg).2
theorem OwnR.ge {t : TypeId} {w : World} {base : Nat} {v : Value} {L : List α} (h : OwnR enc K t w base v L) : ∀ g, v.ownBlock = some g → base ≤ g := fun g hg => (World.ownsRow.lt h.2 g hg).1
theorem OwnR.grown {t : TypeId} {w w' : World} {base : Nat} {v : Value} {row : Option Nat} {L : List α} (h : OwnR enc K t w base v L) (hg : w.grownBy w' row) (hne : ∀ k, v.ownBlock = some k → row ≠ some k) : OwnR enc K t w' base v L :=
 ⟨h.1, World.ownsRow.kept h.2 hg (by
  cases hv : v.ownBlock with
  | none => exact .inl rfl
  | some k => exact .inr (fun e => hne k hv e.symm))⟩
theorem OwnR.app {t : TypeId} {w : World} {base : Nat} {v : Value} {L M : List α} (he : ∀ a, (enc a).length = K) (h : w.ownsRow base t K v (L.length + M.length) (flatW enc L ++ flatW enc M)) : OwnR enc K t w base v (L ++ M) := by
 refine ⟨he, ?_⟩
 rw [List.length_append, show flatW enc (L ++ M) = flatW enc L ++ flatW enc M by simp [flatW]]
 exact h
theorem flatW_one (h1 : ∀ a, ∀ u ∈ enc a, u.oneCell' = true) (L : List α) : ∀ u ∈ flatW enc L, u.oneCell' = true := by
 intro u hu
 simp only [flatW, List.mem_flatten, List.mem_map] at hu
 obtain ⟨l, ⟨a, _, rfl⟩, h⟩ := hu
 exact h1 a u h
theorem Rs.one (he : ∀ a, (enc a).length = K) (w : World) (x : α) (t : TypeId) : Rs enc K (w.alloc (.cells (enc x).toArray t)) (.slice (some ⟨w.heap.size, 0, none⟩) 1 1) [x] := by
 have hb := Sl.block (n := 1) (cap := 1) (size := K) (heap_alloc_new w (.cells (enc x).toArray t)) (by simp [he]) (Nat.le_refl _) (by simp [maxLen])
 refine ⟨he, ?_⟩
 have e : flatW enc [x] = (enc x).toArray.toList := by simp [flatW]
 rw [e]
 exact hb
theorem wpList_append_rows {P : Program} {w : World} {ops : Array Oper} {rest : List Oper} {o : Oper} {a : Act} {Q : Exit → Act → World → Prop} (hgd : o.guard = none) (s x : Operand) (t : TypeId)
  (ho : o.op = .call { callee := .builtin .append, args := #[s, x], argTypes := #[t, t] })
  {e base bytes : Nat} {v vx : Value} {L M : List α} (E : Elem P t e K bytes) (hs : a.eval s = v) (hx : a.eval x = vx)
  (hown : OwnR enc K e w base v L) (hsrc : Rs enc K w vx M) (h1 : ∀ a, ∀ u ∈ enc a, u.oneCell' = true) (hlen : (L.length + M.length) * bytes ≤ 140737488355328) (hb : 0 < bytes) (hbase : base ≤ w.heap.size)
  (h : ∀ a' n' cap' w', Hid (n' = L.length + M.length) → OwnR enc K e w' base (.slice a' n' cap') (L ++ M) → w.grownBy w' v.ownBlock →
   Hid ((Value.slice a' n' cap').ownBlock = v.ownBlock ∨ (Value.slice a' n' cap').ownBlock = some w.heap.size) → Below base w w' → wpList P ops Q rest (a.put o.dst (.slice a' n' cap')) w') : wpList P ops Q (o :: rest) a w := by
 refine wpList_plain hgd fun K' hK => ?_
 have hl : L.length + M.length ≤ maxLen := by
  have := Nat.le_mul_of_pos_right (L.length + M.length) hb
  unfold maxLen
  omega
 obtain ⟨a', cap', w', hr, h2, h3, h4⟩ := run_append_sl_at (P := P) (ty := o.type) w E hown.2 hsrc.2 (flatW_one h1 M) hl hlen hbase
 unfold Oper.wp execOp
 simp only [ho, resolve, invoke, builtin, Sem.run_bind, Sem.run_pure, Result.andThen_ok, List.map_toArray, List.map_cons, List.map_nil, hs, hx, hr]
 exact hK _ _ (h a' _ cap' w' rfl (OwnR.app hown.1 h2) h3 h4 ((Below.refl _ _).grown h3 hbase (fun k hk => hown.ge k hk)))
end Cam
namespace Cam
open Go Go.RowKit
def HT (w : World) (g : Nat) (t : TypeId) (C : List Value) : Prop := w.heap[g]? = some (.cells C.toArray t (0, 0))
theorem HT.lt {w : World} {g : Nat} {t : TypeId} {C : List Value} (h : HT w g t C) : g < w.heap.size := (Array.getElem?_eq_some_iff.1 h).1
theorem HT.cell {w : World} {g : Nat} {t : TypeId} {C : List Value} (h : HT w g t C) {j : Nat} {v : Value} (hj : C[j]? = some v) : w.cell? ⟨g, j, none⟩ = some v := by
 unfold World.cell?
 rw [h]
 simpa using hj
theorem HT.isSome {w : World} {g : Nat} {t : TypeId} {C : List Value} (h : HT w g t C) {j : Nat} (hj : j < C.length) : (w.cell? ⟨g, j, none⟩).isSome = true := by
 rw [h.cell (List.getElem?_eq_getElem hj)]
 rfl
theorem HT.frozen {w : World} {g : Nat} {t : TypeId} {C : List Value} (h : HT w g t C) (j : Nat) : w.frozen? ⟨g, j, none⟩ = false := by
 unfold World.frozen?
 rw [h]
 rfl
theorem HT.shape {w : World} {g : Nat} {t : TypeId} {C : List Value} (h : HT w g t C) : w.shape? g = some (t, C.length) := by
 unfold World.shape?
 rw [h]
 simp
theorem HT.drew {w : World} {g : Nat} {t : TypeId} {C : List Value} (h : HT w g t C) : HT w.drew g t C := h
theorem HT.put {w : World} {g : Nat} {t : TypeId} {C : List Value} (h : HT w g t C) (j : Nat) (v : Value) : HT (w.setCell ⟨g, j, none⟩ v) g t (C.set j v) := by
 unfold HT
 rw [heap_setCell_same w g j _ _ v h]
 simp
theorem HT.puts {w : World} {g : Nat} {t : TypeId} {C : List Value} : ∀ {vs : List Value} {o : Nat} (_ : HT w g t C) (_ : o + vs.length ≤ C.length), HT (w.setCells g o vs) g t (splice C o vs) := by
 intro vs
 induction vs generalizing w C with
 | nil =>
  intro o h _
  have e : splice C o [] = C := by simp [splice]
  rw [e]
  exact h
 | cons v r ih =>
  intro o h hn
  simp only [List.length_cons] at hn
  have h1 := ih (o := o + 1) (h.put o v) (by rw [List.length_set]; omega)
  have e : splice (C.set o v) (o + 1) r = splice C o (v :: r) := by
   unfold splice
   apply List.ext_getElem?
   intro i
   simp only [List.getElem?_append, List.getElem?_take, List.getElem?_drop, List.getElem?_set, List.length_take, List.length_set, List.length_cons, List.getElem?_cons]
   grind
  rw [e] at h1
  exact h1
theorem HT.new {w : World} {t : TypeId} {C : List Value} : HT (w.alloc (.cells C.toArray t)) w.heap.size t C := heap_alloc_new w _
theorem HT.below {w w' : World} {g : Nat} {t : TypeId} {C : List Value} (h : HT w g t C) (hb : Below w.heap.size w w') : HT w' g t C := (hb.block g h.lt).trans h
end Cam
