import Derived.Test.YtlnclfiiplpaiaaMem
import Derived.Maps.AppendAt
import Derived.Laws.Rows
import Derived.Laws.Tables
import Derived.OneCell
import Derived.Deep.MidRow
import Derived.Laws.CopyOwn
import Derived.Deep.RegionHeld3
import Derived.Test.YtlnclfiiplpaiaaProg
import Derived.Laws.ResultCell
/- Several small texts in one: MemA, DkM, DkBa. No condition. -/
namespace Cam
open Go Go.RowKit
structure Kept (S : Nat → Prop) (w w' : World) : Prop where
 os : w'.os = w.os
 tape : w'.tape = w.tape
 output : w'.output = w.output
 size : w.heap.size ≤ w'.heap.size
 block : ∀ k, k < w.heap.size → ¬ S k → w'.heap[k]? = w.heap[k]?
theorem Kept.refl (S : Nat → Prop) (w : World) : Kept S w w := ⟨rfl, rfl, rfl, Nat.le_refl _, fun _ _ _ => rfl⟩
theorem Kept.trans {S T : Nat → Prop} {a b c : World} (h : Kept S a b) (k : Kept T b c) (hs : ∀ i, i < a.heap.size → T i → S i) : Kept S a c :=
 ⟨k.os.trans h.os, k.tape.trans h.tape, k.output.trans h.output, Nat.le_trans h.size k.size, fun i hi hn => (k.block i (Nat.lt_of_lt_of_le hi h.size) (fun ht => hn (hs i hi ht))).trans (h.block i hi hn)⟩
theorem Kept.weaken {S T : Nat → Prop} {a b : World} (h : Kept S a b) (hs : ∀ i, S i → T i) : Kept T a b := ⟨h.os, h.tape, h.output, h.size, fun i hi hn => h.block i hi (fun ht => hn (hs i ht))⟩
theorem Kept.of_grown {w w' : World} {row : Option Nat} (h : w.grownBy w' row) : Kept (fun k => row = some k) w w' := ⟨h.os, h.tape, h.output, h.size, fun k hk hn => h.block k hk (fun e => hn e.symm)⟩
theorem Kept.alloc {S : Nat → Prop} {a b : World} (h : Kept S a b) (o : Obj) : Kept S a (b.alloc o) :=
 h.trans (T := fun _ => False) (by
  have hb := (Below.refl b.heap.size b).alloc (Nat.le_refl _) o
  exact ⟨hb.os, hb.tape, hb.output, hb.size, fun k hk _ => hb.block k hk⟩) (fun _ _ hf => hf.elim)
theorem Kept.setCell {S : Nat → Prop} {a b : World} (h : Kept S a b) (p : Addr) (u : Value) (hp : S p.block) : Kept S a (b.setCell p u) := by
 have hb : Below 0 b (b.setCell p u) := (Below.refl 0 b).setCell (Nat.zero_le _) u
 exact ⟨hb.os.trans h.os, hb.tape.trans h.tape, hb.output.trans h.output, Nat.le_trans h.size hb.size, fun k hk hn => (heap_setCell_other b p k u (fun e => hn (by rw [e]; exact hp))).trans (h.block k hk hn)⟩
theorem Kept.below {S : Nat → Prop} {w w' : World} {B : Nat} (h : Kept S w w') (hS : ∀ k, k < B → ¬ S k) (hB : B ≤ w.heap.size) : Below B w w' :=
 ⟨h.os, h.tape, h.output, h.size, fun k hk => h.block k (Nat.lt_of_lt_of_le hk hB) (hS k hk)⟩
theorem Kept.of_below {w w' : World} (h : Below w.heap.size w w') : Kept (fun _ => False) w w' := ⟨h.os, h.tape, h.output, h.size, fun k hk _ => h.block k hk⟩
theorem run_append_sl_at {P : Program} (w : World) {t ty e size bytes base n m : Nat} {v x : Value} {xs ys : List Value} (E : Elem P t e size bytes)
  (hown : w.ownsRow base e size v n xs) (hsrc : Sl w x size m ys) (h1 : ∀ u ∈ ys, u.oneCell' = true)
  (h63 : n + m ≤ maxLen) (hbytes : (n + m) * bytes ≤ 140737488355328) (hbase : base ≤ w.heap.size) :
  ∃ a cap w', (Builtin.append_ #[t, t] ty #[v, x]).run P w = .ok (.slice a (n + m) cap) w' ∧ w'.ownsRow base e size (.slice a (n + m) cap) (n + m) (xs ++ ys) ∧ w.grownBy w' v.ownBlock ∧
   ((Value.slice a (n + m) cap).ownBlock = v.ownBlock ∨ (Value.slice a (n + m) cap).ownBlock = some w.heap.size) := by
 obtain ⟨ht, ⟨i, z, hi, hz, hs, hby, hzs⟩, hp⟩ := E
 obtain ⟨hl, ao, c, rfl, hmc, hcm, ha, hc⟩ := hsrc
 cases ao with
 | none =>
  obtain rfl := ha rfl
  obtain rfl : m = 0 := by omega
  obtain rfl : ys = [] := List.eq_nil_of_length_eq_zero (by simpa using hl)
  have hrun := run_append_owned_none (P := P) (w := w) base t ty e i size ht hi v n xs hown
  obtain ⟨a, cap, hv⟩ : ∃ a cap, v = .slice a n cap := by
   rcases hown.2 with ⟨rfl, rfl⟩ | ⟨g, cap, cur, rfl, _⟩
   ·
    exact ⟨_, _, rfl⟩
   ·
    exact ⟨_, _, rfl⟩
  subst hv
  exact ⟨a, cap, w, hrun, by simpa using hown, World.grownBy.refl _ _, Or.inl rfl⟩
 | some ad =>
  obtain ⟨v', w', hr, h2, h3, h4, h5⟩ := run_append_own_at (P := P) w base t ty e i z size bytes ht hi hz hs hby hzs hp v n xs hown ad m c ys hl (hc ad rfl) h1 h63 hbytes hbase
  obtain ⟨a, cap, hv⟩ : ∃ a cap, v' = .slice a (n + m) cap := by
   rcases h2.2 with ⟨rfl, h0⟩ | ⟨g, cap, cur, rfl, _⟩
   ·
    rw [h0]; exact ⟨_, _, rfl⟩
   ·
    exact ⟨_, _, rfl⟩
  subst hv
  exact ⟨a, cap, w', hr, h2, h3, h5⟩
end Cam
namespace Cam
open Go Go.RowKit
def HC (w : World) (g : Nat) (C : List Value) : Prop := ∃ t, w.heap[g]? = some (.cells C.toArray t (0, 0))
theorem HC.lt {w : World} {g : Nat} {C : List Value} (h : HC w g C) : g < w.heap.size := by
 obtain ⟨t, h⟩ := h
 exact (Array.getElem?_eq_some_iff.1 h).1
theorem HC.kept {S : Nat → Prop} {w w' : World} {g : Nat} {C : List Value} (h : HC w g C) (hk : Kept S w w') (hg : ¬ S g) : HC w' g C := by
 have hlt := h.lt
 obtain ⟨t, h⟩ := h
 exact ⟨t, (hk.block g hlt hg).trans h⟩
theorem HC.below {w w' : World} {g : Nat} {C : List Value} (h : HC w g C) (hb : Below w.heap.size w w') : HC w' g C := h.kept (Kept.of_below hb) (fun h => h)
theorem HC.alloc {w : World} {g : Nat} {C : List Value} (h : HC w g C) (o : Obj) : HC (w.alloc o) g C := h.below ((Below.refl _ _).alloc (Nat.le_refl _) o)
theorem HC.drew {w : World} {g : Nat} {C : List Value} (h : HC w g C) : HC w.drew g C := h
theorem HC.drewN {w : World} {g : Nat} {C : List Value} (h : HC w g C) (n : Nat) : HC (w.drewN n) g C := h
theorem HC.new {w : World} {C : List Value} {t : TypeId} : HC (w.alloc (.cells C.toArray t)) w.heap.size C := ⟨t, heap_alloc_new w _⟩
theorem HC.cell {w : World} {g : Nat} {C : List Value} (h : HC w g C) {j : Nat} {v : Value} (hj : C[j]? = some v) : w.cell? ⟨g, j, none⟩ = some v := by
 obtain ⟨t, h⟩ := h
 unfold World.cell?
 rw [h]
 simpa using hj
theorem HC.frozen {w : World} {g : Nat} {C : List Value} (h : HC w g C) (j : Nat) : w.frozen? ⟨g, j, none⟩ = false := by
 obtain ⟨t, h⟩ := h
 unfold World.frozen?
 rw [h]
 rfl
theorem HC.range {w : World} {g : Nat} {C : List Value} (h : HC w g C) (o : Nat) {cs : List Value} (hc : ∀ j v, cs[j]? = some v → C[o + j]? = some v) : w.rangeAt g o cs := fun j v hv => h.cell (hc j v hv)
theorem HC.there {w : World} {g : Nat} {C : List Value} (h : HC w g C) {o n : Nat} (hn : o + n ≤ C.length) : w.there g o n := fun j hj => by
 refine ⟨?_, h.frozen _⟩
 rw [h.cell (List.getElem?_eq_getElem (by omega : o + j < C.length))]
 rfl
theorem HC.put {w : World} {g : Nat} {C : List Value} (h : HC w g C) (j : Nat) (v : Value) : HC (w.setCell ⟨g, j, none⟩ v) g (C.set j v) := by
 obtain ⟨t, h⟩ := h
 refine ⟨t, ?_⟩
 rw [heap_setCell_same w g j _ _ v h]
 simp
theorem HC.puts {w : World} {g : Nat} {C : List Value} : ∀ {vs : List Value} {o : Nat} (_ : HC w g C) (_ : o + vs.length ≤ C.length), HC (w.setCells g o vs) g (splice C o vs) := by
 intro vs
 induction vs generalizing w C with
 | nil =>
  intro o h _
  have e : splice C o [] = C := by simp [splice]
  rw [e]
  exact h
 | cons v r ih =>
  intro o h hn
  simp only [List.length_cons] at hn
  have h1 := ih (o := o + 1) (h.put o v) (by rw [List.length_set]; omega)
  have e : splice (C.set o v) (o + 1) r = splice C o (v :: r) := by
   unfold splice
   apply List.ext_getElem?
   intro i
   simp only [List.getElem?_append, List.getElem?_take, List.getElem?_drop, List.getElem?_set, List.length_take, List.length_set, List.length_cons, List.getElem?_cons]
   grind
  rw [e] at h1
  exact h1
theorem setCells_kept (g : Nat) : ∀ (vs : List Value) (o : Nat) (w : World), Kept (fun k => k = g) w (w.setCells g o vs)
 | [], _, w => Kept.refl _ w
 | v :: r, o, w => ((Kept.refl (fun k => k = g) w).setCell ⟨g, o, none⟩ v rfl).trans (setCells_kept g r (o + 1) _) (fun _ _ h => h)
def flatW {α : Type} (f : α → List Value) (L : List α) : List Value := (L.map f).flatten
theorem flatW_length {α : Type} {f : α → List Value} {W : Nat} : ∀ {L : List α}, (∀ a ∈ L, (f a).length = W) → (flatW f L).length = L.length * W
 | [], _ => by simp [flatW]
 | a :: L, h => by
  have h1 := h a (by simp)
  have h2 := flatW_length (f := f) (W := W) (L := L) (fun b hb => h b (by simp [hb]))
  simp only [flatW, List.map_cons, List.flatten_cons, List.length_append, List.length_cons] at *
  rw [h1, h2, Nat.succ_mul]
  omega
theorem flatW_at {α : Type} {f : α → List Value} {W : Nat} : ∀ {L : List α} (_ : ∀ a ∈ L, (f a).length = W) {k : Nat} (hk : k < L.length) (j : Nat) (v : Value) (_ : (f L[k])[j]? = some v), (flatW f L)[k * W + j]? = some v
 | a :: L, h, 0, _, j, v, hv => by
  have hj := (List.getElem?_eq_some_iff.1 hv).1
  simp only [flatW, List.map_cons, List.flatten_cons, Nat.zero_mul, Nat.zero_add]
  rw [List.getElem?_append_left (show j < (f a).length from hj)]
  exact hv
 | a :: L, h, k + 1, hk, j, v, hv => by
  have h1 := h a (by simp)
  have := flatW_at (f := f) (W := W) (L := L) (fun b hb => h b (by simp [hb])) (k := k) (by simpa using hk) j v hv
  simp only [flatW, List.map_cons, List.flatten_cons] at *
  rw [List.getElem?_append_right (by rw [h1, Nat.succ_mul]; omega), h1, Nat.succ_mul, show k * W + W + j - W = k * W + j by omega]
  exact this
theorem flatW_set {α : Type} {f : α → List Value} {W : Nat} : ∀ {L : List α} (_ : ∀ a ∈ L, (f a).length = W) {k : Nat} (_ : k < L.length) (b : α) (_ : (f b).length = W), splice (flatW f L) (k * W) (f b) = flatW f (L.set k b)
 | a :: L, h, 0, _, b, hb => by
  have h1 := h a (by simp)
  simp only [flatW, List.map_cons, List.flatten_cons, Nat.zero_mul, List.set_cons_zero, splice, List.take_zero, List.nil_append, Nat.zero_add]
  rw [List.drop_append_of_le_length (by omega), List.drop_of_length_le (by omega), List.nil_append]
 | a :: L, h, k + 1, hk, b, hb => by
  have h1 := h a (by simp)
  have := flatW_set (f := f) (W := W) (L := L) (fun b hb => h b (by simp [hb])) (k := k) (by simpa using hk) b hb
  have hW : (k + 1) * W = k * W + W := Nat.succ_mul k W
  have t1 : (f a ++ flatW f L).take ((k + 1) * W) = f a ++ (flatW f L).take (k * W) := by
   rw [List.take_append, List.take_of_length_le (by omega), h1, show (k + 1) * W - W = k * W by omega]
  have t2 : (f a ++ flatW f L).drop ((k + 1) * W + W) = (flatW f L).drop (k * W + W) := by
   rw [List.drop_append, List.drop_of_length_le (by omega), h1, show (k + 1) * W + W - W = k * W + W by omega, List.nil_append]
  have e1 : flatW f (a :: L) = f a ++ flatW f L := by simp [flatW]
  have e2 : flatW f ((a :: L).set (k + 1) b) = f a ++ flatW f (L.set k b) := by simp [flatW]
  rw [e1, e2, ← this]
  unfold splice
  rw [hb, t1, t2, List.append_assoc]
theorem flatW_snoc {α : Type} (f : α → List Value) (L : List α) (a : α) : flatW f (L ++ [a]) = flatW f L ++ f a := by simp [flatW]
/-! Steps of a region that draws its order. -/
theorem step_load_mid {P : Program} {ops : Array Oper} {o : Oper} {a : Act} {w : World} {K : Act → World → Prop} {Q : Exit → Act → World → Prop} {E : Prop} (hgd : o.guard = none) (ty : TypeId) (x : Operand) (ho : o.op = .load ty x)
  (b k : Nat) (hx : a.eval x = .pointer (some ⟨b, k, none⟩)) (cs : List Value) (d : TypeDesc) (hc : w.rangeAt b k cs)
  (hu : P.underlying ty = some d) (hd : d.isRow = true) (hi : (P.info? ty).map (·.size) = some cs.length)
  (h : K (a.put o.dst (.agg cs.toArray)) w) : if Region.wanted o (yielded ops a.tmps) = true then Oper.wp P o a w K Q else E := by
 rw [if_pos (by simp [Region.wanted, hgd])]
 exact wp_load_mid ty x ho b k hx cs d hc hu hd hi h
theorem step_store_mid {P : Program} {ops : Array Oper} {o : Oper} {a : Act} {w : World} {K : Act → World → Prop} {Q : Exit → Act → World → Prop} {E : Prop} (hgd : o.guard = none) (ty : TypeId) (x y : Operand) (ho : o.op = .store ty x y)
  (b k : Nat) (cs : List Value) (hx : a.eval x = .pointer (some ⟨b, k, none⟩)) (hy : a.eval y = .agg cs.toArray)
  (ht : w.there b k cs.length) (hi : (P.info? ty).map (·.size) = some cs.length) (h1 : ∀ v ∈ cs, v.oneCell' = true)
  (h : K (a.put o.dst undef) (w.setCells b k cs)) : if Region.wanted o (yielded ops a.tmps) = true then Oper.wp P o a w K Q else E := by
 rw [if_pos (by simp [Region.wanted, hgd])]
 exact wp_store_mid ty x y ho b k cs.toArray hx hy (by simpa using ht) (by simpa using hi) (all_oneCell_toArray h1) (by simpa using h)
end Cam
namespace Cam
open Go Go.RowKit Go.Proofs
theorem size64 : (Try.prog.info? 36).map (·.size) = some 64 := by kernel_rfl
theorem bvs_length (l : List UInt8) : (bvs l).length = l.length := by simp [bvs]
theorem size64_of {l : List UInt8} (h : l.length = 64) : (Try.prog.info? 36).map (·.size) = some (bvs l).length := by rw [bvs_length, h]; exact size64
theorem HC.bytes {w : World} {g : Nat} {l : List UInt8} (h : HC w g (bvs l)) : w.rangeAt g 0 (bvs l) := h.range 0 (fun j v hv => by rw [Nat.zero_add]; exact hv)
theorem HC.room {w : World} {g : Nat} {l m : List UInt8} (h : HC w g (bvs l)) (hl : l.length = 64) (hm : m.length = 64) : w.there g 0 (bvs m).length := h.there (by rw [bvs_length, bvs_length]; omega)
theorem splice_all (l m : List UInt8) (h : l.length = m.length) : splice (bvs l) 0 (bvs m) = bvs m := by
 unfold splice
 rw [List.take_zero, List.nil_append, Nat.zero_add, List.drop_of_length_le (by rw [bvs_length, bvs_length]; omega), List.append_nil]
theorem ret_row {fn : Func} {p : Tmp} (h : fn.results = #[.cell p 36]) {tmps : Array Value} {w : World} {g : Nat} {l : List UInt8} (hc : HC w g (bvs l)) (hl : l.length = 64) (hp : tmps.getD p undef = .pointer (some ⟨g, 0, none⟩)) :
  (results fn tmps).run Try.prog w = .ok (.agg (bvs l).toArray) w := by
 obtain ⟨t, ht⟩ := hc
 exact results_cell_row h tmps w g t _ (0, 0) _ hp ht Try.underlying36 rfl (by simpa using size64_of hl)
end Cam
