import Derived.WalkKit
import Derived.Laws.AppendOwnNone
import Derived.Deep.RegionLaw
import Derived.Deep.QuietTactic
import Derived.BigQuiet
import Derived.Lib.Hide
import Derived.Lib.SmallJoins
import Derived.WalkLawsBesides
import Derived.WalkSpells
/- Words for memory: 'Sl': a slice value that reads as a list of cells; 'Bs': a slice of bytes. No program in sight. -/
namespace Cam
open Go Go.RowKit
set_option linter.unusedVariables false
set_option linter.unusedSimpArgs false
set_option maxHeartbeats 200000
def Sl (w : World) (v : Value) (size n : Nat) (cs : List Value) : Prop :=
 cs.length = n * size ∧ ∃ a cap, v = .slice a n cap ∧ n ≤ cap ∧ cap ≤ maxLen ∧ (a = none → cap = 0) ∧
  ∀ ad, a = some ad → ∀ i u, cs[i]? = some u → w.cell? (ad.add i) = some u
theorem add_none (b off i : Nat) : (⟨b, off, none⟩ : Addr).add i = ⟨b, off + i, none⟩ := Addr.add_lit b off i
theorem Sl.shape {w : World} {v : Value} {size n : Nat} {cs : List Value} (h : Sl w v size n cs) : ∃ a cap, v = .slice a n cap ∧ n ≤ cap ∧ cap ≤ 9223372036854775807 := by
 obtain ⟨_, a, cap, h1, h2, h3, _⟩ := h
 exact ⟨a, cap, h1, h2, by unfold maxLen at h3; omega⟩
theorem Sl.at {w : World} {a : Option Addr} {len cap size n : Nat} {cs : List Value} (h : Sl w (.slice a len cap) size n cs) (hp : 0 < cs.length) :
  ∃ b off, a = some ⟨b, off, none⟩ ∧ b < w.heap.size ∧ ∀ i (hi : i < cs.length), w.cell? ⟨b, off + i, none⟩ = some cs[i] := by
 obtain ⟨h0, a', cap', hv, hn, hm, ha, hc⟩ := h
 cases hv
 cases a with
 | none =>
  have h1 := ha rfl
  subst h1
  have h2 : len = 0 := by omega
  subst h2
  simp at h0
  subst h0
  simp at hp
 | some ad =>
  obtain ⟨b, off, spot⟩ := ad
  have h1 := hc _ rfl 0 cs[0] (by simp [hp])
  have hs : spot = none := by simpa [Addr.add] using World.cell?_spot h1
  subst hs
  refine ⟨b, off, rfl, ?_, ?_⟩
  ·
   have := World.block_lt_of_cell? w _ h1
   simpa [add_none] using this
  ·
   intro i hi
   have := hc _ rfl i cs[i] (by simp [hi])
   rwa [add_none] at this
theorem Sl.mono {w w' : World} {v : Value} {size n : Nat} {cs : List Value} (h : Sl w v size n cs) (hb : Below w.heap.size w w') : Sl w' v size n cs := by
 obtain ⟨h0, a, cap, hv, hn, hm, ha, hc⟩ := h
 refine ⟨h0, a, cap, hv, hn, hm, ha, fun ad had i u hu => ?_⟩
 have h1 := hc ad had i u hu
 rw [hb.cell (World.block_lt_of_cell? w _ h1)]
 exact h1
theorem Sl.cut {w : World} {a : Option Addr} {len cap size n : Nat} {cs : List Value} (h : Sl w (.slice a len cap) size n cs) (lo hi : Nat) (h1 : lo ≤ hi) (h2 : hi ≤ n) :
  Sl w (.slice (if cap = lo then a else a.map (·.add (lo * size))) (hi - lo) (cap - lo)) size (hi - lo) ((cs.drop (lo * size)).take ((hi - lo) * size)) := by
 obtain ⟨h0, a', cap', hv, hn, hm, ha, hc⟩ := h
 cases hv
 refine ⟨?_, _, _, rfl, by omega, by omega, ?_, ?_⟩
 ·
  rw [List.length_take, List.length_drop, h0, ← Nat.sub_mul]
  exact Nat.min_eq_left (Nat.mul_le_mul_right _ (by omega))
 ·
  intro hx
  split at hx
  ·
   next e => omega
  ·
   have := ha (by simpa using hx)
   omega
 ·
  intro ad had i u hu
  rw [List.getElem?_take] at hu
  split at hu
  case isFalse => cases hu
  case isTrue hlt =>
  rw [List.getElem?_drop] at hu
  split at had
  ·
   next e =>
   have : hi - lo = 0 := by omega
   rw [this] at hlt
   omega
  ·
   cases a with
   | none => cases had
   | some ad0 =>
    simp at had
    subst had
    have h3 := hc ad0 rfl (lo * size + i) u hu
    by_cases hz : lo * size = 0
    ·
     rw [hz] at h3 ⊢
     simpa [Addr.add] using h3
    ·
     by_cases hi0 : i = 0
     ·
      subst hi0
      simpa [Addr.add] using h3
     ·
      rw [show (ad0.add (lo * size)).add i = ad0.add (lo * size + i) by simp [Addr.add, hz, hi0, Nat.add_assoc]]
      exact h3
theorem Sl.nil (w : World) (size : Nat) : Sl w (.slice none 0 0) size 0 [] :=
 ⟨by simp, none, 0, rfl, Nat.le_refl _, by simp [maxLen], fun _ => rfl, fun _ h => by cases h⟩
theorem Sl.of_owns {w : World} {base e size : Nat} {v : Value} {n : Nat} {xs : List Value} (h : w.ownsRow base e size v n xs) : Sl w v size n xs := by
 refine ⟨h.1, ?_⟩
 rcases h.2 with ⟨rfl, rfl⟩ | ⟨g, cap, cur, rfl, hg, hh, hn, hm, hs, ht⟩
 ·
  exact ⟨none, 0, rfl, Nat.le_refl _, by simp [maxLen], fun _ => rfl, fun _ h => by cases h⟩
 ·
  refine ⟨_, _, rfl, hn, hm, ?_, fun ad had i u hu => ?_⟩
  ·
   intro h; cases h
  cases had
  exact h.cells (g := g) rfl i u hu
def Bs (w : World) (v : Value) (l : List UInt8) : Prop := Sl w v 1 l.length (l.map fun c => .int .u8 (c.toNat : Int))
theorem Bs.shape {w : World} {v : Value} {l : List UInt8} (h : Bs w v l) : ∃ a cap, v = .slice a l.length cap ∧ l.length ≤ cap ∧ cap ≤ 9223372036854775807 := Sl.shape h
theorem Bs.at {w : World} {a : Option Addr} {len cap : Nat} {l : List UInt8} (h : Bs w (.slice a len cap) l) (hp : 0 < l.length) :
  ∃ b off, a = some ⟨b, off, none⟩ ∧ b < w.heap.size ∧ ∀ i (hi : i < l.length), w.cell? ⟨b, off + i, none⟩ = some (.int .u8 (l[i].toNat : Int)) := by
 obtain ⟨b, off, h1, h2, h3⟩ := Sl.at h (by simpa using hp)
 exact ⟨b, off, h1, h2, fun i hi => by rw [h3 i (by simpa using hi), List.getElem_map]⟩
theorem Bs.mono {w w' : World} {v : Value} {l : List UInt8} (h : Bs w v l) (hb : Below w.heap.size w w') : Bs w' v l := Sl.mono h hb
theorem Bs.cut {w : World} {a : Option Addr} {len cap : Nat} {l : List UInt8} (h : Bs w (.slice a len cap) l) (lo hi : Nat) (h1 : lo ≤ hi) (h2 : hi ≤ l.length) :
  Bs w (.slice (if cap = lo then a else a.map (·.add (lo * 1))) (hi - lo) (cap - lo)) ((l.drop lo).take (hi - lo)) := by
 have := Sl.cut h lo hi h1 h2
 unfold Bs
 have e : ((l.drop lo).take (hi - lo)).length = hi - lo := by rw [List.length_take, List.length_drop]; omega
 rw [e]
 simpa [List.map_take, List.map_drop] using this
theorem Bs.nil (w : World) : Bs w (.slice none 0 0) [] := Sl.nil w 1
theorem Bs.of_owns {w : World} {base e : Nat} {v : Value} {n : Nat} {l : List UInt8} (h : w.ownsRow base e 1 v n (l.map fun c => .int .u8 (c.toNat : Int))) : Bs w v l := by
 have := Sl.of_owns h
 have hn : n = l.length := by simpa using h.1.symm
 subst hn
 exact this
theorem bs_oneCell (l : List UInt8) : ∀ u ∈ l.map (fun c => Value.int .u8 (c.toNat : Int)), u.oneCell' = true := by
 intro u hu
 obtain ⟨_, _, rfl⟩ := List.mem_map.1 hu
 rfl
abbrev bvs (l : List UInt8) : List Value := l.map fun c => .int .u8 (c.toNat : Int)
def OwnB (t : TypeId) (w : World) (base : Nat) (v : Value) (l : List UInt8) : Prop := w.ownsRow base t 1 v l.length (bvs l)
theorem OwnB.bs {t : TypeId} {w : World} {base : Nat} {v : Value} {l : List UInt8} (h : OwnB t w base v l) : Bs w v l := Bs.of_owns h
theorem OwnB.shape {t : TypeId} {w : World} {base : Nat} {v : Value} {l : List UInt8} (h : OwnB t w base v l) : ∃ a cap, v = .slice a l.length cap := by
 obtain ⟨a, cap, h, _⟩ := h.bs.shape
 exact ⟨a, cap, h⟩
theorem ownsRow_below {w w' : World} {base e size : Nat} {v : Value} {n : Nat} {xs : List Value} (h : w.ownsRow base e size v n xs) (hb : Below w.heap.size w w') : w'.ownsRow base e size v n xs := by
 refine ⟨h.1, ?_⟩
 rcases h.2 with h2 | ⟨g, cap, cur, hv, hg, hh, r⟩
 ·
  exact Or.inl h2
 ·
  refine Or.inr ⟨g, cap, cur, hv, hg, ?_, r⟩
  rw [hb.block g (Array.getElem?_eq_some_iff.1 hh).1]
  exact hh
theorem ownsRow_base {w : World} {base base' e size : Nat} {v : Value} {n : Nat} {xs : List Value} (h : w.ownsRow base e size v n xs) (hb : base' ≤ base) : w.ownsRow base' e size v n xs := by
 refine ⟨h.1, ?_⟩
 rcases h.2 with h2 | ⟨g, cap, cur, hv, hg, r⟩
 ·
  exact Or.inl h2
 ·
  exact Or.inr ⟨g, cap, cur, hv, by omega, r⟩
theorem OwnB.below {t : TypeId} {w w' : World} {base : Nat} {v : Value} {l : List UInt8} (h : OwnB t w base v l) (hb : Below w.heap.size w w') : OwnB t w' base v l := ownsRow_below h hb
theorem OwnB.base {t : TypeId} {w : World} {base base' : Nat} {v : Value} {l : List UInt8} (h : OwnB t w base v l) (hb : base' ≤ base) : OwnB t w base' v l := ownsRow_base h hb
def Bss (w : World) (v : Value) (ls : List (List UInt8)) : Prop :=
 ∃ vs : List Value, vs.length = ls.length ∧ Sl w v 1 ls.length vs ∧ ∀ i (h : i < ls.length) (h' : i < vs.length), Bs w vs[i] ls[i]
theorem Bss.mono {w w' : World} {v : Value} {ls : List (List UInt8)} (h : Bss w v ls) (hb : Below w.heap.size w w') : Bss w' v ls := by
 obtain ⟨vs, h1, h2, h3⟩ := h
 exact ⟨vs, h1, h2.mono hb, fun i hi hi' => (h3 i hi hi').mono hb⟩
def RetB (t : TypeId) (w : World) (l : List UInt8) (e : Ending) (w' : World) : Prop := ∃ v, e = .returned v ∧ OwnB t w' w.heap.size v l ∧ Below w.heap.size w w'
structure Elem (P : Program) (t e size bytes : Nat) : Prop where
 ht : P.underlying t = some (.slice e)
 info : ∃ i z, P.info? e = some i ∧ i.zero = some z ∧ i.size = size ∧ i.bytes = bytes ∧ z.cells.size = size
 pos : 0 < size
theorem Elem.mk' {P : Program} {t e size bytes : Nat} {z : Value} (ht : P.underlying t = some (.slice e))
  (h : (P.info? e).map (fun i => (i.zero, i.size, i.bytes)) = some (some z, size, bytes)) (hz : z.cells.size = size) (hp : 0 < size) : Elem P t e size bytes := by
 obtain ⟨i, h1, h2, h3, h4⟩ := info_parts h
 exact ⟨ht, ⟨i, z, h1, h2, h3, h4, hz⟩, hp⟩
theorem run_append_sl {P : Program} (w : World) {t ty e size bytes base n m : Nat} {v x : Value} {xs ys : List Value} (E : Elem P t e size bytes)
  (hown : w.ownsRow base e size v n xs) (hsrc : Sl w x size m ys) (h1 : ∀ u ∈ ys, u.oneCell' = true)
  (h63 : n + m ≤ maxLen) (hbytes : (n + m) * bytes ≤ 140737488355328) (hbase : base ≤ w.heap.size) :
  ∃ a cap w', (Builtin.append_ #[t, t] ty #[v, x]).run P w = .ok (.slice a (n + m) cap) w' ∧ w'.ownsRow base e size (.slice a (n + m) cap) (n + m) (xs ++ ys) ∧ w.grownBy w' v.ownBlock := by
 obtain ⟨ht, ⟨i, z, hi, hz, hs, hby, hzs⟩, hp⟩ := E
 obtain ⟨hl, ao, c, rfl, hmc, hcm, ha, hc⟩ := hsrc
 cases ao with
 | none =>
  obtain rfl := ha rfl
  obtain rfl : m = 0 := by omega
  obtain rfl : ys = [] := List.eq_nil_of_length_eq_zero (by simpa using hl)
  have hrun := run_append_owned_none (P := P) (w := w) base t ty e i size ht hi v n xs hown
  obtain ⟨a, cap, hv⟩ : ∃ a cap, v = .slice a n cap := by
   rcases hown.2 with ⟨rfl, rfl⟩ | ⟨g, cap, cur, rfl, _⟩
   ·
    exact ⟨_, _, rfl⟩
   ·
    exact ⟨_, _, rfl⟩
  subst hv
  exact ⟨a, cap, w, hrun, by simpa using hown, World.grownBy.refl _ _⟩
 | some ad =>
  obtain ⟨v', w', hr, h2, h3, h4⟩ := run_append_own (P := P) w base t ty e i z size bytes ht hi hz hs hby hzs hp v n xs hown ad m c ys hl (hc ad rfl) h1 h63 hbytes hbase
  obtain ⟨a, cap, hv⟩ : ∃ a cap, v' = .slice a (n + m) cap := by
   rcases h2.2 with ⟨rfl, h0⟩ | ⟨g, cap, cur, rfl, _⟩
   ·
    rw [h0]; exact ⟨_, _, rfl⟩
   ·
    exact ⟨_, _, rfl⟩
  subst hv
  exact ⟨a, cap, w', hr, h2, h3⟩
theorem wpList_append_sl {P : Program} {w : World} {ops : Array Oper} {rest : List Oper} {o : Oper} {a : Act} {Q : Exit → Act → World → Prop} (hgd : o.guard = none) (s x : Operand) (t : TypeId)
  (ho : o.op = .call { callee := .builtin .append, args := #[s, x], argTypes := #[t, t] })
  {e size bytes base n m : Nat} {v vx : Value} {xs ys : List Value} (E : Elem P t e size bytes) (hs : a.eval s = v) (hx : a.eval x = vx)
  (hown : w.ownsRow base e size v n xs) (hsrc : Sl w vx size m ys) (h1 : ∀ u ∈ ys, u.oneCell' = true)
  (h63 : n + m ≤ maxLen) (hbytes : (n + m) * bytes ≤ 140737488355328) (hbase : base ≤ w.heap.size)
  (h : ∀ a' cap' w', w'.ownsRow base e size (.slice a' (n + m) cap') (n + m) (xs ++ ys) → w.grownBy w' v.ownBlock → Below base w w' → wpList P ops Q rest (a.put o.dst (.slice a' (n + m) cap')) w') : wpList P ops Q (o :: rest) a w := by
 refine wpList_plain hgd fun K hK => ?_
 obtain ⟨a', cap', w', hr, h2, h3⟩ := run_append_sl (P := P) (ty := o.type) w E hown hsrc h1 h63 hbytes hbase
 unfold Oper.wp execOp
 simp only [ho, resolve, invoke, builtin, Sem.run_bind, Sem.run_pure, Result.andThen_ok, List.map_toArray, List.map_cons, List.map_nil, hs, hx, hr]
 exact hK _ _ (h a' cap' w' h2 h3 ((Below.refl _ _).grown h3 hbase (fun k hk => (hown.lt k hk).1)))
theorem Sl.one (w : World) (x : Value) (e : TypeId) : Sl (w.alloc (.cells #[x] e)) (.slice (some ⟨w.heap.size, 0, none⟩) 1 1) 1 1 [x] := by
 refine ⟨by simp, _, _, rfl, Nat.le_refl _, by simp [maxLen], (fun h => by cases h), fun ad had i u hu => ?_⟩
 cases had
 have : i = 0 := by
  have := (List.getElem?_eq_some_iff.1 hu).1
  simpa using this
 subst this
 simp at hu
 subst hu
 simp [Addr.add, World.cell?_alloc_new]
theorem OwnB.alloc {t : TypeId} {w : World} {base : Nat} {v : Value} {l : List UInt8} (h : OwnB t w base v l) (o : Obj) : OwnB t (w.alloc o) base v l := World.ownsRow.alloc h o
theorem OwnB.snoc {t : TypeId} {w : World} {base : Nat} {v : Value} {l : List UInt8} {x : Int} (c : UInt8) (h : w.ownsRow base t 1 v (l.length + 1) (bvs l ++ [.int .u8 x])) (hx : x = (c.toNat : Int)) : OwnB t w base v (l ++ [c]) := by
 subst hx
 unfold OwnB
 simpa using h
theorem OwnB.app {t : TypeId} {w : World} {base : Nat} {v : Value} {l m : List UInt8} (h : w.ownsRow base t 1 v (l.length + m.length) (bvs l ++ bvs m)) : OwnB t w base v (l ++ m) := by
 unfold OwnB
 simpa using h
theorem Below.setRow {B : Nat} {a w : World} (h : Below B a w) {g : Nat} (hg : B ≤ g) (cs : Array Value) : Below B a (w.setRow g cs) :=
 h.trans ⟨rfl, rfl, rfl, by simp, fun k hk => setRow_other w g k _ (by omega)⟩
theorem heap_at (w : World) (o : Obj) (k : Nat) : (w.alloc o).heap[k]? = if k = w.heap.size then some o else w.heap[k]? := by
 show (w.heap.push o)[k]? = _
 rw [Array.getElem?_push]
theorem Sl.block {w : World} {g n cap size : Nat} {C : Array Value} {e : TypeId} {fr : Nat × Nat} (h : w.heap[g]? = some (.cells C e fr)) (hs : C.size = n * size) (hn : n ≤ cap) (hm : cap ≤ maxLen) :
  Sl w (.slice (some ⟨g, 0, none⟩) n cap) size n C.toList := by
 refine ⟨by simpa using hs, _, _, rfl, hn, hm, (fun h => by cases h), fun ad had i u hu => ?_⟩
 cases had
 rw [add_none, Nat.zero_add, cell_of_row w g i C e fr h]
 simpa using hu
theorem Bs.block {w : World} {g cap : Nat} {l : List UInt8} {e : TypeId} {fr : Nat × Nat} (h : w.heap[g]? = some (.cells (bvs l).toArray e fr)) (hn : l.length ≤ cap) (hm : cap ≤ maxLen) :
  Bs w (.slice (some ⟨g, 0, none⟩) l.length cap) l := by
 have := Sl.block (size := 1) (n := l.length) h (by simp) hn hm
 unfold Bs
 simpa using this
theorem zA {α : Type} (l : List α) (i : Nat) (a : α) : l.toArray.setIfInBounds i a = (l.set i a).toArray := by simp
theorem zB {α : Type} (x y : α) (l : List α) : (x :: l).set 0 y = y :: l := rfl
theorem zC {α : Type} (x y : α) (l : List α) (n : Nat) : (x :: l).set (n + 1) y = x :: l.set n y := rfl
end Cam
namespace Go.RowKit
open Go
theorem Below.next {w w1 w2 : World} (h : Below w.heap.size w w1) (h2 : Below w1.heap.size w1 w2) : Below w.heap.size w w2 :=
 h.trans (h2.mono h.size)
end Go.RowKit
namespace Go.RowKit
open Go
theorem Below.next' {B : Nat} {w w1 w2 : World} (h : Below B w w1) (h2 : Below w1.heap.size w1 w2) (hB : B ≤ w.heap.size) : Below B w w2 :=
 h.trans (h2.mono (Nat.le_trans hB h.size))
end Go.RowKit
namespace Cam
open Go Go.RowKit
set_option linter.unusedVariables false
set_option linter.unusedSimpArgs false
set_option maxHeartbeats 200000
theorem Bs.drew {w : World} {v : Value} {l : List UInt8} (h : Bs w v l) : Bs w.drew v l := h.mono (Below.refl _ _).drew
theorem Bs.drewN {w : World} {v : Value} {l : List UInt8} (h : Bs w v l) (n : Nat) : Bs (w.drewN n) v l := h.mono ⟨rfl, rfl, rfl, Nat.le_refl _, fun _ _ => rfl⟩
theorem Bs.alloc {w : World} {v : Value} {l : List UInt8} (h : Bs w v l) (o : Obj) : Bs (w.alloc o) v l := h.mono ((Below.refl _ _).alloc (Nat.le_refl _) _)
theorem heap_new {w : World} {o : Obj} {n : Nat} (hn : n = w.heap.size) : (w.alloc o).heap[n]? = some o := by rw [heap_at, if_pos hn]
end Cam
namespace Cam
open Go Go.RowKit
set_option linter.unusedVariables false
set_option linter.unusedSimpArgs false
set_option maxHeartbeats 200000
theorem OwnB.lt {t : TypeId} {w : World} {base : Nat} {v : Value} {l : List UInt8} (h : OwnB t w base v l) : ∀ g, v.ownBlock = some g → g < w.heap.size := fun g hg => (World.ownsRow.lt h g hg).2
theorem OwnB.empty (t : TypeId) (w : World) (base : Nat) : OwnB t w base (.slice none 0 0) [] := World.ownsRow_nil _ _ _ _
theorem wpList_append_bytes {P : Program} {w : World} {ops : Array Oper} {rest : List Oper} {o : Oper} {a : Act} {Q : Exit → Act → World → Prop} (hgd : o.guard = none) (s x : Operand) (t : TypeId)
  (ho : o.op = .call { callee := .builtin .append, args := #[s, x], argTypes := #[t, t] })
  {e base : Nat} {v vx : Value} {l m : List UInt8} (E : Elem P t e 1 1) (hs : a.eval s = v) (hx : a.eval x = vx)
  (hown : OwnB e w base v l) (hsrc : Bs w vx m) (hlen : l.length + m.length ≤ 140737488355328) (hbase : base ≤ w.heap.size)
  (h : ∀ a' n' cap' w', Hid (n' = l.length + m.length) → OwnB e w' base (.slice a' n' cap') (l ++ m) → Below base w w' → w.grownBy w' v.ownBlock → wpList P ops Q rest (a.put o.dst (.slice a' n' cap')) w') : wpList P ops Q (o :: rest) a w :=
 wpList_append_sl hgd s x t ho E hs hx hown hsrc (bs_oneCell m) (by unfold maxLen; omega) (by omega) hbase (fun a' cap' w' h1 h2 h3 => h a' _ cap' w' rfl (OwnB.app h1) h3 h2)
theorem OwnB.named {t : TypeId} {w : World} {base : Nat} {v : Value} {l : List UInt8} (h : OwnB t w base v l) : ∃ a n cap, v = .slice a n cap ∧ Hid (n = l.length) ∧ OwnB t w base (.slice a n cap) l := by
 obtain ⟨a, cap, rfl⟩ := h.shape
 exact ⟨a, _, cap, rfl, rfl, h⟩
end Cam
namespace Cam
open Go Go.RowKit
set_option linter.unusedVariables false
set_option linter.unusedSimpArgs false
set_option maxHeartbeats 200000
theorem Bs.monoB {w w' : World} {B : Nat} {v : Value} {l : List UInt8} (h : Bs w v l) (hb : Below B w w') (hB : w.heap.size ≤ B) : Bs w' v l := h.mono (hb.mono hB)
def Is (w : World) (v : Value) (l : List Int) : Prop := Sl w v 1 l.length (l.map (Value.int .i64))
theorem Is.shape {w : World} {v : Value} {l : List Int} (h : Is w v l) : ∃ a cap, v = .slice a l.length cap ∧ l.length ≤ cap ∧ cap ≤ 9223372036854775807 := Sl.shape h
theorem Is.at {w : World} {a : Option Addr} {len cap : Nat} {l : List Int} (h : Is w (.slice a len cap) l) (hp : 0 < l.length) :
  ∃ b off, a = some ⟨b, off, none⟩ ∧ b < w.heap.size ∧ ∀ i (hi : i < l.length), w.cell? ⟨b, off + i, none⟩ = some (.int .i64 l[i]) := by
 obtain ⟨b, off, h1, h2, h3⟩ := Sl.at h (by simpa using hp)
 exact ⟨b, off, h1, h2, fun i hi => by rw [h3 i (by simpa using hi), List.getElem_map]⟩
theorem Is.mono {w w' : World} {v : Value} {l : List Int} (h : Is w v l) (hb : Below w.heap.size w w') : Is w' v l := Sl.mono h hb
theorem Is.monoB {w w' : World} {B : Nat} {v : Value} {l : List Int} (h : Is w v l) (hb : Below B w w') (hB : w.heap.size ≤ B) : Is w' v l := h.mono (hb.mono hB)
theorem Is.nil (w : World) : Is w (.slice none 0 0) [] := Sl.nil w 1
theorem Is.alloc {w : World} {v : Value} {l : List Int} (h : Is w v l) (o : Obj) : Is (w.alloc o) v l := h.mono ((Below.refl _ _).alloc (Nat.le_refl _) _)
theorem Is.block {w : World} {g cap : Nat} {l : List Int} {e : TypeId} {fr : Nat × Nat} (h : w.heap[g]? = some (.cells (l.map (Value.int .i64)).toArray e fr)) (hn : l.length ≤ cap) (hm : cap ≤ maxLen) :
  Is w (.slice (some ⟨g, 0, none⟩) l.length cap) l := by
 have := Sl.block (size := 1) (n := l.length) h (by simp) hn hm
 unfold Is
 simpa using this
theorem Is.lit1 (w : World) (n : Int) (e : TypeId) : Is (w.alloc (.cells #[.int .i64 n] e)) (.slice (some ⟨w.heap.size, 0, none⟩) 1 1) [n] := Is.block (l := [n]) (heap_new rfl) (Nat.le_refl _) (by simp [maxLen])
def OwnI (t : TypeId) (w : World) (base : Nat) (v : Value) (l : List Int) : Prop := w.ownsRow base t 1 v l.length (l.map (Value.int .i64))
theorem OwnI.is {t : TypeId} {w : World} {base : Nat} {v : Value} {l : List Int} (h : OwnI t w base v l) : Is w v l := Sl.of_owns h
theorem OwnI.named {t : TypeId} {w : World} {base : Nat} {v : Value} {l : List Int} (h : OwnI t w base v l) : ∃ a n cap, v = .slice a n cap ∧ Hid (n = l.length) ∧ OwnI t w base (.slice a n cap) l := by
 obtain ⟨a, cap, rfl, _⟩ := h.is.shape
 exact ⟨a, _, cap, rfl, rfl, h⟩
theorem OwnI.below {t : TypeId} {w w' : World} {base : Nat} {v : Value} {l : List Int} (h : OwnI t w base v l) (hb : Below w.heap.size w w') : OwnI t w' base v l := ownsRow_below h hb
theorem OwnI.empty (t : TypeId) (w : World) (base : Nat) : OwnI t w base (.slice none 0 0) [] := World.ownsRow_nil _ _ _ _
theorem OwnI.alloc {t : TypeId} {w : World} {base : Nat} {v : Value} {l : List Int} (h : OwnI t w base v l) (o : Obj) : OwnI t (w.alloc o) base v l := World.ownsRow.alloc h o
theorem OwnI.app {t : TypeId} {w : World} {base : Nat} {v : Value} {l m : List Int} (h : w.ownsRow base t 1 v (l.length + m.length) (l.map (Value.int .i64) ++ m.map (Value.int .i64))) : OwnI t w base v (l ++ m) := by
 unfold OwnI
 simpa using h
theorem below_drewN' {B : Nat} {a w : World} (h : Below B a w) (n : Nat) : Below B a (w.drewN n) := ⟨h.os, h.tape, h.output, h.size, h.block⟩
instance : Coe Int Value := ⟨fun n => .int .i64 n⟩
instance : Coe Nat Value := ⟨fun n => .int .i64 (n : Int)⟩
instance : Coe Unit Value := ⟨fun _ => .slice none 0 0⟩
theorem Lh {p : Prop} (h : p) : Hid p := Lib.hid h
theorem Bn {w : World} {o : Obj} : Below w.heap.size w (w.alloc o) := (Below.refl _ _).alloc (Nat.le_refl _) _
end Cam
