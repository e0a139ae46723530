import Derived.Test.YtgeclnjkkjmbaaaGreatMem
import Derived.Maps.AppendAt
import Derived.Laws.Rows
import Derived.Laws.Tables
import Derived.OneCell
/- Several small texts in one: MemA, Be, PkP. No condition. -/
namespace Cam
open Go Go.RowKit
set_option linter.unusedVariables false
set_option linter.unusedSimpArgs false
set_option maxHeartbeats 200000
structure Kept (S : Nat → Prop) (w w' : World) : Prop where
 os : w'.os = w.os
 tape : w'.tape = w.tape
 output : w'.output = w.output
 size : w.heap.size ≤ w'.heap.size
 block : ∀ k, k < w.heap.size → ¬ S k → w'.heap[k]? = w.heap[k]?
theorem Kept.refl (S : Nat → Prop) (w : World) : Kept S w w := ⟨rfl, rfl, rfl, Nat.le_refl _, fun _ _ _ => rfl⟩
theorem Kept.trans {S T : Nat → Prop} {a b c : World} (h : Kept S a b) (k : Kept T b c) (hs : ∀ i, i < a.heap.size → T i → S i) : Kept S a c :=
 ⟨k.os.trans h.os, k.tape.trans h.tape, k.output.trans h.output, Nat.le_trans h.size k.size, fun i hi hn => (k.block i (Nat.lt_of_lt_of_le hi h.size) (fun ht => hn (hs i hi ht))).trans (h.block i hi hn)⟩
theorem Kept.weaken {S T : Nat → Prop} {a b : World} (h : Kept S a b) (hs : ∀ i, S i → T i) : Kept T a b := ⟨h.os, h.tape, h.output, h.size, fun i hi hn => h.block i hi (fun ht => hn (hs i ht))⟩
theorem Kept.of_grown {w w' : World} {row : Option Nat} (h : w.grownBy w' row) : Kept (fun k => row = some k) w w' := ⟨h.os, h.tape, h.output, h.size, fun k hk hn => h.block k hk (fun e => hn e.symm)⟩
theorem Kept.alloc {S : Nat → Prop} {a b : World} (h : Kept S a b) (o : Obj) : Kept S a (b.alloc o) :=
 h.trans (T := fun _ => False) (by
  have hb := (Below.refl b.heap.size b).alloc (Nat.le_refl _) o
  exact ⟨hb.os, hb.tape, hb.output, hb.size, fun k hk _ => hb.block k hk⟩) (fun _ _ hf => hf.elim)
theorem Kept.setCell {S : Nat → Prop} {a b : World} (h : Kept S a b) (p : Addr) (u : Value) (hp : S p.block) : Kept S a (b.setCell p u) := by
 have hb : Below 0 b (b.setCell p u) := (Below.refl 0 b).setCell (Nat.zero_le _) u
 exact ⟨hb.os.trans h.os, hb.tape.trans h.tape, hb.output.trans h.output, Nat.le_trans h.size hb.size, fun k hk hn => (heap_setCell_other b p k u (fun e => hn (by rw [e]; exact hp))).trans (h.block k hk hn)⟩
theorem Kept.below {S : Nat → Prop} {w w' : World} {B : Nat} (h : Kept S w w') (hS : ∀ k, k < B → ¬ S k) (hB : B ≤ w.heap.size) : Below B w w' :=
 ⟨h.os, h.tape, h.output, h.size, fun k hk => h.block k (Nat.lt_of_lt_of_le hk hB) (hS k hk)⟩
theorem Kept.of_below {w w' : World} (h : Below w.heap.size w w') : Kept (fun _ => False) w w' := ⟨h.os, h.tape, h.output, h.size, fun k hk _ => h.block k hk⟩
theorem run_append_sl_at {P : Program} (w : World) {t ty e size bytes base n m : Nat} {v x : Value} {xs ys : List Value} (E : Elem P t e size bytes)
  (hown : w.ownsRow base e size v n xs) (hsrc : Sl w x size m ys) (h1 : ∀ u ∈ ys, u.oneCell' = true)
  (h63 : n + m ≤ maxLen) (hbytes : (n + m) * bytes ≤ 140737488355328) (hbase : base ≤ w.heap.size) :
  ∃ a cap w', (Builtin.append_ #[t, t] ty #[v, x]).run P w = .ok (.slice a (n + m) cap) w' ∧ w'.ownsRow base e size (.slice a (n + m) cap) (n + m) (xs ++ ys) ∧ w.grownBy w' v.ownBlock ∧
   ((Value.slice a (n + m) cap).ownBlock = v.ownBlock ∨ (Value.slice a (n + m) cap).ownBlock = some w.heap.size) := by
 obtain ⟨ht, ⟨i, z, hi, hz, hs, hby, hzs⟩, hp⟩ := E
 obtain ⟨hl, ao, c, rfl, hmc, hcm, ha, hc⟩ := hsrc
 cases ao with
 | none =>
  obtain rfl := ha rfl
  obtain rfl : m = 0 := by omega
  obtain rfl : ys = [] := List.eq_nil_of_length_eq_zero (by simpa using hl)
  have hrun := run_append_owned_none (P := P) (w := w) base t ty e i size ht hi v n xs hown
  obtain ⟨a, cap, hv⟩ : ∃ a cap, v = .slice a n cap := by
   rcases hown.2 with ⟨rfl, rfl⟩ | ⟨g, cap, cur, rfl, _⟩
   ·
    exact ⟨_, _, rfl⟩
   ·
    exact ⟨_, _, rfl⟩
  subst hv
  exact ⟨a, cap, w, hrun, by simpa using hown, World.grownBy.refl _ _, Or.inl rfl⟩
 | some ad =>
  obtain ⟨v', w', hr, h2, h3, h4, h5⟩ := run_append_own_at (P := P) w base t ty e i z size bytes ht hi hz hs hby hzs hp v n xs hown ad m c ys hl (hc ad rfl) h1 h63 hbytes hbase
  obtain ⟨a, cap, hv⟩ : ∃ a cap, v' = .slice a (n + m) cap := by
   rcases h2.2 with ⟨rfl, h0⟩ | ⟨g, cap, cur, rfl, _⟩
   ·
    rw [h0]; exact ⟨_, _, rfl⟩
   ·
    exact ⟨_, _, rfl⟩
  subst hv
  exact ⟨a, cap, w', hr, h2, h3, h5⟩
theorem wpList_append_bytes_at {P : Program} {w : World} {ops : Array Oper} {rest : List Oper} {o : Oper} {a : Act} {Q : Exit → Act → World → Prop} (hgd : o.guard = none) (s x : Operand) (t : TypeId)
  (ho : o.op = .call { callee := .builtin .append, args := #[s, x], argTypes := #[t, t] })
  {e base : Nat} {v vx : Value} {l m : List UInt8} (E : Elem P t e 1 1) (hs : a.eval s = v) (hx : a.eval x = vx)
  (hown : OwnB e w base v l) (hsrc : Bs w vx m) (hlen : l.length + m.length ≤ 140737488355328) (hbase : base ≤ w.heap.size)
  (h : ∀ a' n' cap' w', Hid (n' = l.length + m.length) → OwnB e w' base (.slice a' n' cap') (l ++ m) → w.grownBy w' v.ownBlock →
   Hid ((Value.slice a' n' cap').ownBlock = v.ownBlock ∨ (Value.slice a' n' cap').ownBlock = some w.heap.size) → wpList P ops Q rest (a.put o.dst (.slice a' n' cap')) w') : wpList P ops Q (o :: rest) a w := by
 refine wpList_plain hgd fun K hK => ?_
 obtain ⟨a', cap', w', hr, h2, h3, h4⟩ := run_append_sl_at (P := P) (ty := o.type) w E hown hsrc (bs_oneCell m) (by unfold maxLen; omega) (by omega) hbase
 unfold Oper.wp execOp
 simp only [ho, resolve, invoke, builtin, Sem.run_bind, Sem.run_pure, Result.andThen_ok, List.map_toArray, List.map_cons, List.map_nil, hs, hx, hr]
 exact hK _ _ (h a' _ cap' w' rfl (OwnB.app h2) h3 h4)
end Cam
namespace Cam
set_option linter.unusedVariables false
set_option linter.unusedSimpArgs false
set_option maxHeartbeats 200000
theorem take_snoc {α : Type} (l : List α) (k : Nat) (h : k < l.length) : l.take (k + 1) = l.take k ++ [l[k]] := by
 rw [List.take_succ_eq_append_getElem h]
end Cam
namespace Cam
set_option linter.unusedVariables false
set_option linter.unusedSimpArgs false
set_option maxHeartbeats 200000
def zig (n : Int) : Nat := if n < 0 then (-2 * n - 1).toNat else (2 * n).toNat
def zag (z : Nat) : Int := if z % 2 = 1 then -((z / 2 : Nat) : Int) - 1 else ((z / 2 : Nat) : Int)
theorem zig_lt (n : Int) (h : -9223372036854775808 ≤ n ∧ n ≤ 9223372036854775807) : zig n < 18446744073709551616 := by
 unfold zig
 split <;> omega
def venc (z : Nat) : List UInt8 := if h : z < 128 then [UInt8.ofNat z] else UInt8.ofNat (z % 128 + 128) :: venc (z / 128)
termination_by z
decreasing_by omega
theorem venc_low (z : Nat) (h : z < 128) : venc z = [UInt8.ofNat z] := by rw [venc, dif_pos h]
theorem venc_high (z : Nat) (h : 128 ≤ z) : venc z = UInt8.ofNat (z % 128 + 128) :: venc (z / 128) := by rw [venc, dif_neg (by omega)]
def encI (n : Int) : List UInt8 := venc (zig n)
def encIs (l : List Int) : List UInt8 := (l.map encI).flatten
theorem encIs_snoc (l : List Int) (n : Int) : encIs (l ++ [n]) = encIs l ++ encI n := by simp [encIs]
theorem venc_length (z : Nat) (h : z < 18446744073709551616) : (venc z).length ≤ 10 ∧ 1 ≤ (venc z).length := by
 have key : ∀ k (z : Nat), z < 128 ^ k → (venc z).length ≤ max k 1 ∧ 1 ≤ (venc z).length := by
  intro k
  induction k with
  | zero => intro z hz; rw [venc_low z (by simp at hz; omega)]; simp
  | succ k ih =>
   intro z hz
   by_cases hl : z < 128
   ·
    rw [venc_low z hl]
    simp only [List.length_cons, List.length_nil]
    omega
   ·
    rw [venc_high z (by omega)]
    have h2 := ih (z / 128) (by rw [Nat.pow_succ] at hz; omega)
    simp only [List.length_cons]
    by_cases hk : k = 0
    ·
     subst hk
     simp at hz
     omega
    ·
     omega
 have := key 10 z (by omega)
 omega
theorem encI_length (n : Int) (h : -9223372036854775808 ≤ n ∧ n ≤ 9223372036854775807) : (encI n).length ≤ 10 ∧ 1 ≤ (encI n).length := venc_length _ (zig_lt n h)
theorem encIs_length (l : List Int) (h : ∀ n ∈ l, -9223372036854775808 ≤ n ∧ n ≤ 9223372036854775807) : (encIs l).length ≤ 10 * l.length := by
 induction l with
 | nil => simp [encIs]
 | cons a l ih =>
  have h1 := encI_length a (h a (by simp))
  have h2 := ih (fun n hn => h n (by simp [hn]))
  simp only [encIs, List.map_cons, List.flatten_cons, List.length_append, List.length_cons] at *
  omega
def vdec : Nat → Nat → Nat → List UInt8 → Option (Nat × Nat)
 | _, _, _, [] => none
 | k, m, z, c :: l =>
  if k = 9 ∧ 1 < c.toNat then none
  else if c.toNat < 128 then (if c.toNat = 0 ∧ 0 < k then none else some (z + c.toNat * m, k + 1))
  else (if k = 9 then none else vdec (k + 1) (m * 128) (z + (c.toNat - 128) * m) l)
end Cam
