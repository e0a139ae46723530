import Derived.Test.YtlnclfiiplpaiaaJnB
import Derived.RegionTactic
import Derived.ChangeAlike
import Derived.IntWalk
import Derived.Deep.RegionLaw
/- journal.read: what a half has. -/
namespace Cam
open Go Go.RowKit Go.Proofs
abbrev SV := Option Addr × Nat × Nat
def SV.v (s : SV) : Value := .slice s.1 s.2.1 s.2.2
def encS (s : SV) : List Value := [s.v]
theorem encS_len (s : SV) : (encS s).length = 1 := rfl
theorem encS_one (s : SV) : ∀ u ∈ encS s, u.oneCell' = true := by
 intro u hu
 simp only [encS, List.mem_singleton] at hu
 rw [hu]
 rfl
theorem elem_s : Elem Try.prog 23 22 1 24 := Elem.mk' (z := .slice none 0 0) Try.underlying23 (by kernel_rfl) rfl (by decide)
def recsM (w : World) (F : Nat → Prop) (v : Value) (R : List (List UInt8)) : Prop :=
 ∃ vs : List SV, vs.length = R.length ∧ OwnR encS 1 22 w 0 v vs ∧ (∀ k, v.ownBlock = some k → F k) ∧ ∀ i (h1 : i < vs.length) (h2 : i < R.length), OwnB 5 w 0 vs[i].v R[i] ∧ ∀ k, vs[i].v.ownBlock = some k → F k
theorem recsM.kept {S : Nat → Prop} {w w' : World} {F : Nat → Prop} {v : Value} {R : List (List UInt8)} (h : recsM w F v R) (hk : Kept S w w') (hS : ∀ k, F k → ¬ S k) : recsM w' F v R := by
 obtain ⟨vs, h1, h2, h3, h4⟩ := h
 exact ⟨vs, h1, h2.keptJ hk (fun k e => hS k (h3 k e)), h3, fun i a b => ⟨(h4 i a b).1.keptJ hk (fun k e => hS k ((h4 i a b).2 k e)), (h4 i a b).2⟩⟩
theorem recsM.below {w w' : World} {F : Nat → Prop} {v : Value} {R : List (List UInt8)} (h : recsM w F v R) (hb : Below w.heap.size w w') : recsM w' F v R := by
 obtain ⟨vs, h1, h2, h3, h4⟩ := h
 exact ⟨vs, h1, h2.below hb, h3, fun i a b => ⟨(h4 i a b).1.below hb, (h4 i a b).2⟩⟩
theorem recsM.weaken {w : World} {F F' : Nat → Prop} {v : Value} {R : List (List UInt8)} (h : recsM w F v R) (hF : ∀ k, F k → F' k) : recsM w F' v R := by
 obtain ⟨vs, h1, h2, h3, h4⟩ := h
 exact ⟨vs, h1, h2, fun k e => hF k (h3 k e), fun i a b => ⟨(h4 i a b).1, fun k e => hF k ((h4 i a b).2 k e)⟩⟩
theorem recsM.nil (w : World) (F : Nat → Prop) : recsM w F (.slice none 0 0) [] := by
 refine ⟨[], rfl, OwnR.empty encS_len _ _ _, fun k e => ?_, fun i h1 => ?_⟩
 ·
  cases e
 ·
  exact absurd h1 (Nat.not_lt_zero _)
theorem recsM.named {w : World} {F : Nat → Prop} {v : Value} {R : List (List UInt8)} (h : recsM w F v R) : ∃ a n c, v = .slice a n c ∧ Hid (n = R.length) ∧ recsM w F (.slice a n c) R := by
 obtain ⟨vs, h1, h2, h3, h4⟩ := h
 obtain ⟨a, n, c, rfl, hn, _⟩ := h2.named
 exact ⟨a, n, c, rfl, hn.out.trans h1, vs, h1, h2, h3, h4⟩
theorem recsM.snoc {w w' : World} {F : Nat → Prop} {a : Option Addr} {n c : Nat} {s : SV} {R : List (List UInt8)} {p : List UInt8} {row : Option Nat} {vs : List SV} (h1 : vs.length = R.length) (h4 : ∀ i (h1 : i < vs.length) (h2 : i < R.length), OwnB 5 w 0 vs[i].v R[i] ∧ ∀ k, vs[i].v.ownBlock = some k → F k)
  (hp : OwnB 5 w 0 s.v p) (hpF : ∀ k, s.v.ownBlock = some k → F k) (hg : w.grownBy w' row) (hr : ∀ k, row = some k → ∃ cur fr, w.heap[k]? = some (.cells cur 22 fr)) (ho : OwnR encS 1 22 w' 0 (.slice a n c) (vs ++ [s])) (hoF : ∀ k, (Value.slice a n c).ownBlock = some k → F k) :
  recsM w' F (.slice a n c) (R ++ [p]) := by
 have hk := Kept.of_grown hg
 have keep : ∀ {v : Value} {l : List UInt8}, OwnB 5 w 0 v l → OwnB 5 w' 0 v l := fun {v l} h => h.keptJ hk (fun k e e2 => by
  obtain ⟨cur, fr, h5⟩ := ownsRow_type h e
  obtain ⟨cur2, fr2, h6⟩ := hr k e2
  rw [h5] at h6
  have := Option.some.inj h6
  simp only [Obj.cells.injEq] at this
  exact absurd this.2.1 (by decide))
 refine ⟨vs ++ [s], by simp [h1], ho, hoF, fun i a b => ?_⟩
 by_cases hi : i < vs.length
 ·
  have e1 : (vs ++ [s])[i] = vs[i] := List.getElem_append_left hi
  have e2 : (R ++ [p])[i] = R[i]'(by omega) := List.getElem_append_left (by omega)
  rw [e1, e2]
  exact ⟨keep (h4 i hi (by omega)).1, (h4 i hi (by omega)).2⟩
 ·
  have hiv : i = vs.length := by simp at a; omega
  subst hiv
  have e1 : (vs ++ [s])[vs.length] = s := by simp
  have e2 : (R ++ [p])[vs.length]'b = p := by simp [h1]
  rw [e1, e2]
  exact ⟨keep hp, hpF⟩
def halfM (w : World) (F : Nat → Prop) (vsn vrc : Value) (H : HalfT) : Prop := OwnB 5 w 0 vsn H.snap ∧ (∀ k, vsn.ownBlock = some k → F k) ∧ recsM w F vrc H.recs
theorem halfM.below {w w' : World} {F : Nat → Prop} {vsn vrc : Value} {H : HalfT} (h : halfM w F vsn vrc H) (hb : Below w.heap.size w w') : halfM w' F vsn vrc H := ⟨h.1.below hb, h.2.1, h.2.2.below hb⟩
def ReadPost (w : World) (from_ : Nat) (L : List (List UInt8)) (e : Ending) (w' : World) : Prop :=
 ∃ vsn vrc, e = .returned (.tuple #[.agg #[.int .i64 (from_ : Int), .int .i64 ((readL L).gen : Nat), vsn, vrc, .int .i64 ((readL L).fin : Nat)], .int .i64 0]) ∧ halfM w' (fun k => w.heap.size ≤ k) vsn vrc (readL L) ∧ Below w.heap.size w w'
theorem run_lay_block (w : World) (C : List Value) (hC : C.length = 64) : (Instr.buildSlice 75 1 #[(0, .agg C.toArray)]).run Try.prog w = .ok (.slice (some ⟨w.heap.size, 0, none⟩) 1 1) (w.alloc (.cells C.toArray 36)) := by
 have hi : (Try.prog.info? 36).map (fun i => (i.zero, i.size)) = some (some (.agg (bvs zero64).toArray), 64) := by kernel_rfl
 cases hq : Try.prog.info? 36 with
 | none => rw [hq] at hi; cases hi
 | some it =>
  rw [hq] at hi
  simp only [Option.map_some, Option.some.injEq, Prod.mk.injEq] at hi
  obtain ⟨h1, h2⟩ := hi
  have hz : (Value.agg (bvs zero64).toArray).cells.size = 64 := by simp [Value.cells, zero64_length]
  have hf := fill_cons (place := fun i => some (i * 64, 64)) (Z := (Array.range (1 * 64)).map fun x => (Value.agg (bvs zero64).toArray).cells[x % (Value.agg (bvs zero64).toArray).cells.size]!) (i := 0) (off := 0 * 64) (size := 64) (v := .agg C.toArray) (rest := []) rfl (by simp [Value.cells, hC]) (by simp)
  have hs : splice ((Array.range (1 * 64)).map fun x => (Value.agg (bvs zero64).toArray).cells[x % (Value.agg (bvs zero64).toArray).cells.size]!).toList (0 * 64) (Value.agg C.toArray).cells.toList = C := by
   simp [splice, Value.cells, hC]
  rw [hs, Instr.fill] at hf
  unfold Instr.buildSlice
  simp [run_underlying Try.underlying75, Go.sizeOf, typeInfo, zeroValue, hq, h1, h2]
  simp only [Nat.one_mul] at hf
  rw [hf]
  simp [newRow]
theorem wpList_lay_block {w : World} {ops : Array Oper} {rest : List Oper} {o : Oper} {a : Act} {Q : Exit → Act → World → Prop} (hgd : o.guard = none) (x : Operand) (ho : o.op = .buildSlice 75 1 #[(0, x)])
  (C : List Value) (hC : C.length = 64) (hx : a.eval x = .agg C.toArray)
  (h : wpList Try.prog ops Q rest (a.put o.dst (.slice (some ⟨w.heap.size, 0, none⟩) 1 1)) (w.alloc (.cells C.toArray 36))) : wpList Try.prog ops Q (o :: rest) a w := by
 refine wpList_plain hgd fun K hK => ?_
 unfold Oper.wp execOp
 have hr := run_lay_block w C hC
 simp only [ho, Sem.run_bind]
 rw [show (#[(0, x)].map fun (p : Nat × Operand) => (p.1, a.eval p.2)) = #[(0, .agg C.toArray)] by simp [hx], hr]
 exact hK _ _ h
theorem elem_blk : Elem Try.prog 75 36 64 64 := elem_block
theorem step_append_rows {α : Type} {enc : α → List Value} {K : Nat} {P : Program} {ops : Array Oper} {o : Oper} {a : Act} {w : World} {K' : Act → World → Prop} {Q : Exit → Act → World → Prop} {E' : Prop}
  (hg : o.guard = none) (s x : Operand) (t : TypeId) (hop : o.op = Op.call { callee := Callee.builtin Builtin.append, args := #[s, x], argTypes := #[t, t] })
  {e base bytes : Nat} {v vx : Value} {L M : List α} (E : Elem P t e K bytes) (hs : a.eval s = v) (hx : a.eval x = vx)
  (hown : OwnR enc K e w base v L) (hsrc : Rs enc K w vx M) (h1 : ∀ a, ∀ u ∈ enc a, u.oneCell' = true) (hlen : (L.length + M.length) * bytes ≤ 140737488355328) (hb : 0 < bytes) (hbase : base ≤ w.heap.size)
  (h : ∀ a' n' cap' w', Hid (n' = L.length + M.length) → OwnR enc K e w' base (.slice a' n' cap') (L ++ M) → w.grownBy w' v.ownBlock →
   Hid ((Value.slice a' n' cap').ownBlock = v.ownBlock ∨ (Value.slice a' n' cap').ownBlock = some w.heap.size) → Below base w w' → K' (a.put o.dst (.slice a' n' cap')) w') :
  if Region.wanted o (yielded ops a.tmps) = true then Oper.wp P o a w K' Q else E' := by
 have hw : Region.wanted o (yielded ops a.tmps) = true := by simp [Region.wanted, hg]
 rw [if_pos hw]
 have hl : L.length + M.length ≤ maxLen := by
  have := Nat.le_mul_of_pos_right (L.length + M.length) hb
  unfold maxLen
  omega
 obtain ⟨a', cap', w', hr, h2, h3, h4⟩ := run_append_sl_at (P := P) (ty := o.type) w E hown.2 hsrc.2 (flatW_one h1 M) hl hlen hbase
 unfold Oper.wp execOp
 simp only [hop, resolve, invoke, builtin, Sem.run_bind, Sem.run_pure, Result.andThen_ok, List.map_toArray, List.map_cons, List.map_nil, hs, hx, hr]
 exact h a' _ cap' w' rfl (OwnR.app hown.1 h2) h3 h4 ((Below.refl _ _).grown h3 hbase (fun k hk => hown.ge k hk))
theorem HT.grownApart {w w' : World} {g : Nat} {t e : TypeId} {C : List Value} {row : Option Nat} (h : HT w g t C) (hg : w.grownBy w' row) (hr : ∀ k, row = some k → ∃ cur fr, w.heap[k]? = some (.cells cur e fr)) (hne : e ≠ t) : HT w' g t C :=
 h.keptJ (Kept.of_grown hg) (fun e1 => by
  obtain ⟨cur, fr, h2⟩ := hr g e1
  rw [show w.heap[g]? = _ from h] at h2
  have := Option.some.inj h2
  simp only [Obj.cells.injEq] at this
  exact hne this.2.1.symm)
theorem OwnB.grownApart {w w' : World} {base : Nat} {t e : TypeId} {v : Value} {l : List UInt8} {row : Option Nat} (h : OwnB t w base v l) (hg : w.grownBy w' row) (hr : ∀ k, row = some k → ∃ cur fr, w.heap[k]? = some (.cells cur e fr)) (hne : e ≠ t) : OwnB t w' base v l :=
 h.keptJ (Kept.of_grown hg) (fun k e1 e2 => by
  obtain ⟨cur, fr, h2⟩ := hr k e2
  obtain ⟨cur3, fr3, h3⟩ := ownsRow_type h e1
  rw [h3] at h2
  have := Option.some.inj h2
  simp only [Obj.cells.injEq] at this
  exact hne this.2.1.symm)
def cellNat (w : World) (g j : Nat) : Nat := match w.cell? ⟨g, j, none⟩ with | some (.int _ n) => n.toNat | _ => 0
theorem cellNat_is {w : World} {g j : Nat} {k : IntKind} {n : Int} (h : w.cell? ⟨g, j, none⟩ = some (.int k n)) : cellNat w g j = n.toNat := by unfold cellNat; rw [h]
theorem recsF_more {L : List (List UInt8)} {g f k e : Nat} (h : stands (L.drop e) ∧ rowG (L.drop e) = g ∧ rowK (L.drop e) = k) : recsF L g (f + 1) k e = (rowP (L.drop e) :: (recsF L g f (k + 1) (e + rowN (L.drop e))).1, (recsF L g f (k + 1) (e + rowN (L.drop e))).2) := by rw [recsF, if_pos h]
theorem recsF_stop {L : List (List UInt8)} {g f k e : Nat} (h : ¬ (stands (L.drop e) ∧ rowG (L.drop e) = g ∧ rowK (L.drop e) = k)) : recsF L g (f + 1) k e = ([], e) := by rw [recsF, if_neg h]
theorem OwnR.grownApart {α : Type} {enc : α → List Value} {K : Nat} {w w' : World} {base : Nat} {t e : TypeId} {v : Value} {L : List α} {row : Option Nat} (h : OwnR enc K t w base v L) (hg : w.grownBy w' row) (hr : ∀ k, row = some k → ∃ cur fr, w.heap[k]? = some (.cells cur e fr)) (hne : e ≠ t) : OwnR enc K t w' base v L :=
 h.keptJ (Kept.of_grown hg) (fun k e1 e2 => by
  obtain ⟨cur, fr, h2⟩ := hr k e2
  obtain ⟨cur3, fr3, h3⟩ := ownsRow_type h.2 e1
  rw [h3] at h2
  have := Option.some.inj h2
  simp only [Obj.cells.injEq] at this
  exact hne this.2.1.symm)
theorem recs_snoc {w : World} {B : Nat} {vs : List SV} {s : SV} {R : List (List UInt8)} {p : List UInt8} (hl : vs.length = R.length) (h : ∀ i (h1 : i < vs.length) (h2 : i < R.length), OwnB 5 w B vs[i].v R[i]) (hp : OwnB 5 w B s.v p) :
  ∀ i (h1 : i < (vs ++ [s]).length) (h2 : i < (R ++ [p]).length), OwnB 5 w B (vs ++ [s])[i].v (R ++ [p])[i] := by
 intro i a b
 by_cases hi : i < vs.length
 ·
  have e1 : (vs ++ [s])[i] = vs[i] := List.getElem_append_left hi
  have e2 : (R ++ [p])[i] = R[i]'(by omega) := List.getElem_append_left (by omega)
  rw [e1, e2]
  exact h i hi (by omega)
 ·
  have hiv : i = vs.length := by simp at a; omega
  subst hiv
  have e1 : (vs ++ [s])[vs.length] = s := by simp
  have e2 : (R ++ [p])[vs.length]'b = p := by simp [hl]
  rw [e1, e2]
  exact hp
theorem halfM.leave {w w' : World} {B : Nat} {vsn vrc : Value} {vs : List SV} {G e : Nat} {l : List UInt8} {R : List (List UInt8)} (hk : Kept (fun q => q = B) w w') (h1 : OwnB 5 w (B + 2) vsn l) (h2 : OwnR encS 1 22 w (B + 2) vrc vs) (hvs : vs.length = R.length)
  (h3 : ∀ i (a : i < vs.length) (b : i < R.length), OwnB 5 w (B + 2) vs[i].v R[i]) : halfM w' (fun k => B ≤ k) vsn vrc ⟨G, l, R, e⟩ := by
 refine ⟨(h1.keptJ hk (fun q hq e => ?_)).base (Nat.zero_le _), fun q hq => ?_, vs, hvs, (h2.keptJ hk (fun q hq e => ?_)).base (Nat.zero_le _), fun q hq => ?_, fun i a b => ⟨((h3 i a b).keptJ hk (fun q hq e => ?_)).base (Nat.zero_le _), fun q hq => ?_⟩⟩
 ·
  have := OwnB.ge h1 q hq; omega
 ·
  have := OwnB.ge h1 q hq; show B ≤ q; omega
 ·
  have := OwnR.ge h2 q hq; omega
 ·
  have := OwnR.ge h2 q hq; show B ≤ q; omega
 ·
  have := OwnB.ge (h3 i a b) q hq; omega
 ·
  have := OwnB.ge (h3 i a b) q hq; show B ≤ q; omega
theorem flatW_dropE {α : Type} {enc : α → List Value} {K : Nat} (he : ∀ a, (enc a).length = K) : ∀ (e : Nat) (L : List α), flatW enc (L.drop e) = (flatW enc L).drop (e * K)
 | 0, L => by simp
 | e + 1, [] => by simp [flatW]
 | e + 1, x :: L => by
  rw [List.drop_succ_cons, flatW_dropE he e L]
  simp only [flatW, List.map_cons, List.flatten_cons]
  have h1 : (enc x).drop ((e + 1) * K) = [] := List.drop_of_length_le (by rw [he, Nat.succ_mul]; omega)
  rw [List.drop_append, h1, he, List.nil_append, Nat.succ_mul, Nat.add_sub_cancel]
theorem half5 : (Try.prog.info? 84).map (·.size) = some 5 := by kernel_rfl
set_option maxRecDepth 100000 in
set_option maxHeartbeats 3200000 in
theorem read_any (w : World) (g n : Nat) (F : Nat → Prop) (D : DK) (h : DX w g F n D) (hoff : D.off = false) (from_ : Nat) (hfr : from_ + n / 2 ≤ n) :
  Calls Try.prog 40 #[.pointer (some ⟨g, 0, none⟩), .int .i64 (from_ : Int)] w (ReadPost w from_ ((D.now.drop from_).take (n / 2))) := by
 have HSZf : Hid ((Try.prog.info? 84).map (·.size) = some (#[.int .i64 (from_ : Int), .int .i64 0, .slice none 0 0, .slice none 0 0, .int .i64 0] : Array Value).size) := by show _ = _; rw [half5]; rfl
 have HONf : Hid ((#[.int .i64 (from_ : Int), .int .i64 0, .slice none 0 0, .slice none 0 0, .int .i64 0] : Array Value).all (·.oneCell') = true) := by show _ = true; simp [Value.oneCell']
 have hok := h.ok
 obtain ⟨L, hL⟩ : ∃ L, L = (D.now.drop from_).take (n / 2) := ⟨_, rfl⟩
 obtain ⟨m, hm⟩ : ∃ m, m = n / 2 := ⟨_, rfl⟩
 have hLl : L.length = m := by rw [hL, hm, List.length_take, List.length_drop, hok.now.1]; omega
 have h64 : ∀ b ∈ L, b.length = 64 := fun b hb => by
  rw [hL] at hb
  exact hok.now.2 b (List.mem_of_mem_drop (List.mem_of_mem_take hb))
 have hn1 : n ≤ 65536 := hok.n1
 have hLat : ∀ k (hk : k < L.length), D.now[from_ + k]? = some L[k] := fun k hk => by
  rw [← List.getElem?_eq_getElem hk, hL, List.getElem?_take, if_pos (by omega), List.getElem?_drop]
 rw [← hL]
 have HLL := Lib.hid hLl
 have H64 := Lib.hid h64
 have HLAT := Lib.hid hLat
 have HOFF := Lib.hid hoff
 have hsz := fun w' (hb : Below w.heap.size w w') => size_any w' g n F D (h.below hb)
 rw [← hm] at hsz
 have hmn : m ≤ 32768 ∧ (0 : Int) ≤ m ∧ (m : Int) ≤ 32768 ∧ (0 : Int) ≤ from_ ∧ (from_ : Int) ≤ 65536 := by omega
 have hfm : from_ + m ≤ n := by omega
 have hsz1 := hsz _ (((Below.refl w.heap.size w).alloc (Nat.le_refl _) (.cells #[.int .i64 0, .int .i64 0, .slice none 0 0, .slice none 0 0, .int .i64 0] 84)).alloc (by simp) (.cells #[.int .i64 (from_ : Int), .int .i64 0, .slice none 0 0, .slice none 0 0, .int .i64 0] 84))
 have H := Lib.hid h
 clear hLl h64 hLat hoff hsz hm hL hok h hfr
 go_enter Try.func40, Try.ntmps40
 go_wp2_with fail
 refine hsz1.mono ?_
 rintro e w1 ⟨rfl, rfl⟩
 clear hsz1
 have hha : HT ((w.alloc (.cells #[.int .i64 0, .int .i64 0, .slice none 0 0, .slice none 0 0, .int .i64 0] 84)).alloc (.cells #[.int .i64 (from_ : Int), .int .i64 0, .slice none 0 0, .slice none 0 0, .int .i64 0] 84)) w.heap.size 84 [.int .i64 0, .int .i64 0, .slice none 0 0, .slice none 0 0, .int .i64 0] := HT.below HT.new ((Below.refl _ _).alloc (Nat.le_refl _) _)
 have hhb : HT ((w.alloc (.cells #[.int .i64 0, .int .i64 0, .slice none 0 0, .slice none 0 0, .int .i64 0] 84)).alloc (.cells #[.int .i64 (from_ : Int), .int .i64 0, .slice none 0 0, .slice none 0 0, .int .i64 0] 84)) (w.heap.size + 1) 84 [.int .i64 (from_ : Int), .int .i64 0, .slice none 0 0, .slice none 0 0, .int .i64 0] := by
  have h9 := HT.new (w := w.alloc (.cells #[.int .i64 0, .int .i64 0, .slice none 0 0, .slice none 0 0, .int .i64 0] 84)) (t := 84) (C := [.int .i64 (from_ : Int), .int .i64 0, .slice none 0 0, .slice none 0 0, .int .i64 0])
  rw [show (w.alloc (.cells #[.int .i64 0, .int .i64 0, .slice none 0 0, .slice none 0 0, .int .i64 0] 84)).heap.size = w.heap.size + 1 by simp] at h9
  exact h9
 have hbel : Below w.heap.size w ((w.alloc (.cells #[.int .i64 0, .int .i64 0, .slice none 0 0, .slice none 0 0, .int .i64 0] 84)).alloc (.cells #[.int .i64 (from_ : Int), .int .i64 0, .slice none 0 0, .slice none 0 0, .int .i64 0] 84)) := ((Below.refl w.heap.size w).alloc (Nat.le_refl _) _).alloc (by simp) _
 have hszz : ((w.alloc (.cells #[.int .i64 0, .int .i64 0, .slice none 0 0, .slice none 0 0, .int .i64 0] 84)).alloc (.cells #[.int .i64 (from_ : Int), .int .i64 0, .slice none 0 0, .slice none 0 0, .int .i64 0] 84)).heap.size = w.heap.size + 2 := by simp
 generalize ((w.alloc (.cells #[.int .i64 0, .int .i64 0, .slice none 0 0, .slice none 0 0, .int .i64 0] 84)).alloc (.cells #[.int .i64 (from_ : Int), .int .i64 0, .slice none 0 0, .slice none 0 0, .int .i64 0] 84)) = w1 at *
 have HHA := Lib.hid hha
 have HHB := Lib.hid hhb
 have HBEL := Lib.hid hbel
 have HSZZ := Lib.hid hszz
 clear hha hhb hbel hszz
 go_wp2_with fail
 go_loopw [7, 19] (fun v7 i wr => ∃ (k : Nat) (a : Option Addr) (q c : Nat), k ≤ m ∧ i = .int .i64 k ∧ v7 = .slice a q c ∧ OwnR encB 64 36 wr (w.heap.size + 2) (.slice a q c) (L.take k) ∧ HT wr w.heap.size 84 [.int .i64 0, .int .i64 0, .slice none 0 0, .slice none 0 0, .int .i64 0] ∧ HT wr (w.heap.size + 1) 84 [.int .i64 (from_ : Int), .int .i64 0, .slice none 0 0, .slice none 0 0, .int .i64 0] ∧ Below w.heap.size w wr ∧ w.heap.size + 2 ≤ wr.heap.size) (fun _ i _ => m - (intOf i).toNat)
 case atStart => exact ⟨0, none, 0, 0, Nat.zero_le _, rfl, rfl, OwnR.empty encB_len _ _ _, HHA.out, HHB.out, HBEL.out, Nat.le_of_eq HSZZ.out.symm⟩
 case round =>
  clear HHA HHB HBEL HSZZ w1
  obtain ⟨k, a7, q7, c7, hk, rfl, rfl, ho7, hha, hhb, hbel, hszr⟩ := hrel
  have HHA := Lib.hid hha
  have HHB := Lib.hid hhb
  have HBEL := Lib.hid hbel
  have HO7 := Lib.hid ho7
  clear hha hhb hbel ho7
  by_cases hlt : k < m
  ·
   have hkl : k < L.length := by have := HLL.out; omega
   obtain ⟨b, hb⟩ : ∃ b, b = L[k] := ⟨_, rfl⟩
   have hb64 : b.length = 64 := by rw [hb]; exact H64.out _ (List.getElem_mem _)
   have hrd := Read_xon wr g n F D (H.out.below HBEL.out) HOFF.out (from_ + k) (by omega) b (by rw [hb]; exact HLAT.out k hkl)
   rw [Int.natCast_add] at hrd
   have HB := Lib.hid hb
   have HB64 := Lib.hid hb64
   have hk0 : (0 : Int) ≤ k ∧ (k : Int) < m := by omega
   clear hb hb64
   go_wp2_with fail
   refine hrd.mono ?_
   rintro e w2 ⟨rfl, hb2⟩
   clear hrd
   obtain ⟨hbx, hcx, hthx⟩ := boxJ w2 b HB64.out
   have HSZ := Lib.hid (size64_of HB64.out)
   have HROOM := Lib.hid hthx
   have HRAN := Lib.hid hcx.bytes
   have HBX := Lib.hid (hb2.next hbx)
   have hone : Rs encB 64 (((w2.alloc (.cells (bvs zero64).toArray 36)).setCells w2.heap.size 0 (bvs b)).alloc (.cells (bvs b).toArray 36)) (.slice (some ⟨((w2.alloc (.cells (bvs zero64).toArray 36)).setCells w2.heap.size 0 (bvs b)).heap.size, 0, none⟩) 1 1) [b] := by
    have h9 := Rs.one encB_len ((w2.alloc (.cells (bvs zero64).toArray 36)).setCells w2.heap.size 0 (bvs b)) b 36
    rw [encB_64 HB64.out] at h9
    exact h9
   have hb3 : Below wr.heap.size wr (((w2.alloc (.cells (bvs zero64).toArray 36)).setCells w2.heap.size 0 (bvs b)).alloc (.cells (bvs b).toArray 36)) := HBX.out.alloc HBX.out.size _
   have HONE := Lib.hid hone
   have HO3 := Lib.hid (HO7.out.below hb3)
   have HB3 := Lib.hid hb3
   have hs3 : w.heap.size + 2 ≤ (((w2.alloc (.cells (bvs zero64).toArray 36)).setCells w2.heap.size 0 (bvs b)).alloc (.cells (bvs b).toArray 36)).heap.size := Nat.le_trans hszr hb3.size
   have hle : ((L.take k).length + [b].length) * 64 ≤ 140737488355328 := by rw [List.length_take, List.length_cons, List.length_nil]; omega
   clear hbx hcx hthx hb2 hone hb3
   go_wp2_with (first
    | (refine wpList_store_mid rfl 36 (.tmp 9) (.tmp 28) rfl w2.heap.size 0 (bvs b).toArray rfl rfl HROOM.out (by simpa using HSZ.out) (all_oneCell_toArray (bs_oneCell _)) ?_; change wpList _ _ _ _ _ ((w2.alloc (.cells (bvs zero64).toArray 36)).setCells w2.heap.size 0 (bvs b)))
    | (refine wpList_load_mid rfl 36 (.tmp 9) rfl w2.heap.size 0 rfl (bvs b) _ HRAN.out Try.underlying36 rfl HSZ.out ?_)
    | (refine wpList_lay_block rfl (.tmp 35) rfl (bvs b) (by rw [bvs_length]; exact HB64.out) rfl ?_)
    | (at_builtin; refine wpList_append_rows (v := .slice a7 q7 c7) rfl (.tmp 34) (.tmp 36) 75 rfl (L := L.take k) (M := [b]) (base := w.heap.size + 2) elem_blk rfl rfl HO3.out HONE.out encB_one hle (by decide) hs3 ?_; intro a9 n9 c9 w9 Hn9 ho9 hg9 hat9 hb9)
    | fail)
   have hba : Below (w.heap.size + 2) wr w9 := (HB3.out.mono hszr).trans hb9
   refine ⟨⟨k + 1, a9, n9, c9, by omega, by push_cast; rfl, rfl, ?_, HT.belowB HHA.out hba (by omega), HT.belowB HHB.out hba (by omega), HBEL.out.trans (hba.mono (by omega)), Nat.le_trans hszr hba.size⟩, by simp [intOf]; omega⟩
   rw [take_snoc L k hkl, ← HB.out]
   exact ho9
  ·
   obtain rfl : k = m := by omega
   have hrs : Rs encB 64 wr (.slice a7 q7 c7) L := by
    have h9 := HO7.out.rs
    rwa [List.take_of_length_le (by rw [HLL.out]; exact Nat.le_refl _)] at h9
   have hst := standing_any wr _ L hrs H64.out (by rw [HLL.out]; omega)
   have HRS := Lib.hid hrs
   clear hrs
   go_wp2_with fail
   refine hst.mono ?_
   clear hst
   rintro e w2 (⟨hs, v', rfl, hov, hb2⟩ | ⟨hs, q, rfl, hb2⟩)
   ·
    obtain ⟨av, nv, cv, rfl, _, hov2⟩ := hov.named
    obtain ⟨G, hG⟩ : ∃ z, z = rowG L := ⟨_, rfl⟩
    obtain ⟨K, hK⟩ : ∃ z, z = rowK L := ⟨_, rfl⟩
    obtain ⟨N, hN⟩ : ∃ z, z = rowN L := ⟨_, rfl⟩
    rw [← hG, ← hK, ← hN]
    have HG := Lib.hid hG
    have HK := Lib.hid hK
    have HN0 := Lib.hid hN
    have HS := Lib.hid hs
    have HOV := Lib.hid hov2
    have hNb : 1 ≤ N ∧ N ≤ k := by
     have h4 := hs.2.2.2.1
     have := rowN_pos L
     rw [HLL.out] at h4
     omega
    have hGb : G ≤ 1099511627776 := by rw [hG]; exact hs.2.2.2.2.2.2.2.1
    clear hG hK hN hs hov hov2
    by_cases hg1 : (G : Int) < 1
    ·
     have HHA3 := Lib.hid ((HHA.out.below hb2).below ((Below.refl _ _).alloc (Nat.le_refl _) (.cells #[.int .i64 (G : Int), .int .i64 (K : Int), .slice av nv cv, .int .i64 (N : Int)] 109)))
     have HHB3 := Lib.hid ((HHB.out.below hb2).below ((Below.refl _ _).alloc (Nat.le_refl _) (.cells #[.int .i64 (G : Int), .int .i64 (K : Int), .slice av nv cv, .int .i64 (N : Int)] 109)))
     have HB3 : Hid (Below w.heap.size w (w2.alloc (.cells #[.int .i64 (G : Int), .int .i64 (K : Int), .slice av nv cv, .int .i64 (N : Int)] 109))) := (HBEL.out.next hb2).alloc (HBEL.out.next hb2).size _
     have HRA : Hid ((w2.alloc (.cells #[.int .i64 (G : Int), .int .i64 (K : Int), .slice av nv cv, .int .i64 (N : Int)] 109)).heap[w.heap.size]? = some (.cells #[.int .i64 0, .int .i64 0, .slice none 0 0, .slice none 0 0, .int .i64 0] 84 (0, 0))) := HHA3.out
     have HRB : Hid ((w2.alloc (.cells #[.int .i64 (G : Int), .int .i64 (K : Int), .slice av nv cv, .int .i64 (N : Int)] 109)).heap[w.heap.size + 1]? = some (.cells #[.int .i64 (from_ : Int), .int .i64 0, .slice none 0 0, .slice none 0 0, .int .i64 0] 84 (0, 0))) := HHB3.out
     go_wp2_with (first
      | (refine wpList_load_row rfl 84 (.tmp 6) rfl (w.heap.size + 1) rfl 84 #[.int .i64 (from_ : Int), .int .i64 0, .slice none 0 0, .slice none 0 0, .int .i64 0] (0, 0) _ HRB.out Try.underlying84 rfl HSZf.out ?_)
      | (refine wpList_store_row rfl 84 (.tmp 4) (.tmp 56) rfl w.heap.size #[.int .i64 (from_ : Int), .int .i64 0, .slice none 0 0, .slice none 0 0, .int .i64 0] rfl rfl 84 #[.int .i64 0, .int .i64 0, .slice none 0 0, .slice none 0 0, .int .i64 0] HRA.out HSZf.out rfl HONf.out ?_)
      | fail)
     refine bodyPost_ret (results_row2 rfl (HC.row HHA3.out) rfl rfl Try.underlying84 rfl half5) rfl ?_
     have hn0 : readL L = ⟨0, [], [], 0⟩ := by
       unfold readL
       rw [if_neg (fun e => by have := e.2.1; rw [← HG.out] at this; omega)]
     refine ⟨.slice none 0 0, .slice none 0 0, by rw [hn0]; rfl, by rw [hn0]; exact ⟨OwnB.empty _ _ _, fun k e => (by cases e), recsM.nil _ _⟩, Below.setRow HB3.out (Nat.le_refl _) _⟩
    ·
     by_cases hk1 : (K : Int) = 0
     ·
      obtain rfl : K = 0 := by omega
      have hg1' : decide ((G : Int) < 1) = false := by simpa using hg1
      have HHA3 := Lib.hid ((HHA.out.below hb2).below ((Below.refl _ _).alloc (Nat.le_refl _) (.cells #[.int .i64 (G : Int), .int .i64 0, .slice av nv cv, .int .i64 (N : Int)] 109)))
      have HHB3 := Lib.hid ((HHB.out.below hb2).below ((Below.refl _ _).alloc (Nat.le_refl _) (.cells #[.int .i64 (G : Int), .int .i64 0, .slice av nv cv, .int .i64 (N : Int)] 109)))
      have HB3 : Hid (Below w.heap.size w (w2.alloc (.cells #[.int .i64 (G : Int), .int .i64 0, .slice av nv cv, .int .i64 (N : Int)] 109))) := (HBEL.out.next hb2).alloc (HBEL.out.next hb2).size _
      have hrow : HT (w2.alloc (.cells #[.int .i64 (G : Int), .int .i64 0, .slice av nv cv, .int .i64 (N : Int)] 109)) w2.heap.size 109 [.int .i64 (G : Int), .int .i64 0, .slice av nv cv, .int .i64 (N : Int)] := HT.new
      have hb2' : Below wr.heap.size wr (w2.alloc (.cells #[.int .i64 (G : Int), .int .i64 0, .slice av nv cv, .int .i64 (N : Int)] 109)) := hb2.alloc hb2.size _
      have HOV3 := Lib.hid (OwnB.alloc HOV.out (.cells #[.int .i64 (G : Int), .int .i64 0, .slice av nv cv, .int .i64 (N : Int)] 109))
      have HO73 := Lib.hid (OwnR.below HO7.out hb2')
      have HS3 := Lib.hid hb2'.size
      clear hb2'
      go_wp2_with fail
      generalize (w2.alloc (.cells #[.int .i64 (G : Int), .int .i64 0, .slice av nv cv, .int .i64 (N : Int)] 109)) = V0 at HHA3 HHB3 HB3 hrow HOV3 HO73 HS3 ⊢
      have q0 := hrow.cell (j := 0) rfl
      have q2 := hrow.cell (j := 2) rfl
      have q3 := hrow.cell (j := 3) rfl
      have b1 := HHB3.out.cell (j := 1) rfl
      have b2 := HHB3.out.cell (j := 2) rfl
      have b4 := HHB3.out.cell (j := 4) rfl
      have f1 := HHB3.out.frozen 1
      have f2 := HHB3.out.frozen 2
      have f4 := HHB3.out.frozen 4
      go_region
      have HV0 : Hid (HT ((((V0.setCell ⟨w.heap.size + 1, 1, none⟩ (.int .i64 (G : Int))).setCell ⟨w.heap.size + 1, 2, none⟩ (.slice av nv cv)).setCell ⟨w.heap.size + 1, 4, none⟩ (.int .i64 (N : Int))).drew) (w.heap.size + 1) 84 [.int .i64 (from_ : Int), .int .i64 (G : Int), .slice av nv cv, .slice none 0 0, .int .i64 (N : Int)]) := ((HHB3.out.put 1 (.int .i64 (G : Int))).put 2 (.slice av nv cv)).put 4 (.int .i64 (N : Int))
      have hkv : Kept (fun q => q = w.heap.size + 1) V0 ((((V0.setCell ⟨w.heap.size + 1, 1, none⟩ (.int .i64 (G : Int))).setCell ⟨w.heap.size + 1, 2, none⟩ (.slice av nv cv)).setCell ⟨w.heap.size + 1, 4, none⟩ (.int .i64 (N : Int))).drew) := by
       have h1 : Kept (fun q => q = w.heap.size + 1) V0 (V0.setCell ⟨w.heap.size + 1, 1, none⟩ (.int .i64 (G : Int))) := (Kept.refl _ V0).setCell ⟨w.heap.size + 1, 1, none⟩ _ rfl
       have h2 := h1.setCell ⟨w.heap.size + 1, 2, none⟩ (.slice av nv cv) rfl
       have h3 := h2.setCell ⟨w.heap.size + 1, 4, none⟩ (.int .i64 (N : Int)) rfl
       exact keptDrew h3
      have HA0 : Hid (HT ((((V0.setCell ⟨w.heap.size + 1, 1, none⟩ (.int .i64 (G : Int))).setCell ⟨w.heap.size + 1, 2, none⟩ (.slice av nv cv)).setCell ⟨w.heap.size + 1, 4, none⟩ (.int .i64 (N : Int))).drew) w.heap.size 84 [.int .i64 0, .int .i64 0, .slice none 0 0, .slice none 0 0, .int .i64 0]) := HHA3.out.keptJ hkv (by omega)
      have HO0 : Hid (OwnB 5 ((((V0.setCell ⟨w.heap.size + 1, 1, none⟩ (.int .i64 (G : Int))).setCell ⟨w.heap.size + 1, 2, none⟩ (.slice av nv cv)).setCell ⟨w.heap.size + 1, 4, none⟩ (.int .i64 (N : Int))).drew) (w.heap.size + 2) (.slice av nv cv) (rowP L)) := (OwnB.base HOV3.out hszr).keptJ hkv (fun q hq e => by have := OwnB.ge HOV3.out q hq; omega)
      have HBV : Hid (Below w.heap.size w ((((V0.setCell ⟨w.heap.size + 1, 1, none⟩ (.int .i64 (G : Int))).setCell ⟨w.heap.size + 1, 2, none⟩ (.slice av nv cv)).setCell ⟨w.heap.size + 1, 4, none⟩ (.int .i64 (N : Int))).drew)) := HB3.out.trans (hkv.below (fun q hq e => by omega) HB3.out.size)
      have HQV : Hid (OwnR encB 64 36 ((((V0.setCell ⟨w.heap.size + 1, 1, none⟩ (.int .i64 (G : Int))).setCell ⟨w.heap.size + 1, 2, none⟩ (.slice av nv cv)).setCell ⟨w.heap.size + 1, 4, none⟩ (.int .i64 (N : Int))).drew) (w.heap.size + 2) (.slice a7 q7 c7) L) := by
       have h9 := HO73.out
       rw [List.take_of_length_le (by rw [HLL.out]; exact Nat.le_refl _)] at h9
       exact h9.keptJ hkv (fun q hq e => by have := OwnR.ge HO73.out q hq; omega)
      have HSV : Hid (w.heap.size + 2 ≤ (((((V0.setCell ⟨w.heap.size + 1, 1, none⟩ (.int .i64 (G : Int))).setCell ⟨w.heap.size + 1, 2, none⟩ (.slice av nv cv)).setCell ⟨w.heap.size + 1, 4, none⟩ (.int .i64 (N : Int))).drew)).heap.size) := Nat.le_trans hszr (Nat.le_trans HS3.out hkv.size)
      clear hkv q0 q2 q3 b1 b2 b4 f1 f2 f4 hrow HHA3 HHB3 HB3 HO73 HOV3
      generalize ((((V0.setCell ⟨w.heap.size + 1, 1, none⟩ (.int .i64 (G : Int))).setCell ⟨w.heap.size + 1, 2, none⟩ (.slice av nv cv)).setCell ⟨w.heap.size + 1, 4, none⟩ (.int .i64 (N : Int))).drew) = V at HV0 HA0 HO0 HBV HQV HSV ⊢
      go_wp2_with fail
      go_loopw [] (fun wr => ∃ (R : List (List UInt8)) (e f : Nat) (vs : List SV) (a : Option Addr) (q c : Nat), HT wr (w.heap.size + 1) 84 [.int .i64 (from_ : Int), .int .i64 (G : Int), .slice av nv cv, .slice a q c, .int .i64 (e : Int)] ∧ HT wr w.heap.size 84 [.int .i64 0, .int .i64 0, .slice none 0 0, .slice none 0 0, .int .i64 0] ∧ OwnB 5 wr (w.heap.size + 2) (.slice av nv cv) (rowP L) ∧ OwnR encB 64 36 wr (w.heap.size + 2) (.slice a7 q7 c7) L ∧ Below w.heap.size w wr ∧ w.heap.size + 2 ≤ wr.heap.size ∧
       OwnR encS 1 22 wr (w.heap.size + 2) (.slice a q c) vs ∧ q = R.length ∧ vs.length = R.length ∧ Hid (∀ i (h1 : i < vs.length) (h2 : i < R.length), OwnB 5 wr (w.heap.size + 2) vs[i].v R[i]) ∧ e ≤ k ∧ 1 ≤ e ∧ k + 1 ≤ e + f ∧ R.length ≤ e ∧ Hid (recsF L G k 1 N = (R ++ (recsF L G f (R.length + 1) e).1, (recsF L G f (R.length + 1) e).2))) (fun wr => k - cellNat wr (w.heap.size + 1) 4)
      case atStart => exact ⟨[], N, k, [], none, 0, 0, HV0.out, HA0.out, HO0.out, HQV.out, HBV.out, HSV.out, OwnR.empty encS_len _ _ _, rfl, rfl, fun i h1 => absurd h1 (Nat.not_lt_zero _), hNb.2, hNb.1, by omega, Nat.zero_le _, rfl⟩
      case round =>
       obtain ⟨R, e, f, vs, a, q, c, hha, hhz, hop, hob, hbel, hszr2, hors, rfl, hvs, HAL, he1, he2, hef, hre, HREC⟩ := hrel
       have HHX := Lib.hid hha
       have HHZ := Lib.hid hhz
       have HOP := Lib.hid hop
       have HOB := Lib.hid hob
       have HBE := Lib.hid hbel
       have HORS := Lib.hid hors
       have HVS := Lib.hid hvs
       obtain ⟨f', hf'⟩ : ∃ f', f = f' + 1 := ⟨f - 1, by omega⟩
       have HF := Lib.hid hf'
       clear hha hhz hop hob hbel hors hvs hf'
       have hx4 := HHX.out.cell (j := 4) rfl
       obtain ⟨a9, c9, h9e, hcq, hcm⟩ := HOB.out.rs.shape
       have hcc : c7 = c9 ∧ q7 = k := by
        simp only [Value.slice.injEq] at h9e
        exact ⟨h9e.2.2, h9e.2.1.trans HLL.out⟩
       have hc7 : k ≤ c7 := by have := HLL.out; omega
       have HQ7 := Lib.hid hcc.2
       have hcc1 : (e : Int) ≤ c7 ∧ (e : Int) ≤ k ∧ (0 : Int) ≤ e := by omega
       clear h9e hcq hcm hcc
       obtain ⟨n, hn⟩ : ∃ n, n = R.length := ⟨_, rfl⟩
       have HN := Lib.hid hn
       rw [← hn] at hre HHX HORS
       clear hn
       have hre1 : (n : Int) ≤ 32768 ∧ (0 : Int) ≤ n := by omega
       have hcut := (HOB.out.rs).2.cut e k (by omega) (by have := HLL.out; omega)
       have hfl : (List.take ((k - e) * 64) (List.drop (e * 64) (flatW encB L))) = flatW encB (L.drop e) := by
        rw [flatW_dropE encB_len, List.take_of_length_le (by rw [List.length_drop, flatW_length (fun a _ => encB_len a), HLL.out, Nat.mul_comm k, Nat.mul_comm (k - e), Nat.mul_sub, Nat.mul_comm e]; exact Nat.le_refl _)]
       rw [hfl] at hcut
       clear hfl
       have hdl : (L.drop e).length = k - e := by rw [List.length_drop, HLL.out]
       have hd64 : ∀ b ∈ L.drop e, b.length = 64 := fun b hb => H64.out b (List.mem_of_mem_drop hb)
       have HDL := Lib.hid hdl
       by_cases hce : c7 = e
       ·
        rw [if_pos hce] at hcut
        obtain rfl : e = k := by omega
        obtain rfl : e = c7 := hce.symm
        have hq7 := HQ7.out
        obtain rfl : e = q7 := hq7.symm
        have hrs : Rs encB 64 wr (.slice a7 (e - e) (e - e)) (L.drop e) := ⟨encB_len, by rw [hdl]; exact hcut⟩
        have hst := standing_any wr _ _ hrs hd64 (by rw [hdl]; omega)
        have hns : ¬ stands (L.drop e) := fun hs => hs.1 (List.eq_nil_of_length_eq_zero (by rw [hdl]; omega))
        rw [Nat.sub_self] at hst
        have HNS := Lib.hid hns
        clear hrs hns hcut hd64 hdl
        go_wp2_with fail
        refine hst.mono ?_
        clear hst
        rintro e0 w3 (⟨hs, _⟩ | ⟨_, q2, rfl, hb3⟩)
        ·
         exact absurd hs HNS.out
        ·
         have HHX4 := Lib.hid ((HHX.out.below hb3).below ((Below.refl _ _).alloc (Nat.le_refl _) (.cells #[.int .i64 0, .int .i64 0, .slice none 0 0, .int .i64 q2] 109)))
         have HHZ4 := Lib.hid ((HHZ.out.below hb3).below ((Below.refl _ _).alloc (Nat.le_refl _) (.cells #[.int .i64 0, .int .i64 0, .slice none 0 0, .int .i64 q2] 109)))
         have hb4 : Below wr.heap.size wr (w3.alloc (.cells #[.int .i64 0, .int .i64 0, .slice none 0 0, .int .i64 q2] 109)) := hb3.alloc hb3.size _
         have HB4 : Hid (Below w.heap.size w (w3.alloc (.cells #[.int .i64 0, .int .i64 0, .slice none 0 0, .int .i64 q2] 109))) := HBE.out.next hb4
         have HOP4 := Lib.hid (HOP.out.below hb4)
         have HORS4 := Lib.hid (HORS.out.below hb4)
         have HAL4 : Hid (∀ i (h1 : i < vs.length) (h2 : i < R.length), OwnB 5 (w3.alloc (.cells #[.int .i64 0, .int .i64 0, .slice none 0 0, .int .i64 q2] 109)) (w.heap.size + 2) vs[i].v R[i]) := fun i h1 h2 => (HAL.out i h1 h2).below hb4
         have HRA : Hid ((w3.alloc (.cells #[.int .i64 0, .int .i64 0, .slice none 0 0, .int .i64 q2] 109)).heap[w.heap.size]? = some (.cells #[.int .i64 0, .int .i64 0, .slice none 0 0, .slice none 0 0, .int .i64 0] 84 (0, 0))) := HHZ4.out
         have HRB : Hid ((w3.alloc (.cells #[.int .i64 0, .int .i64 0, .slice none 0 0, .int .i64 q2] 109)).heap[w.heap.size + 1]? = some (.cells #[.int .i64 (from_ : Int), .int .i64 (G : Int), .slice av nv cv, .slice a n c, .int .i64 (e : Int)] 84 (0, 0))) := HHX4.out
         have HSZx : Hid ((Try.prog.info? 84).map (·.size) = some (#[.int .i64 (from_ : Int), .int .i64 (G : Int), .slice av nv cv, .slice a n c, .int .i64 (e : Int)] : Array Value).size) := by show _ = _; rw [half5]; rfl
         have HONx : Hid ((#[.int .i64 (from_ : Int), .int .i64 (G : Int), .slice av nv cv, .slice a n c, .int .i64 (e : Int)] : Array Value).all (·.oneCell') = true) := by show _ = true; simp [Value.oneCell']
         clear hb3 hb4
         go_upto_region 17 with fail
         go_wp2_with (first
          | (refine wpList_load_row rfl 84 (.tmp 6) rfl (w.heap.size + 1) rfl 84 #[.int .i64 (from_ : Int), .int .i64 (G : Int), .slice av nv cv, .slice a n c, .int .i64 (e : Int)] (0, 0) _ HRB.out Try.underlying84 rfl HSZx.out ?_)
          | (refine wpList_store_row rfl 84 (.tmp 4) (.tmp 92) rfl w.heap.size #[.int .i64 (from_ : Int), .int .i64 (G : Int), .slice av nv cv, .slice a n c, .int .i64 (e : Int)] rfl rfl 84 #[.int .i64 0, .int .i64 0, .slice none 0 0, .slice none 0 0, .int .i64 0] HRA.out HSZx.out rfl HONx.out ?_)
          | fail)
         refine bodyPost_ret (results_row2 rfl (HC.row HHZ4.out) rfl rfl Try.underlying84 rfl half5) rfl ?_
         have hkz := setRow_keptJ w.heap.size #[.int .i64 (from_ : Int), .int .i64 (G : Int), .slice av nv cv, .slice a n c, .int .i64 (e : Int)] (w3.alloc (.cells #[.int .i64 0, .int .i64 0, .slice none 0 0, .int .i64 q2] 109))
         have hn9 : readL L = ⟨G, rowP L, R, e⟩ := by
          have h5 := HREC.out
          rw [HF.out, recsF_stop (fun h => HNS.out h.1), List.append_nil] at h5
          unfold readL
          rw [if_pos ⟨HS.out, by rw [← HG.out]; omega, HK.out.symm⟩, HLL.out, ← HG.out, ← HN0.out, h5]
         refine ⟨.slice av nv cv, .slice a n c, ?_, ?_, Below.setRow HB4.out (Nat.le_refl _) _⟩
         ·
          rw [hn9]
          rfl
         ·
          rw [hn9]
          exact halfM.leave hkz HOP4.out HORS4.out HVS.out HAL4.out
       ·
        rw [if_neg hce] at hcut
        obtain ⟨bk, rfl⟩ : ∃ bk, a7 = some ⟨bk, 0, none⟩ := by
         obtain ⟨g9, c9, hv9⟩ := Joins.ownsRow_form (HOB.out).2 (by have := HLL.out; omega)
         simp only [Value.slice.injEq] at hv9
         exact ⟨g9, hv9.1⟩
        have hrs : Rs encB 64 wr (.slice (some ⟨bk, e * 64, none⟩) (k - e) (c7 - e)) (L.drop e) := ⟨encB_len, by
         rw [hdl]
         simpa [add_none] using hcut⟩
        have hst := standing_any wr _ _ hrs hd64 (by rw [hdl]; omega)
        have hce1 : ¬ (c7 : Int) = (e : Int) := by omega
        obtain ⟨T, hT⟩ : ∃ T, T = L.drop e := ⟨_, rfl⟩
        rw [← hT] at hst hdl hrs hd64
        have HT0 := Lib.hid hT
        clear hrs hcut hd64 hdl hT
        have hq7 := HQ7.out
        obtain rfl : q7 = k := hq7
        go_wp2_with fail
        refine hst.mono ?_
        clear hst
        rintro e0 w3 (⟨hs, v2, rfl, hov2, hb3⟩ | ⟨hns, q2, rfl, hb3⟩)
        ·
         obtain ⟨av2, nv2, cv2, rfl, _, hov3⟩ := hov2.named
         obtain ⟨G2, hG⟩ : ∃ z, z = rowG T := ⟨_, rfl⟩
         obtain ⟨K2, hK⟩ : ∃ z, z = rowK T := ⟨_, rfl⟩
         obtain ⟨N2, hN⟩ : ∃ z, z = rowN T := ⟨_, rfl⟩
         rw [← hG, ← hK, ← hN]
         have HG2 := Lib.hid hG
         have HK2 := Lib.hid hK
         have HN2 := Lib.hid hN
         have HS2 := Lib.hid hs
         have hN2b : 1 ≤ N2 ∧ e + N2 ≤ q7 := by
          have h4 := hs.2.2.2.1
          have := rowN_pos T
          rw [HT0.out, HDL.out, ← HT0.out] at h4
          omega
         have HOV2 := Lib.hid (OwnB.alloc hov3 (.cells #[.int .i64 (G2 : Int), .int .i64 (K2 : Int), .slice av2 nv2 cv2, .int .i64 (N2 : Int)] 109))
         clear hG hK hN hs hov2 hov3
         have HHX4 := Lib.hid ((HHX.out.below hb3).below ((Below.refl _ _).alloc (Nat.le_refl _) (.cells #[.int .i64 (G2 : Int), .int .i64 (K2 : Int), .slice av2 nv2 cv2, .int .i64 (N2 : Int)] 109)))
         have HHZ4 := Lib.hid ((HHZ.out.below hb3).below ((Below.refl _ _).alloc (Nat.le_refl _) (.cells #[.int .i64 (G2 : Int), .int .i64 (K2 : Int), .slice av2 nv2 cv2, .int .i64 (N2 : Int)] 109)))
         have hb4 : Below wr.heap.size wr (w3.alloc (.cells #[.int .i64 (G2 : Int), .int .i64 (K2 : Int), .slice av2 nv2 cv2, .int .i64 (N2 : Int)] 109)) := hb3.alloc hb3.size _
         have HB4 : Hid (Below w.heap.size w (w3.alloc (.cells #[.int .i64 (G2 : Int), .int .i64 (K2 : Int), .slice av2 nv2 cv2, .int .i64 (N2 : Int)] 109))) := HBE.out.next hb4
         have HOP4 := Lib.hid (HOP.out.below hb4)
         have HORS4 := Lib.hid (HORS.out.below hb4)
         have HAL4 : Hid (∀ i (h1 : i < vs.length) (h2 : i < R.length), OwnB 5 (w3.alloc (.cells #[.int .i64 (G2 : Int), .int .i64 (K2 : Int), .slice av2 nv2 cv2, .int .i64 (N2 : Int)] 109)) (w.heap.size + 2) vs[i].v R[i]) := fun i h1 h2 => (HAL.out i h1 h2).below hb4
         have hrr : HT (w3.alloc (.cells #[.int .i64 (G2 : Int), .int .i64 (K2 : Int), .slice av2 nv2 cv2, .int .i64 (N2 : Int)] 109)) w3.heap.size 109 [.int .i64 (G2 : Int), .int .i64 (K2 : Int), .slice av2 nv2 cv2, .int .i64 (N2 : Int)] := HT.new
         have r0 := hrr.cell (j := 0) rfl
         have r1 := hrr.cell (j := 1) rfl
         have x1 := HHX4.out.cell (j := 1) rfl
         have x3 := HHX4.out.cell (j := 3) rfl
         by_cases hgg : G2 = G
         ·
          have hgg1 : ((G2 : Int) != (G : Int)) = false := by rw [hgg]; simp
          have HGG := Lib.hid hgg
          clear hgg
          by_cases hkk : K2 = n + 1
          ·
           have hkk1 : ((K2 : Int) != (n : Int) + 1) = false := by rw [hkk]; simp
           have HKK := Lib.hid hkk
           clear hkk
           have hz4 : w.heap.size + 2 ≤ (w3.alloc (.cells #[.int .i64 (G2 : Int), .int .i64 (K2 : Int), .slice av2 nv2 cv2, .int .i64 (N2 : Int)] 109)).heap.size := Nat.le_trans hszr2 hb4.size
           have r2 := hrr.cell (j := 2) rfl
           have r3 := hrr.cell (j := 3) rfl
           have x4 := HHX4.out.cell (j := 4) rfl
           have HRR := Lib.hid hrr
           have HB44 := Lib.hid hb4
           have HQB := Lib.hid (HOB.out.below hb4)
           have HW3 := Lib.hid (Nat.le_trans hszr2 hb3.size)
           clear hrr hb4 hb3
           go_upto_region 18 with fail
           generalize (w3.alloc (.cells #[.int .i64 (G2 : Int), .int .i64 (K2 : Int), .slice av2 nv2 cv2, .int .i64 (N2 : Int)] 109)) = V4 at HOV2 HHX4 HHZ4 HB4 HOP4 HORS4 HAL4 r0 r1 x1 x3 hz4 r2 r3 x4 HRR HB44 HQB ⊢
           have HW : Hid ( IntKind.i64.wrap ((e : Int) + (N2 : Int)) = (e : Int) + N2) := IntWalk.i64_in _ (by omega)
           have hle5 : (vs.length + [((av2, nv2, cv2) : SV)].length) * 24 ≤ 140737488355328 := by have := HVS.out; have := HN.out; simp; omega
           have hw3 : w.heap.size + 2 ≤ w3.heap.size := HW3.out
           refine wp_region_uni (S0 := (fun x => x.cell? ⟨w.heap.size + 1, 4, none⟩ = some (.int .i64 (e : Int)) ∧ x.cell? ⟨w3.heap.size, 2, none⟩ = some (.slice av2 nv2 cv2) ∧ x.cell? ⟨w3.heap.size, 3, none⟩ = some (.int .i64 (N2 : Int)))) (S := BL V4) 14 (by kernel_rfl) (Below.refl _ _).drew ?_
           refine wpAnyU_take (i := 0) (oi := { dst := some 93, op := Op.fieldAddr 84 (Operand.tmp 6) 3, type := 0, pos := "journal.go:57", after := #[], guard := none }) (v := (.pointer (some ⟨w.heap.size + 1, 3, none⟩))) rfl (by kernel_rfl) (by kernel_rfl) (by kernel_rfl) (by kernel_rfl) (by kernel_rfl) (fun _ _ _ h => h) (⟨fun x h => ⟨BL.cell h x4, BL.cell h r2, BL.cell h r3⟩, fun _ _ h hb => Below.next h hb⟩ : Cls (fun x => x.cell? ⟨w.heap.size + 1, 4, none⟩ = some (.int .i64 (e : Int)) ∧ x.cell? ⟨w3.heap.size, 2, none⟩ = some (.slice av2 nv2 cv2) ∧ x.cell? ⟨w3.heap.size, 3, none⟩ = some (.int .i64 (N2 : Int))) (BL V4)) ?_ ?_
           ·
            refine Or.inl ⟨rfl, fun w hSw => ?_⟩
            exact EffR.same (by go_simp)
           try simp only [Act.put, zA, zB, zC]
           refine wpAnyU_take (i := 2) (oi := { dst := some 95, op := Op.fieldAddr 109 (Operand.tmp 13) 2, type := 0, pos := "journal.go:57", after := #[], guard := none }) (v := (.pointer (some ⟨w3.heap.size, 2, none⟩))) rfl (by kernel_rfl) (by kernel_rfl) (by kernel_rfl) (by kernel_rfl) (by kernel_rfl) (fun _ _ _ h => h) (⟨fun x h => ⟨BL.cell h x4, BL.cell h r2, BL.cell h r3⟩, fun _ _ h hb => Below.next h hb⟩ : Cls (fun x => x.cell? ⟨w.heap.size + 1, 4, none⟩ = some (.int .i64 (e : Int)) ∧ x.cell? ⟨w3.heap.size, 2, none⟩ = some (.slice av2 nv2 cv2) ∧ x.cell? ⟨w3.heap.size, 3, none⟩ = some (.int .i64 (N2 : Int))) (BL V4)) ?_ ?_
           ·
            refine Or.inl ⟨rfl, fun w hSw => ?_⟩
            exact EffR.same (by go_simp)
           try simp only [Act.put, zA, zB, zC]
           refine wpAnyU_take (i := 3) (oi := { dst := some 96, op := Op.load 22 (Operand.tmp 95), type := 22, pos := "journal.go:57", after := #[{ on := 2, ground := Ground.data }], guard := none }) (v := (.slice av2 nv2 cv2)) rfl (by kernel_rfl) (by kernel_rfl) (by kernel_rfl) (by kernel_rfl) (by kernel_rfl) (fun _ _ _ h => h) (⟨fun x h => ⟨BL.cell h x4, BL.cell h r2, BL.cell h r3⟩, fun _ _ h hb => Below.next h hb⟩ : Cls (fun x => x.cell? ⟨w.heap.size + 1, 4, none⟩ = some (.int .i64 (e : Int)) ∧ x.cell? ⟨w3.heap.size, 2, none⟩ = some (.slice av2 nv2 cv2) ∧ x.cell? ⟨w3.heap.size, 3, none⟩ = some (.int .i64 (N2 : Int))) (BL V4)) ?_ ?_
           ·
            refine Or.inl ⟨rfl, fun w hSw => ?_⟩
            have e0 := hSw.2.1
            exact EffR.same (by go_simp)
           try simp only [Act.put, zA, zB, zC]
           refine wpAnyU_take (i := 6) (oi := { dst := some 99, op := Op.fieldAddr 84 (Operand.tmp 6) 4, type := 0, pos := "journal.go:57", after := #[], guard := none }) (v := (.pointer (some ⟨w.heap.size + 1, 4, none⟩))) rfl (by kernel_rfl) (by kernel_rfl) (by kernel_rfl) (by kernel_rfl) (by kernel_rfl) (fun _ _ _ h => h) (⟨fun x h => ⟨BL.cell h x4, BL.cell h r2, BL.cell h r3⟩, fun _ _ h hb => Below.next h hb⟩ : Cls (fun x => x.cell? ⟨w.heap.size + 1, 4, none⟩ = some (.int .i64 (e : Int)) ∧ x.cell? ⟨w3.heap.size, 2, none⟩ = some (.slice av2 nv2 cv2) ∧ x.cell? ⟨w3.heap.size, 3, none⟩ = some (.int .i64 (N2 : Int))) (BL V4)) ?_ ?_
           ·
            refine Or.inl ⟨rfl, fun w hSw => ?_⟩
            exact EffR.same (by go_simp)
           try simp only [Act.put, zA, zB, zC]
           refine wpAnyU_take (i := 7) (oi := { dst := some 100, op := Op.load 3 (Operand.tmp 99), type := 3, pos := "journal.go:57", after := #[{ on := 6, ground := Ground.data }], guard := none }) (v := (.int .i64 (e : Int))) rfl (by kernel_rfl) (by kernel_rfl) (by kernel_rfl) (by kernel_rfl) (by kernel_rfl) (fun _ _ _ h => h) (⟨fun x h => ⟨BL.cell h x4, BL.cell h r2, BL.cell h r3⟩, fun _ _ h hb => Below.next h hb⟩ : Cls (fun x => x.cell? ⟨w.heap.size + 1, 4, none⟩ = some (.int .i64 (e : Int)) ∧ x.cell? ⟨w3.heap.size, 2, none⟩ = some (.slice av2 nv2 cv2) ∧ x.cell? ⟨w3.heap.size, 3, none⟩ = some (.int .i64 (N2 : Int))) (BL V4)) ?_ ?_
           ·
            refine Or.inl ⟨rfl, fun w hSw => ?_⟩
            have e0 := hSw.1
            exact EffR.same (by go_simp)
           try simp only [Act.put, zA, zB, zC]
           refine wpAnyU_take (i := 8) (oi := { dst := some 101, op := Op.fieldAddr 109 (Operand.tmp 13) 3, type := 0, pos := "journal.go:57", after := #[], guard := none }) (v := (.pointer (some ⟨w3.heap.size, 3, none⟩))) rfl (by kernel_rfl) (by kernel_rfl) (by kernel_rfl) (by kernel_rfl) (by kernel_rfl) (fun _ _ _ h => h) (⟨fun x h => ⟨BL.cell h x4, BL.cell h r2, BL.cell h r3⟩, fun _ _ h hb => Below.next h hb⟩ : Cls (fun x => x.cell? ⟨w.heap.size + 1, 4, none⟩ = some (.int .i64 (e : Int)) ∧ x.cell? ⟨w3.heap.size, 2, none⟩ = some (.slice av2 nv2 cv2) ∧ x.cell? ⟨w3.heap.size, 3, none⟩ = some (.int .i64 (N2 : Int))) (BL V4)) ?_ ?_
           ·
            refine Or.inl ⟨rfl, fun w hSw => ?_⟩
            exact EffR.same (by go_simp)
           try simp only [Act.put, zA, zB, zC]
           refine wpAnyU_take (i := 9) (oi := { dst := some 102, op := Op.load 3 (Operand.tmp 101), type := 3, pos := "journal.go:57", after := #[{ on := 8, ground := Ground.data }], guard := none }) (v := (.int .i64 (N2 : Int))) rfl (by kernel_rfl) (by kernel_rfl) (by kernel_rfl) (by kernel_rfl) (by kernel_rfl) (fun _ _ _ h => h) (⟨fun x h => ⟨BL.cell h x4, BL.cell h r2, BL.cell h r3⟩, fun _ _ h hb => Below.next h hb⟩ : Cls (fun x => x.cell? ⟨w.heap.size + 1, 4, none⟩ = some (.int .i64 (e : Int)) ∧ x.cell? ⟨w3.heap.size, 2, none⟩ = some (.slice av2 nv2 cv2) ∧ x.cell? ⟨w3.heap.size, 3, none⟩ = some (.int .i64 (N2 : Int))) (BL V4)) ?_ ?_
           ·
            refine Or.inl ⟨rfl, fun w hSw => ?_⟩
            have e0 := hSw.2.2
            exact EffR.same (by go_simp)
           try simp only [Act.put, zA, zB, zC]
           refine wpAnyU_take (i := 10) (oi := { dst := some 103, op := Op.binOp BinOp.add 3 (Operand.tmp 100) (Operand.tmp 102) 3, type := 3, pos := "journal.go:57", after := #[{ on := 7, ground := Ground.data }, { on := 9, ground := Ground.data }], guard := none }) (v := (.int .i64 ((e : Int) + (N2 : Int)))) rfl (by kernel_rfl) (by kernel_rfl) (by kernel_rfl) (by kernel_rfl) (by kernel_rfl) (fun _ _ _ h => h) (⟨fun x h => ⟨BL.cell h x4, BL.cell h r2, BL.cell h r3⟩, fun _ _ h hb => Below.next h hb⟩ : Cls (fun x => x.cell? ⟨w.heap.size + 1, 4, none⟩ = some (.int .i64 (e : Int)) ∧ x.cell? ⟨w3.heap.size, 2, none⟩ = some (.slice av2 nv2 cv2) ∧ x.cell? ⟨w3.heap.size, 3, none⟩ = some (.int .i64 (N2 : Int))) (BL V4)) ?_ ?_
           ·
            refine Or.inl ⟨rfl, fun w hSw => ?_⟩
            have e0 := HW.out
            exact EffR.same (by go_simp)
           try simp only [Act.put, zA, zB, zC]
           refine wpAnyU_ready (rs := [1, 4]) (by kernel_rfl) (by simp) ?_
           refine AllReadyU.cons (o := { dst := some 94, op := Op.load 23 (Operand.tmp 93), type := 23, pos := "journal.go:57", after := #[{ on := 0, ground := Ground.data }], guard := none }) rfl (fun wA1 hA1 K hK => ?_) (AllReadyU.cons (o := { dst := some 97, op := Op.buildSlice 23 1 #[(0, Operand.tmp 96)], type := 23, pos := "journal.go:57", after := #[{ on := 3, ground := Ground.data }], guard := none }) rfl (fun wA4 hA4 K hK => ?_) AllReadyU.nil)
           ·
            go_simp
            have e0 := BL.cell hA1 x3
            go_simp
            refine hK.out _ _ (BL V4) (⟨fun x h => ⟨BL.cell h x4, BL.cell h r2, BL.cell h r3⟩, fun _ _ h hb => Below.next h hb⟩ : Cls (fun x => x.cell? ⟨w.heap.size + 1, 4, none⟩ = some (.int .i64 (e : Int)) ∧ x.cell? ⟨w3.heap.size, 2, none⟩ = some (.slice av2 nv2 cv2) ∧ x.cell? ⟨w3.heap.size, 3, none⟩ = some (.int .i64 (N2 : Int))) (BL V4)) hA1 ?_
            clear e0
            clear hK K
            try simp only [Act.put, zA, zB, zC]
            refine wpAnyU_ready (rs := [4]) (by kernel_rfl) (by simp) ?_
            refine AllReadyU.cons (o := { dst := some 97, op := Op.buildSlice 23 1 #[(0, Operand.tmp 96)], type := 23, pos := "journal.go:57", after := #[{ on := 3, ground := Ground.data }], guard := none }) rfl (fun wA4 hA4 K hK => ?_) AllReadyU.nil
            go_simp
            have hbx : Below wA4.heap.size wA4 (wA4.alloc (.cells #[.slice av2 nv2 cv2] 22)) := (Below.refl _ _).alloc (Nat.le_refl _) _
            have hone : Rs encS 1 (wA4.alloc (.cells #[.slice av2 nv2 cv2] 22)) (.slice (some ⟨wA4.heap.size, 0, none⟩) 1 1) [((av2, nv2, cv2) : SV)] := Rs.one encS_len wA4 ((av2, nv2, cv2) : SV) 22
            obtain ⟨gx, hgx⟩ : ∃ gx, gx = wA4.heap.size := ⟨_, rfl⟩
            rw [← hgx] at hone ⊢
            refine hK.out _ _ (fun x => BL V4 x ∧ Rs encS 1 x (.slice (some ⟨gx, 0, none⟩) 1 1) [((av2, nv2, cv2) : SV)]) (⟨fun x h => ⟨BL.cell h.1 x4, BL.cell h.1 r2, BL.cell h.1 r3⟩, fun _ _ h hb => ⟨Below.next h.1 hb, Rs.mono h.2 hb⟩⟩ : Cls (fun x => x.cell? ⟨w.heap.size + 1, 4, none⟩ = some (.int .i64 (e : Int)) ∧ x.cell? ⟨w3.heap.size, 2, none⟩ = some (.slice av2 nv2 cv2) ∧ x.cell? ⟨w3.heap.size, 3, none⟩ = some (.int .i64 (N2 : Int))) (fun x => BL V4 x ∧ Rs encS 1 x (.slice (some ⟨gx, 0, none⟩) 1 1) [((av2, nv2, cv2) : SV)])) ⟨Below.next hA4 hbx, hone⟩ ?_
            clear hgx hone hbx
            clear hK K
            try simp only [Act.put, zA, zB, zC]
            refine wpAnyU_ready (rs := [5]) (by kernel_rfl) (by simp) ?_
            refine AllReadyU.cons (o := { dst := some 98, op := Op.call { callee := Callee.builtin Builtin.append, args := #[Operand.tmp 94, Operand.tmp 97], argTypes := #[23, 23] }, type := 23, pos := "journal.go:57", after := #[{ on := 1, ground := Ground.data }, { on := 4, ground := Ground.data }], guard := none }) rfl (fun wA5 hA5 K hK => ?_) AllReadyU.nil
            have ho5 := OwnR.below HORS4.out hA5.1
            have hx5 := HT.below HHX4.out hA5.1
            have hr5 := HT.below HRR.out hA5.1
            have hz5 : w.heap.size + 2 ≤ wA5.heap.size := Nat.le_trans hz4 (Below.size hA5.1)
            refine step_append_rows (v := .slice a n c) (vx := .slice (some ⟨gx, 0, none⟩) 1 1) rfl (.tmp 94) (.tmp 97) 23 rfl (L := vs) (M := [((av2, nv2, cv2) : SV)]) (base := w.heap.size + 2) elem_s rfl rfl ho5 hA5.2 encS_one hle5 (by decide) hz5 ?_
            intro a9 n9 c9 w9 Hn9 ho9 hg9 hat9 hb9
            have hty : ∀ k, (Value.slice a n c).ownBlock = some k → ∃ cur fr, wA5.heap[k]? = some (.cells cur 22 fr) := fun k hk => ownsRow_type ho5.2 hk
            have hx9 := HT.grownApart hx5 hg9 hty (by decide)
            have hr9 := HT.grownApart hr5 hg9 hty (by decide)
            have hz9 := HT.grownApart (HT.below HHZ4.out hA5.1) hg9 hty (by decide)
            have hp9 := OwnB.grownApart (OwnB.below HOP4.out hA5.1) hg9 hty (by decide)
            have hq9 := OwnR.grownApart (OwnR.below HQB.out hA5.1) hg9 hty (by decide)
            have hv9 := OwnB.grownApart (OwnB.below HOV2.out hA5.1) hg9 hty (by decide)
            have HAL9 : Hid (∀ i (h1 : i < vs.length) (h2 : i < R.length), OwnB 5 w9 (w.heap.size + 2) vs[i].v R[i]) := fun i h1 h2 => OwnB.grownApart (OwnB.below (HAL4.out i h1 h2) hA5.1) hg9 hty (by decide)
            have HB9 : Hid (Below w.heap.size w w9) := (Below.next' HB4.out hA5.1 (Nat.le_refl _)).trans (hb9.mono (by omega))
            have hs9 : w.heap.size + 2 ≤ w9.heap.size := Nat.le_trans hz5 hb9.size
            have y4 := hx9.cell (j := 4) rfl
            have s2 := hr9.cell (j := 2) rfl
            have s3 := hr9.cell (j := 3) rfl
            have HX9 := Lib.hid hx9
            have HR9 := Lib.hid hr9
            have HZ9 := Lib.hid hz9
            have HP9 := Lib.hid hp9
            have HQ9 := Lib.hid hq9
            have HV9 := Lib.hid hv9
            have HO9 := Lib.hid ho9
            refine hK.out _ _ (BL w9) (⟨fun x h => ⟨BL.cell h y4, BL.cell h s2, BL.cell h s3⟩, fun _ _ h hb => Below.next h hb⟩ : Cls (fun x => x.cell? ⟨w.heap.size + 1, 4, none⟩ = some (.int .i64 (e : Int)) ∧ x.cell? ⟨w3.heap.size, 2, none⟩ = some (.slice av2 nv2 cv2) ∧ x.cell? ⟨w3.heap.size, 3, none⟩ = some (.int .i64 (N2 : Int))) (BL w9)) (Below.refl _ _) ?_
            clear ho5 hx5 hr5 hz5 hty hx9 hr9 hz9 hp9 hq9 hv9 ho9 hg9 hb9 hat9
            clear hK K
            try simp only [Act.put, zA, zB, zC]
            refine wpAnyU_take (i := 11) (oi := { dst := some 104, op := Op.fieldAddr 84 (Operand.tmp 6) 3, type := 0, pos := "journal.go:57", after := #[{ on := 0, ground := Ground.phase }, { on := 1, ground := Ground.phase }, { on := 2, ground := Ground.phase }, { on := 3, ground := Ground.phase }, { on := 4, ground := Ground.phase }, { on := 5, ground := Ground.phase }, { on := 6, ground := Ground.phase }, { on := 7, ground := Ground.phase }, { on := 8, ground := Ground.textOnly Departure.lateStores }, { on := 9, ground := Ground.textOnly Departure.lateStores }, { on := 10, ground := Ground.textOnly Departure.lateStoresUnsure }], guard := none }) (v := (.pointer (some ⟨w.heap.size + 1, 3, none⟩))) rfl (by kernel_rfl) (by kernel_rfl) (by kernel_rfl) (by kernel_rfl) (by kernel_rfl) (fun _ _ _ h => h) (⟨fun x h => ⟨BL.cell h y4, BL.cell h s2, BL.cell h s3⟩, fun _ _ h hb => Below.next h hb⟩ : Cls (fun x => x.cell? ⟨w.heap.size + 1, 4, none⟩ = some (.int .i64 (e : Int)) ∧ x.cell? ⟨w3.heap.size, 2, none⟩ = some (.slice av2 nv2 cv2) ∧ x.cell? ⟨w3.heap.size, 3, none⟩ = some (.int .i64 (N2 : Int))) (BL w9)) ?_ ?_
            ·
             refine Or.inl ⟨rfl, fun w hSw => ?_⟩
             exact EffR.same (by go_simp)
            try simp only [Act.put, zA, zB, zC]
            refine wpAnyU_ready (rs := [12]) (by kernel_rfl) (by simp) ?_
            refine AllReadyU.cons (o := { dst := none, op := Op.store 23 (Operand.tmp 104) (Operand.tmp 98), type := 0, pos := "journal.go:57", after := #[{ on := 11, ground := Ground.data }, { on := 5, ground := Ground.data }, { on := 5, ground := Ground.chain }, { on := 0, ground := Ground.phase }, { on := 1, ground := Ground.phase }, { on := 2, ground := Ground.phase }, { on := 3, ground := Ground.phase }, { on := 4, ground := Ground.phase }, { on := 5, ground := Ground.phase }, { on := 6, ground := Ground.phase }, { on := 7, ground := Ground.phase }, { on := 8, ground := Ground.textOnly Departure.lateStores }, { on := 9, ground := Ground.textOnly Departure.lateStores }, { on := 10, ground := Ground.textOnly Departure.lateStoresUnsure }], guard := none }) rfl (fun wA12 hA12 K hK => ?_) AllReadyU.nil
            have hxC := HT.below HX9.out hA12
            have c3 := hxC.cell (j := 3) rfl
            have f3 := hxC.frozen 3
            go_simp
            obtain ⟨wE, hwE⟩ : ∃ z, z = wA12.setCell ⟨w.heap.size + 1, 3, none⟩ (.slice a9 n9 c9) := ⟨_, rfl⟩
            have hkE : Kept (fun q => q = w.heap.size + 1) w9 wE := by rw [hwE]; exact (Kept.pre hA12 ((Kept.refl (fun q => q = w.heap.size + 1) wA12).setCell ⟨w.heap.size + 1, 3, none⟩ _ rfl))
            have hxE : HT wE (w.heap.size + 1) 84 [.int .i64 (from_ : Int), .int .i64 (G : Int), .slice av nv cv, .slice a9 n9 c9, .int .i64 (e : Int)] := by rw [hwE]; exact hxC.put 3 (.slice a9 n9 c9)
            have hrE := HT.keptJ HR9.out hkE (by omega)
            have z4 := hxE.cell (j := 4) rfl
            have t2 := hrE.cell (j := 2) rfl
            have t3 := hrE.cell (j := 3) rfl
            have HKE := Lib.hid hkE
            have HXE := Lib.hid hxE
            rw [← hwE]
            refine hK.out _ _ (BL wE) (⟨fun x h => ⟨BL.cell h z4, BL.cell h t2, BL.cell h t3⟩, fun _ _ h hb => Below.next h hb⟩ : Cls (fun x => x.cell? ⟨w.heap.size + 1, 4, none⟩ = some (.int .i64 (e : Int)) ∧ x.cell? ⟨w3.heap.size, 2, none⟩ = some (.slice av2 nv2 cv2) ∧ x.cell? ⟨w3.heap.size, 3, none⟩ = some (.int .i64 (N2 : Int))) (BL wE)) (Below.refl _ _) ?_
            clear hxC c3 f3 hkE hxE hrE hwE
            clear hK K
            try simp only [Act.put]
            refine wpAnyU_take (i := 13) (oi := { dst := some 105, op := Op.fieldAddr 84 (Operand.tmp 6) 4, type := 0, pos := "journal.go:57", after := #[{ on := 0, ground := Ground.phase }, { on := 1, ground := Ground.phase }, { on := 2, ground := Ground.phase }, { on := 3, ground := Ground.phase }, { on := 4, ground := Ground.phase }, { on := 5, ground := Ground.phase }, { on := 6, ground := Ground.phase }, { on := 7, ground := Ground.phase }, { on := 8, ground := Ground.phase }, { on := 9, ground := Ground.phase }, { on := 10, ground := Ground.phase }, { on := 11, ground := Ground.phase }, { on := 12, ground := Ground.phase }], guard := none }) (v := (.pointer (some ⟨w.heap.size + 1, 4, none⟩))) rfl (by kernel_rfl) (by kernel_rfl) (by kernel_rfl) (by kernel_rfl) (by kernel_rfl) (fun _ _ _ h => h) (⟨fun x h => ⟨BL.cell h z4, BL.cell h t2, BL.cell h t3⟩, fun _ _ h hb => Below.next h hb⟩ : Cls (fun x => x.cell? ⟨w.heap.size + 1, 4, none⟩ = some (.int .i64 (e : Int)) ∧ x.cell? ⟨w3.heap.size, 2, none⟩ = some (.slice av2 nv2 cv2) ∧ x.cell? ⟨w3.heap.size, 3, none⟩ = some (.int .i64 (N2 : Int))) (BL wE)) ?_ ?_
            ·
             refine Or.inl ⟨rfl, fun w hSw => ?_⟩
             exact EffR.same (by go_simp)
            try simp only [Act.put, zA, zB, zC]
            refine wpAnyU_last (o := { dst := none, op := Op.store 3 (Operand.tmp 105) (Operand.tmp 103), type := 0, pos := "journal.go:57", after := #[{ on := 13, ground := Ground.data }, { on := 10, ground := Ground.data }, { on := 12, ground := Ground.chain }, { on := 0, ground := Ground.phase }, { on := 1, ground := Ground.phase }, { on := 2, ground := Ground.phase }, { on := 3, ground := Ground.phase }, { on := 4, ground := Ground.phase }, { on := 5, ground := Ground.phase }, { on := 6, ground := Ground.phase }, { on := 7, ground := Ground.phase }, { on := 8, ground := Ground.phase }, { on := 9, ground := Ground.phase }, { on := 10, ground := Ground.phase }, { on := 11, ground := Ground.phase }, { on := 12, ground := Ground.phase }], guard := none }) (by kernel_rfl) (by kernel_rfl) rfl (fun w1 hb1 K hK => ?_)
            have hxF := HT.below HXE.out hb1
            have c4 := hxF.cell (j := 4) rfl
            have f4 := hxF.frozen 4
            have hkF := Kept.pre hb1 ((Kept.refl (fun q => q = w.heap.size + 1) w1).setCell ⟨w.heap.size + 1, 4, none⟩ (.int .i64 ((e : Int) + (N2 : Int))) rfl)
            have HXF := Lib.hid (hxF.put 4 (.int .i64 ((e : Int) + (N2 : Int))))
            have HKF := Lib.hid (HKE.out.trans hkF (fun _ _ e => e))
            clear hkF hxF
            go_simp
            refine hK.out _ _ ?_
            clear hK K
            try simp only [Act.put]
            clear c4 f4
            obtain ⟨wF, hwF⟩ : ∃ z, z = w1.setCell ⟨w.heap.size + 1, 4, none⟩ (.int .i64 ((e : Int) + (N2 : Int))) := ⟨_, rfl⟩
            rw [← hwF] at HXF HKF ⊢
            clear hwF hb1
            go_wp2_with fail
            have hx4F := HXF.out.cell (j := 4) rfl
            have hx4W := HHX.out.cell (j := 4) rfl
            have hrec : recsF L G q7 1 N = ((R ++ [rowP T]) ++ (recsF L G f' ((R ++ [rowP T]).length + 1) (e + N2)).1, (recsF L G f' ((R ++ [rowP T]).length + 1) (e + N2)).2) := by
             have h5 := HREC.out
             rw [HF.out, recsF_more (L := L) (g := G) (f := f') (k := R.length + 1) (e := e) ⟨by rw [← HT0.out]; exact HS2.out, by rw [← HT0.out, ← HG2.out]; exact HGG.out, by rw [← HT0.out, ← HK2.out, HKK.out, HN.out]⟩, ← HT0.out, ← HN2.out] at h5
             rw [h5, List.length_append, List.length_singleton, List.append_assoc]
             rfl
            have HRECN := Lib.hid hrec
            clear hrec
            refine ⟨⟨R ++ [rowP T], e + N2, f', vs ++ [((av2, nv2, cv2) : SV)], a9, n9, c9, ?_, HT.keptJ HZ9.out HKF.out (by omega), OwnB.keptJ HP9.out HKF.out (fun q hq e => by have := OwnB.ge HP9.out q hq; omega), OwnR.keptJ HQ9.out HKF.out (fun q hq e => by have := OwnR.ge HQ9.out q hq; omega), HB9.out.trans (HKF.out.below (fun q hq e => by omega) HB9.out.size), Nat.le_trans hs9 HKF.out.size, OwnR.keptJ HO9.out HKF.out (fun q hq e => by have := OwnR.ge HO9.out q hq; omega), ?_, ?_, ?_, hN2b.2, by omega, by have := HF.out; omega, ?_, HRECN.out⟩, ?_⟩
            ·
             have h9 := HXF.out
             exact h9
            ·
             rw [Hn9.out, HVS.out, List.length_append]; rfl
            ·
             rw [List.length_append, List.length_append, HVS.out]; rfl
            ·
             refine recs_snoc HVS.out (fun i h1 h2 => OwnB.keptJ (HAL9.out i h1 h2) HKF.out (fun q hq e => ?_)) (OwnB.keptJ (OwnB.base HV9.out hszr2) HKF.out (fun q hq e => ?_))
             ·
              have := OwnB.ge (HAL9.out i h1 h2) q hq; omega
             ·
              have := OwnB.ge HV9.out q hq; omega
            ·
             rw [List.length_append, ← HN.out, List.length_singleton]; omega
            ·
             rw [cellNat_is hx4F, cellNat_is hx4W]; omega
           ·
            go_simp
            have hbx : Below wA4.heap.size wA4 (wA4.alloc (.cells #[.slice av2 nv2 cv2] 22)) := (Below.refl _ _).alloc (Nat.le_refl _) _
            have hone : Rs encS 1 (wA4.alloc (.cells #[.slice av2 nv2 cv2] 22)) (.slice (some ⟨wA4.heap.size, 0, none⟩) 1 1) [((av2, nv2, cv2) : SV)] := Rs.one encS_len wA4 ((av2, nv2, cv2) : SV) 22
            obtain ⟨gx, hgx⟩ : ∃ gx, gx = wA4.heap.size := ⟨_, rfl⟩
            rw [← hgx] at hone ⊢
            refine hK.out _ _ (fun x => BL V4 x ∧ Rs encS 1 x (.slice (some ⟨gx, 0, none⟩) 1 1) [((av2, nv2, cv2) : SV)]) (⟨fun x h => ⟨BL.cell h.1 x4, BL.cell h.1 r2, BL.cell h.1 r3⟩, fun _ _ h hb => ⟨Below.next h.1 hb, Rs.mono h.2 hb⟩⟩ : Cls (fun x => x.cell? ⟨w.heap.size + 1, 4, none⟩ = some (.int .i64 (e : Int)) ∧ x.cell? ⟨w3.heap.size, 2, none⟩ = some (.slice av2 nv2 cv2) ∧ x.cell? ⟨w3.heap.size, 3, none⟩ = some (.int .i64 (N2 : Int))) (fun x => BL V4 x ∧ Rs encS 1 x (.slice (some ⟨gx, 0, none⟩) 1 1) [((av2, nv2, cv2) : SV)])) ⟨Below.next hA4 hbx, hone⟩ ?_
            clear hgx hone hbx
            clear hK K
            try simp only [Act.put, zA, zB, zC]
            refine wpAnyU_ready (rs := [1]) (by kernel_rfl) (by simp) ?_
            refine AllReadyU.cons (o := { dst := some 94, op := Op.load 23 (Operand.tmp 93), type := 23, pos := "journal.go:57", after := #[{ on := 0, ground := Ground.data }], guard := none }) rfl (fun wA1 hA1 K hK => ?_) AllReadyU.nil
            have e0 := BL.cell hA1.1 x3
            go_simp
            refine hK.out _ _ (fun x => BL V4 x ∧ Rs encS 1 x (.slice (some ⟨gx, 0, none⟩) 1 1) [((av2, nv2, cv2) : SV)]) (⟨fun x h => ⟨BL.cell h.1 x4, BL.cell h.1 r2, BL.cell h.1 r3⟩, fun _ _ h hb => ⟨Below.next h.1 hb, Rs.mono h.2 hb⟩⟩ : Cls (fun x => x.cell? ⟨w.heap.size + 1, 4, none⟩ = some (.int .i64 (e : Int)) ∧ x.cell? ⟨w3.heap.size, 2, none⟩ = some (.slice av2 nv2 cv2) ∧ x.cell? ⟨w3.heap.size, 3, none⟩ = some (.int .i64 (N2 : Int))) (fun x => BL V4 x ∧ Rs encS 1 x (.slice (some ⟨gx, 0, none⟩) 1 1) [((av2, nv2, cv2) : SV)])) hA1 ?_
            clear e0
            clear hK K
            try simp only [Act.put, zA, zB, zC]
            refine wpAnyU_ready (rs := [5]) (by kernel_rfl) (by simp) ?_
            refine AllReadyU.cons (o := { dst := some 98, op := Op.call { callee := Callee.builtin Builtin.append, args := #[Operand.tmp 94, Operand.tmp 97], argTypes := #[23, 23] }, type := 23, pos := "journal.go:57", after := #[{ on := 1, ground := Ground.data }, { on := 4, ground := Ground.data }], guard := none }) rfl (fun wA5 hA5 K hK => ?_) AllReadyU.nil
            have ho5 := OwnR.below HORS4.out hA5.1
            have hx5 := HT.below HHX4.out hA5.1
            have hr5 := HT.below HRR.out hA5.1
            have hz5 : w.heap.size + 2 ≤ wA5.heap.size := Nat.le_trans hz4 (Below.size hA5.1)
            refine step_append_rows (v := .slice a n c) (vx := .slice (some ⟨gx, 0, none⟩) 1 1) rfl (.tmp 94) (.tmp 97) 23 rfl (L := vs) (M := [((av2, nv2, cv2) : SV)]) (base := w.heap.size + 2) elem_s rfl rfl ho5 hA5.2 encS_one hle5 (by decide) hz5 ?_
            intro a9 n9 c9 w9 Hn9 ho9 hg9 hat9 hb9
            have hty : ∀ k, (Value.slice a n c).ownBlock = some k → ∃ cur fr, wA5.heap[k]? = some (.cells cur 22 fr) := fun k hk => ownsRow_type ho5.2 hk
            have hx9 := HT.grownApart hx5 hg9 hty (by decide)
            have hr9 := HT.grownApart hr5 hg9 hty (by decide)
            have hz9 := HT.grownApart (HT.below HHZ4.out hA5.1) hg9 hty (by decide)
            have hp9 := OwnB.grownApart (OwnB.below HOP4.out hA5.1) hg9 hty (by decide)
            have hq9 := OwnR.grownApart (OwnR.below HQB.out hA5.1) hg9 hty (by decide)
            have hv9 := OwnB.grownApart (OwnB.below HOV2.out hA5.1) hg9 hty (by decide)
            have HAL9 : Hid (∀ i (h1 : i < vs.length) (h2 : i < R.length), OwnB 5 w9 (w.heap.size + 2) vs[i].v R[i]) := fun i h1 h2 => OwnB.grownApart (OwnB.below (HAL4.out i h1 h2) hA5.1) hg9 hty (by decide)
            have HB9 : Hid (Below w.heap.size w w9) := (Below.next' HB4.out hA5.1 (Nat.le_refl _)).trans (hb9.mono (by omega))
            have hs9 : w.heap.size + 2 ≤ w9.heap.size := Nat.le_trans hz5 hb9.size
            have y4 := hx9.cell (j := 4) rfl
            have s2 := hr9.cell (j := 2) rfl
            have s3 := hr9.cell (j := 3) rfl
            have HX9 := Lib.hid hx9
            have HR9 := Lib.hid hr9
            have HZ9 := Lib.hid hz9
            have HP9 := Lib.hid hp9
            have HQ9 := Lib.hid hq9
            have HV9 := Lib.hid hv9
            have HO9 := Lib.hid ho9
            refine hK.out _ _ (BL w9) (⟨fun x h => ⟨BL.cell h y4, BL.cell h s2, BL.cell h s3⟩, fun _ _ h hb => Below.next h hb⟩ : Cls (fun x => x.cell? ⟨w.heap.size + 1, 4, none⟩ = some (.int .i64 (e : Int)) ∧ x.cell? ⟨w3.heap.size, 2, none⟩ = some (.slice av2 nv2 cv2) ∧ x.cell? ⟨w3.heap.size, 3, none⟩ = some (.int .i64 (N2 : Int))) (BL w9)) (Below.refl _ _) ?_
            clear ho5 hx5 hr5 hz5 hty hx9 hr9 hz9 hp9 hq9 hv9 ho9 hg9 hb9 hat9
            clear hK K
            try simp only [Act.put, zA, zB, zC]
            refine wpAnyU_take (i := 11) (oi := { dst := some 104, op := Op.fieldAddr 84 (Operand.tmp 6) 3, type := 0, pos := "journal.go:57", after := #[{ on := 0, ground := Ground.phase }, { on := 1, ground := Ground.phase }, { on := 2, ground := Ground.phase }, { on := 3, ground := Ground.phase }, { on := 4, ground := Ground.phase }, { on := 5, ground := Ground.phase }, { on := 6, ground := Ground.phase }, { on := 7, ground := Ground.phase }, { on := 8, ground := Ground.textOnly Departure.lateStores }, { on := 9, ground := Ground.textOnly Departure.lateStores }, { on := 10, ground := Ground.textOnly Departure.lateStoresUnsure }], guard := none }) (v := (.pointer (some ⟨w.heap.size + 1, 3, none⟩))) rfl (by kernel_rfl) (by kernel_rfl) (by kernel_rfl) (by kernel_rfl) (by kernel_rfl) (fun _ _ _ h => h) (⟨fun x h => ⟨BL.cell h y4, BL.cell h s2, BL.cell h s3⟩, fun _ _ h hb => Below.next h hb⟩ : Cls (fun x => x.cell? ⟨w.heap.size + 1, 4, none⟩ = some (.int .i64 (e : Int)) ∧ x.cell? ⟨w3.heap.size, 2, none⟩ = some (.slice av2 nv2 cv2) ∧ x.cell? ⟨w3.heap.size, 3, none⟩ = some (.int .i64 (N2 : Int))) (BL w9)) ?_ ?_
            ·
             refine Or.inl ⟨rfl, fun w hSw => ?_⟩
             exact EffR.same (by go_simp)
            try simp only [Act.put, zA, zB, zC]
            refine wpAnyU_ready (rs := [12]) (by kernel_rfl) (by simp) ?_
            refine AllReadyU.cons (o := { dst := none, op := Op.store 23 (Operand.tmp 104) (Operand.tmp 98), type := 0, pos := "journal.go:57", after := #[{ on := 11, ground := Ground.data }, { on := 5, ground := Ground.data }, { on := 5, ground := Ground.chain }, { on := 0, ground := Ground.phase }, { on := 1, ground := Ground.phase }, { on := 2, ground := Ground.phase }, { on := 3, ground := Ground.phase }, { on := 4, ground := Ground.phase }, { on := 5, ground := Ground.phase }, { on := 6, ground := Ground.phase }, { on := 7, ground := Ground.phase }, { on := 8, ground := Ground.textOnly Departure.lateStores }, { on := 9, ground := Ground.textOnly Departure.lateStores }, { on := 10, ground := Ground.textOnly Departure.lateStoresUnsure }], guard := none }) rfl (fun wA12 hA12 K hK => ?_) AllReadyU.nil
            have hxC := HT.below HX9.out hA12
            have c3 := hxC.cell (j := 3) rfl
            have f3 := hxC.frozen 3
            go_simp
            obtain ⟨wE, hwE⟩ : ∃ z, z = wA12.setCell ⟨w.heap.size + 1, 3, none⟩ (.slice a9 n9 c9) := ⟨_, rfl⟩
            have hkE : Kept (fun q => q = w.heap.size + 1) w9 wE := by rw [hwE]; exact (Kept.pre hA12 ((Kept.refl (fun q => q = w.heap.size + 1) wA12).setCell ⟨w.heap.size + 1, 3, none⟩ _ rfl))
            have hxE : HT wE (w.heap.size + 1) 84 [.int .i64 (from_ : Int), .int .i64 (G : Int), .slice av nv cv, .slice a9 n9 c9, .int .i64 (e : Int)] := by rw [hwE]; exact hxC.put 3 (.slice a9 n9 c9)
            have hrE := HT.keptJ HR9.out hkE (by omega)
            have z4 := hxE.cell (j := 4) rfl
            have t2 := hrE.cell (j := 2) rfl
            have t3 := hrE.cell (j := 3) rfl
            have HKE := Lib.hid hkE
            have HXE := Lib.hid hxE
            rw [← hwE]
            refine hK.out _ _ (BL wE) (⟨fun x h => ⟨BL.cell h z4, BL.cell h t2, BL.cell h t3⟩, fun _ _ h hb => Below.next h hb⟩ : Cls (fun x => x.cell? ⟨w.heap.size + 1, 4, none⟩ = some (.int .i64 (e : Int)) ∧ x.cell? ⟨w3.heap.size, 2, none⟩ = some (.slice av2 nv2 cv2) ∧ x.cell? ⟨w3.heap.size, 3, none⟩ = some (.int .i64 (N2 : Int))) (BL wE)) (Below.refl _ _) ?_
            clear hxC c3 f3 hkE hxE hrE hwE
            clear hK K
            try simp only [Act.put]
            refine wpAnyU_take (i := 13) (oi := { dst := some 105, op := Op.fieldAddr 84 (Operand.tmp 6) 4, type := 0, pos := "journal.go:57", after := #[{ on := 0, ground := Ground.phase }, { on := 1, ground := Ground.phase }, { on := 2, ground := Ground.phase }, { on := 3, ground := Ground.phase }, { on := 4, ground := Ground.phase }, { on := 5, ground := Ground.phase }, { on := 6, ground := Ground.phase }, { on := 7, ground := Ground.phase }, { on := 8, ground := Ground.phase }, { on := 9, ground := Ground.phase }, { on := 10, ground := Ground.phase }, { on := 11, ground := Ground.phase }, { on := 12, ground := Ground.phase }], guard := none }) (v := (.pointer (some ⟨w.heap.size + 1, 4, none⟩))) rfl (by kernel_rfl) (by kernel_rfl) (by kernel_rfl) (by kernel_rfl) (by kernel_rfl) (fun _ _ _ h => h) (⟨fun x h => ⟨BL.cell h z4, BL.cell h t2, BL.cell h t3⟩, fun _ _ h hb => Below.next h hb⟩ : Cls (fun x => x.cell? ⟨w.heap.size + 1, 4, none⟩ = some (.int .i64 (e : Int)) ∧ x.cell? ⟨w3.heap.size, 2, none⟩ = some (.slice av2 nv2 cv2) ∧ x.cell? ⟨w3.heap.size, 3, none⟩ = some (.int .i64 (N2 : Int))) (BL wE)) ?_ ?_
            ·
             refine Or.inl ⟨rfl, fun w hSw => ?_⟩
             exact EffR.same (by go_simp)
            try simp only [Act.put, zA, zB, zC]
            refine wpAnyU_last (o := { dst := none, op := Op.store 3 (Operand.tmp 105) (Operand.tmp 103), type := 0, pos := "journal.go:57", after := #[{ on := 13, ground := Ground.data }, { on := 10, ground := Ground.data }, { on := 12, ground := Ground.chain }, { on := 0, ground := Ground.phase }, { on := 1, ground := Ground.phase }, { on := 2, ground := Ground.phase }, { on := 3, ground := Ground.phase }, { on := 4, ground := Ground.phase }, { on := 5, ground := Ground.phase }, { on := 6, ground := Ground.phase }, { on := 7, ground := Ground.phase }, { on := 8, ground := Ground.phase }, { on := 9, ground := Ground.phase }, { on := 10, ground := Ground.phase }, { on := 11, ground := Ground.phase }, { on := 12, ground := Ground.phase }], guard := none }) (by kernel_rfl) (by kernel_rfl) rfl (fun w1 hb1 K hK => ?_)
            have hxF := HT.below HXE.out hb1
            have c4 := hxF.cell (j := 4) rfl
            have f4 := hxF.frozen 4
            have hkF := Kept.pre hb1 ((Kept.refl (fun q => q = w.heap.size + 1) w1).setCell ⟨w.heap.size + 1, 4, none⟩ (.int .i64 ((e : Int) + (N2 : Int))) rfl)
            have HXF := Lib.hid (hxF.put 4 (.int .i64 ((e : Int) + (N2 : Int))))
            have HKF := Lib.hid (HKE.out.trans hkF (fun _ _ e => e))
            clear hkF hxF
            go_simp
            refine hK.out _ _ ?_
            clear hK K
            try simp only [Act.put]
            clear c4 f4
            obtain ⟨wF, hwF⟩ : ∃ z, z = w1.setCell ⟨w.heap.size + 1, 4, none⟩ (.int .i64 ((e : Int) + (N2 : Int))) := ⟨_, rfl⟩
            rw [← hwF] at HXF HKF ⊢
            clear hwF hb1
            go_wp2_with fail
            have hx4F := HXF.out.cell (j := 4) rfl
            have hx4W := HHX.out.cell (j := 4) rfl
            have hrec : recsF L G q7 1 N = ((R ++ [rowP T]) ++ (recsF L G f' ((R ++ [rowP T]).length + 1) (e + N2)).1, (recsF L G f' ((R ++ [rowP T]).length + 1) (e + N2)).2) := by
             have h5 := HREC.out
             rw [HF.out, recsF_more (L := L) (g := G) (f := f') (k := R.length + 1) (e := e) ⟨by rw [← HT0.out]; exact HS2.out, by rw [← HT0.out, ← HG2.out]; exact HGG.out, by rw [← HT0.out, ← HK2.out, HKK.out, HN.out]⟩, ← HT0.out, ← HN2.out] at h5
             rw [h5, List.length_append, List.length_singleton, List.append_assoc]
             rfl
            have HRECN := Lib.hid hrec
            clear hrec
            refine ⟨⟨R ++ [rowP T], e + N2, f', vs ++ [((av2, nv2, cv2) : SV)], a9, n9, c9, ?_, HT.keptJ HZ9.out HKF.out (by omega), OwnB.keptJ HP9.out HKF.out (fun q hq e => by have := OwnB.ge HP9.out q hq; omega), OwnR.keptJ HQ9.out HKF.out (fun q hq e => by have := OwnR.ge HQ9.out q hq; omega), HB9.out.trans (HKF.out.below (fun q hq e => by omega) HB9.out.size), Nat.le_trans hs9 HKF.out.size, OwnR.keptJ HO9.out HKF.out (fun q hq e => by have := OwnR.ge HO9.out q hq; omega), ?_, ?_, ?_, hN2b.2, by omega, by have := HF.out; omega, ?_, HRECN.out⟩, ?_⟩
            ·
             have h9 := HXF.out
             exact h9
            ·
             rw [Hn9.out, HVS.out, List.length_append]; rfl
            ·
             rw [List.length_append, List.length_append, HVS.out]; rfl
            ·
             refine recs_snoc HVS.out (fun i h1 h2 => OwnB.keptJ (HAL9.out i h1 h2) HKF.out (fun q hq e => ?_)) (OwnB.keptJ (OwnB.base HV9.out hszr2) HKF.out (fun q hq e => ?_))
             ·
              have := OwnB.ge (HAL9.out i h1 h2) q hq; omega
             ·
              have := OwnB.ge HV9.out q hq; omega
            ·
             rw [List.length_append, ← HN.out, List.length_singleton]; omega
            ·
             rw [cellNat_is hx4F, cellNat_is hx4W]; omega
          ·
           have hkk1 : ((K2 : Int) != (n : Int) + 1) = true := by rw [bne_iff_ne]; omega
           have HKK := Lib.hid hkk
           clear hkk hrr
           have HRA : Hid ((w3.alloc (.cells #[.int .i64 (G2 : Int), .int .i64 (K2 : Int), .slice av2 nv2 cv2, .int .i64 (N2 : Int)] 109)).heap[w.heap.size]? = some (.cells #[.int .i64 0, .int .i64 0, .slice none 0 0, .slice none 0 0, .int .i64 0] 84 (0, 0))) := HHZ4.out
           have HRB : Hid ((w3.alloc (.cells #[.int .i64 (G2 : Int), .int .i64 (K2 : Int), .slice av2 nv2 cv2, .int .i64 (N2 : Int)] 109)).heap[w.heap.size + 1]? = some (.cells #[.int .i64 (from_ : Int), .int .i64 (G : Int), .slice av nv cv, .slice a n c, .int .i64 (e : Int)] 84 (0, 0))) := HHX4.out
           have HSZx : Hid ((Try.prog.info? 84).map (·.size) = some (#[.int .i64 (from_ : Int), .int .i64 (G : Int), .slice av nv cv, .slice a n c, .int .i64 (e : Int)] : Array Value).size) := by show _ = _; rw [half5]; rfl
           have HONx : Hid ((#[.int .i64 (from_ : Int), .int .i64 (G : Int), .slice av nv cv, .slice a n c, .int .i64 (e : Int)] : Array Value).all (·.oneCell') = true) := by show _ = true; simp [Value.oneCell']
           clear hb3 hb4
           go_upto_region 17 with fail
           go_wp2_with (first
            | (refine wpList_load_row rfl 84 (.tmp 6) rfl (w.heap.size + 1) rfl 84 #[.int .i64 (from_ : Int), .int .i64 (G : Int), .slice av nv cv, .slice a n c, .int .i64 (e : Int)] (0, 0) _ HRB.out Try.underlying84 rfl HSZx.out ?_)
            | (refine wpList_store_row rfl 84 (.tmp 4) (.tmp 92) rfl w.heap.size #[.int .i64 (from_ : Int), .int .i64 (G : Int), .slice av nv cv, .slice a n c, .int .i64 (e : Int)] rfl rfl 84 #[.int .i64 0, .int .i64 0, .slice none 0 0, .slice none 0 0, .int .i64 0] HRA.out HSZx.out rfl HONx.out ?_)
            | fail)
           refine bodyPost_ret (results_row2 rfl (HC.row HHZ4.out) rfl rfl Try.underlying84 rfl half5) rfl ?_
           have hkz := setRow_keptJ w.heap.size #[.int .i64 (from_ : Int), .int .i64 (G : Int), .slice av nv cv, .slice a n c, .int .i64 (e : Int)] (w3.alloc (.cells #[.int .i64 (G2 : Int), .int .i64 (K2 : Int), .slice av2 nv2 cv2, .int .i64 (N2 : Int)] 109))
           have hn9 : readL L = ⟨G, rowP L, R, e⟩ := by
            have h5 := HREC.out
            rw [HF.out, recsF_stop (fun h => HKK.out (by rw [HK2.out, HT0.out, HN.out, h.2.2])), List.append_nil] at h5
            unfold readL
            rw [if_pos ⟨HS.out, by rw [← HG.out]; omega, HK.out.symm⟩, HLL.out, ← HG.out, ← HN0.out, h5]
           refine ⟨.slice av nv cv, .slice a n c, ?_, ?_, Below.setRow HB4.out (Nat.le_refl _) _⟩
           ·
            rw [hn9]
            rfl
           ·
            rw [hn9]
            exact halfM.leave hkz HOP4.out HORS4.out HVS.out HAL4.out
         ·
          have hgg1 : ((G2 : Int) != (G : Int)) = true := by rw [bne_iff_ne]; omega
          have HGG := Lib.hid hgg
          clear hgg hrr
          have HRA : Hid ((w3.alloc (.cells #[.int .i64 (G2 : Int), .int .i64 (K2 : Int), .slice av2 nv2 cv2, .int .i64 (N2 : Int)] 109)).heap[w.heap.size]? = some (.cells #[.int .i64 0, .int .i64 0, .slice none 0 0, .slice none 0 0, .int .i64 0] 84 (0, 0))) := HHZ4.out
          have HRB : Hid ((w3.alloc (.cells #[.int .i64 (G2 : Int), .int .i64 (K2 : Int), .slice av2 nv2 cv2, .int .i64 (N2 : Int)] 109)).heap[w.heap.size + 1]? = some (.cells #[.int .i64 (from_ : Int), .int .i64 (G : Int), .slice av nv cv, .slice a n c, .int .i64 (e : Int)] 84 (0, 0))) := HHX4.out
          have HSZx : Hid ((Try.prog.info? 84).map (·.size) = some (#[.int .i64 (from_ : Int), .int .i64 (G : Int), .slice av nv cv, .slice a n c, .int .i64 (e : Int)] : Array Value).size) := by show _ = _; rw [half5]; rfl
          have HONx : Hid ((#[.int .i64 (from_ : Int), .int .i64 (G : Int), .slice av nv cv, .slice a n c, .int .i64 (e : Int)] : Array Value).all (·.oneCell') = true) := by show _ = true; simp [Value.oneCell']
          clear hb3 hb4
          go_upto_region 17 with fail
          go_wp2_with (first
           | (refine wpList_load_row rfl 84 (.tmp 6) rfl (w.heap.size + 1) rfl 84 #[.int .i64 (from_ : Int), .int .i64 (G : Int), .slice av nv cv, .slice a n c, .int .i64 (e : Int)] (0, 0) _ HRB.out Try.underlying84 rfl HSZx.out ?_)
           | (refine wpList_store_row rfl 84 (.tmp 4) (.tmp 92) rfl w.heap.size #[.int .i64 (from_ : Int), .int .i64 (G : Int), .slice av nv cv, .slice a n c, .int .i64 (e : Int)] rfl rfl 84 #[.int .i64 0, .int .i64 0, .slice none 0 0, .slice none 0 0, .int .i64 0] HRA.out HSZx.out rfl HONx.out ?_)
           | fail)
          refine bodyPost_ret (results_row2 rfl (HC.row HHZ4.out) rfl rfl Try.underlying84 rfl half5) rfl ?_
          have hkz := setRow_keptJ w.heap.size #[.int .i64 (from_ : Int), .int .i64 (G : Int), .slice av nv cv, .slice a n c, .int .i64 (e : Int)] (w3.alloc (.cells #[.int .i64 (G2 : Int), .int .i64 (K2 : Int), .slice av2 nv2 cv2, .int .i64 (N2 : Int)] 109))
          have hn9 : readL L = ⟨G, rowP L, R, e⟩ := by
           have h5 := HREC.out
           rw [HF.out, recsF_stop (fun h => HGG.out (by rw [HG2.out, HT0.out, h.2.1])), List.append_nil] at h5
           unfold readL
           rw [if_pos ⟨HS.out, by rw [← HG.out]; omega, HK.out.symm⟩, HLL.out, ← HG.out, ← HN0.out, h5]
          refine ⟨.slice av nv cv, .slice a n c, ?_, ?_, Below.setRow HB4.out (Nat.le_refl _) _⟩
          ·
           rw [hn9]
           rfl
          ·
           rw [hn9]
           exact halfM.leave hkz HOP4.out HORS4.out HVS.out HAL4.out
        ·
         have HNS := Lib.hid hns
         clear hns
         have HHX4 := Lib.hid ((HHX.out.below hb3).below ((Below.refl _ _).alloc (Nat.le_refl _) (.cells #[.int .i64 0, .int .i64 0, .slice none 0 0, .int .i64 q2] 109)))
         have HHZ4 := Lib.hid ((HHZ.out.below hb3).below ((Below.refl _ _).alloc (Nat.le_refl _) (.cells #[.int .i64 0, .int .i64 0, .slice none 0 0, .int .i64 q2] 109)))
         have hb4 : Below wr.heap.size wr (w3.alloc (.cells #[.int .i64 0, .int .i64 0, .slice none 0 0, .int .i64 q2] 109)) := hb3.alloc hb3.size _
         have HB4 : Hid (Below w.heap.size w (w3.alloc (.cells #[.int .i64 0, .int .i64 0, .slice none 0 0, .int .i64 q2] 109))) := HBE.out.next hb4
         have HOP4 := Lib.hid (HOP.out.below hb4)
         have HORS4 := Lib.hid (HORS.out.below hb4)
         have HAL4 : Hid (∀ i (h1 : i < vs.length) (h2 : i < R.length), OwnB 5 (w3.alloc (.cells #[.int .i64 0, .int .i64 0, .slice none 0 0, .int .i64 q2] 109)) (w.heap.size + 2) vs[i].v R[i]) := fun i h1 h2 => (HAL.out i h1 h2).below hb4
         have HRA : Hid ((w3.alloc (.cells #[.int .i64 0, .int .i64 0, .slice none 0 0, .int .i64 q2] 109)).heap[w.heap.size]? = some (.cells #[.int .i64 0, .int .i64 0, .slice none 0 0, .slice none 0 0, .int .i64 0] 84 (0, 0))) := HHZ4.out
         have HRB : Hid ((w3.alloc (.cells #[.int .i64 0, .int .i64 0, .slice none 0 0, .int .i64 q2] 109)).heap[w.heap.size + 1]? = some (.cells #[.int .i64 (from_ : Int), .int .i64 (G : Int), .slice av nv cv, .slice a n c, .int .i64 (e : Int)] 84 (0, 0))) := HHX4.out
         have HSZx : Hid ((Try.prog.info? 84).map (·.size) = some (#[.int .i64 (from_ : Int), .int .i64 (G : Int), .slice av nv cv, .slice a n c, .int .i64 (e : Int)] : Array Value).size) := by show _ = _; rw [half5]; rfl
         have HONx : Hid ((#[.int .i64 (from_ : Int), .int .i64 (G : Int), .slice av nv cv, .slice a n c, .int .i64 (e : Int)] : Array Value).all (·.oneCell') = true) := by show _ = true; simp [Value.oneCell']
         clear hb3 hb4
         go_upto_region 17 with fail
         go_wp2_with (first
          | (refine wpList_load_row rfl 84 (.tmp 6) rfl (w.heap.size + 1) rfl 84 #[.int .i64 (from_ : Int), .int .i64 (G : Int), .slice av nv cv, .slice a n c, .int .i64 (e : Int)] (0, 0) _ HRB.out Try.underlying84 rfl HSZx.out ?_)
          | (refine wpList_store_row rfl 84 (.tmp 4) (.tmp 92) rfl w.heap.size #[.int .i64 (from_ : Int), .int .i64 (G : Int), .slice av nv cv, .slice a n c, .int .i64 (e : Int)] rfl rfl 84 #[.int .i64 0, .int .i64 0, .slice none 0 0, .slice none 0 0, .int .i64 0] HRA.out HSZx.out rfl HONx.out ?_)
          | fail)
         refine bodyPost_ret (results_row2 rfl (HC.row HHZ4.out) rfl rfl Try.underlying84 rfl half5) rfl ?_
         have hkz := setRow_keptJ w.heap.size #[.int .i64 (from_ : Int), .int .i64 (G : Int), .slice av nv cv, .slice a n c, .int .i64 (e : Int)] (w3.alloc (.cells #[.int .i64 0, .int .i64 0, .slice none 0 0, .int .i64 q2] 109))
         have hn9 : readL L = ⟨G, rowP L, R, e⟩ := by
          have h5 := HREC.out
          rw [HF.out, recsF_stop (fun h => HNS.out (by rw [HT0.out]; exact h.1)), List.append_nil] at h5
          unfold readL
          rw [if_pos ⟨HS.out, by rw [← HG.out]; omega, HK.out.symm⟩, HLL.out, ← HG.out, ← HN0.out, h5]
         refine ⟨.slice av nv cv, .slice a n c, ?_, ?_, Below.setRow HB4.out (Nat.le_refl _) _⟩
         ·
          rw [hn9]
          rfl
         ·
          rw [hn9]
          exact halfM.leave hkz HOP4.out HORS4.out HVS.out HAL4.out
     ·
      have hg1' : decide ((G : Int) < 1) = false := by simpa using hg1
      have hk1' : ((K : Int) != 0) = true := by rw [bne_iff_ne]; exact hk1
      have HK1 := Lib.hid hk1
      clear hk1
      have HHA3 := Lib.hid ((HHA.out.below hb2).below ((Below.refl _ _).alloc (Nat.le_refl _) (.cells #[.int .i64 (G : Int), .int .i64 (K : Int), .slice av nv cv, .int .i64 (N : Int)] 109)))
      have HHB3 := Lib.hid ((HHB.out.below hb2).below ((Below.refl _ _).alloc (Nat.le_refl _) (.cells #[.int .i64 (G : Int), .int .i64 (K : Int), .slice av nv cv, .int .i64 (N : Int)] 109)))
      have HB3 : Hid (Below w.heap.size w (w2.alloc (.cells #[.int .i64 (G : Int), .int .i64 (K : Int), .slice av nv cv, .int .i64 (N : Int)] 109))) := (HBEL.out.next hb2).alloc (HBEL.out.next hb2).size _
      have HRA : Hid ((w2.alloc (.cells #[.int .i64 (G : Int), .int .i64 (K : Int), .slice av nv cv, .int .i64 (N : Int)] 109)).heap[w.heap.size]? = some (.cells #[.int .i64 0, .int .i64 0, .slice none 0 0, .slice none 0 0, .int .i64 0] 84 (0, 0))) := HHA3.out
      have HRB : Hid ((w2.alloc (.cells #[.int .i64 (G : Int), .int .i64 (K : Int), .slice av nv cv, .int .i64 (N : Int)] 109)).heap[w.heap.size + 1]? = some (.cells #[.int .i64 (from_ : Int), .int .i64 0, .slice none 0 0, .slice none 0 0, .int .i64 0] 84 (0, 0))) := HHB3.out
      go_wp2_with (first
       | (refine wpList_load_row rfl 84 (.tmp 6) rfl (w.heap.size + 1) rfl 84 #[.int .i64 (from_ : Int), .int .i64 0, .slice none 0 0, .slice none 0 0, .int .i64 0] (0, 0) _ HRB.out Try.underlying84 rfl HSZf.out ?_)
       | (refine wpList_store_row rfl 84 (.tmp 4) (.tmp 56) rfl w.heap.size #[.int .i64 (from_ : Int), .int .i64 0, .slice none 0 0, .slice none 0 0, .int .i64 0] rfl rfl 84 #[.int .i64 0, .int .i64 0, .slice none 0 0, .slice none 0 0, .int .i64 0] HRA.out HSZf.out rfl HONf.out ?_)
       | fail)
      refine bodyPost_ret (results_row2 rfl (HC.row HHA3.out) rfl rfl Try.underlying84 rfl half5) rfl ?_
      have hn0 : readL L = ⟨0, [], [], 0⟩ := by
       unfold readL
       rw [if_neg (fun e => HK1.out (by rw [HK.out, e.2.2]; rfl))]
      refine ⟨.slice none 0 0, .slice none 0 0, by rw [hn0]; rfl, by rw [hn0]; exact ⟨OwnB.empty _ _ _, fun k e => (by cases e), recsM.nil _ _⟩, Below.setRow HB3.out (Nat.le_refl _) _⟩
   ·
    have HS := Lib.hid hs
    clear hs
    have HHA3 := Lib.hid ((HHA.out.below hb2).below ((Below.refl _ _).alloc (Nat.le_refl _) (.cells #[.int .i64 0, .int .i64 0, .slice none 0 0, .int .i64 q] 109)))
    have HHB3 := Lib.hid ((HHB.out.below hb2).below ((Below.refl _ _).alloc (Nat.le_refl _) (.cells #[.int .i64 0, .int .i64 0, .slice none 0 0, .int .i64 q] 109)))
    have HB3 : Hid (Below w.heap.size w (w2.alloc (.cells #[.int .i64 0, .int .i64 0, .slice none 0 0, .int .i64 q] 109))) := (HBEL.out.next hb2).alloc (HBEL.out.next hb2).size _
    have HRA : Hid ((w2.alloc (.cells #[.int .i64 0, .int .i64 0, .slice none 0 0, .int .i64 q] 109)).heap[w.heap.size]? = some (.cells #[.int .i64 0, .int .i64 0, .slice none 0 0, .slice none 0 0, .int .i64 0] 84 (0, 0))) := HHA3.out
    have HRB : Hid ((w2.alloc (.cells #[.int .i64 0, .int .i64 0, .slice none 0 0, .int .i64 q] 109)).heap[w.heap.size + 1]? = some (.cells #[.int .i64 (from_ : Int), .int .i64 0, .slice none 0 0, .slice none 0 0, .int .i64 0] 84 (0, 0))) := HHB3.out
    go_wp2_with (first
     | (refine wpList_load_row rfl 84 (.tmp 6) rfl (w.heap.size + 1) rfl 84 #[.int .i64 (from_ : Int), .int .i64 0, .slice none 0 0, .slice none 0 0, .int .i64 0] (0, 0) _ HRB.out Try.underlying84 rfl HSZf.out ?_)
     | (refine wpList_store_row rfl 84 (.tmp 4) (.tmp 56) rfl w.heap.size #[.int .i64 (from_ : Int), .int .i64 0, .slice none 0 0, .slice none 0 0, .int .i64 0] rfl rfl 84 #[.int .i64 0, .int .i64 0, .slice none 0 0, .slice none 0 0, .int .i64 0] HRA.out HSZf.out rfl HONf.out ?_)
     | fail)
    refine bodyPost_ret (results_row2 rfl (HC.row HHA3.out) rfl rfl Try.underlying84 rfl half5) rfl ?_
    have hn0 : readL L = ⟨0, [], [], 0⟩ := readL_none HS.out
    refine ⟨.slice none 0 0, .slice none 0 0, by rw [hn0]; rfl, by rw [hn0]; exact ⟨OwnB.empty _ _ _, fun k e => (by cases e), recsM.nil _ _⟩, Below.setRow HB3.out (Nat.le_refl _) _⟩
end Cam
