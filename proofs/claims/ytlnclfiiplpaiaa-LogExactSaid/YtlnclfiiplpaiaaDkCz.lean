import Derived.Test.YtlnclfiiplpaiaaDkBaz
import Derived.Test.YtlnclfiiplpaiaaDkY
/- Several small texts in one: MemB, DkC. No condition. -/
namespace Cam
open Go Go.RowKit
def inBlock (v : Value) (k : Nat) : Prop := ∃ ad n c, v = .slice (some ad) n c ∧ ad.block = k
theorem Kept.cell {S : Nat → Prop} {w w' : World} (hk : Kept S w w') {p : Addr} {x : Value} (h : w.cell? p = some x) (hp : ¬ S p.block) : w'.cell? p = some x := by
 have hlt := World.block_lt_of_cell? w _ h
 unfold World.cell? at *
 rw [hk.block _ hlt hp]
 exact h
theorem Sl.kept1 {S : Nat → Prop} {w w' : World} {v : Value} {size n : Nat} {cs : List Value} (h : Sl w v size n cs) (hk : Kept S w w') (ha : cs ≠ [] → ∀ k, inBlock v k → ¬ S k) : Sl w' v size n cs := by
 obtain ⟨h0, a, c, rfl, h1, h2, h3, h4⟩ := h
 refine ⟨h0, a, c, rfl, h1, h2, h3, fun ad had i u hu => ?_⟩
 have hc := h4 ad had i u hu
 subst had
 have hb : (ad.add i).block = ad.block := by unfold Addr.add; split <;> rfl
 exact hk.cell hc (by rw [hb]; exact ha (fun e => by subst e; simp at hu) _ ⟨ad, n, c, rfl, rfl⟩)
theorem Bs.kept1 {S : Nat → Prop} {w w' : World} {v : Value} {l : List UInt8} (h : Bs w v l) (hk : Kept S w w') (ha : l ≠ [] → ∀ k, inBlock v k → ¬ S k) : Bs w' v l := Sl.kept1 h hk (fun hn => ha (fun e => hn (by rw [e]; rfl)))
theorem Is.kept1 {S : Nat → Prop} {w w' : World} {v : Value} {l : List Int} (h : Is w v l) (hk : Kept S w w') (ha : l ≠ [] → ∀ k, inBlock v k → ¬ S k) : Is w' v l := Sl.kept1 h hk (fun hn => ha (fun e => hn (by rw [e]; rfl)))
end Cam
namespace Cam
open Go Go.RowKit Go.Proofs
def pickN (picks : List Int) (k : Nat) : Nat := match picks[k]? with | some p => (min (max (((p.tmod 66) + 66).tmod 66 - 1) 0) 64).toNat | none => 0
theorem pickN_le (picks : List Int) (k : Nat) : pickN picks k ≤ 64 := by
 unfold pickN
 split
 ·
  omega
 ·
  omega
def mixB (n : Nat) (old new : List UInt8) : List UInt8 := new.take n ++ old.drop n
theorem mixB_length {n : Nat} {old new : List UInt8} (h1 : old.length = 64) (h2 : new.length = 64) (hn : n ≤ 64) : (mixB n old new).length = 64 := by
 simp [mixB, h1, h2]
 omega
def crashTo (op : List (Nat × List UInt8)) (picks : List Int) (s : List (List UInt8)) : Nat → List (List UInt8)
 | 0 => s
 | j + 1 => match op[j]? with
  | some x => (crashTo op picks s j).set x.1 (mixB (pickN picks j) ((crashTo op picks s j).getD x.1 []) x.2)
  | none => crashTo op picks s j
def dCrash (D : DK) (picks : List Int) : DK := { syn := crashTo D.op picks D.syn D.op.length, now := crashTo D.op picks D.syn D.op.length, op := [], off := true, arm := 0, torn := false }
theorem flatW_drop {α : Type} {f : α → List Value} {W : Nat} : ∀ {L : List α} (_ : ∀ a ∈ L, (f a).length = W) {k : Nat} (hk : k < L.length), (flatW f L).drop (k * W) = f L[k] ++ (flatW f L).drop (k * W + W)
 | a :: L, h, 0, _ => by
  have h1 := h a (by simp)
  simp only [flatW, List.map_cons, List.flatten_cons, Nat.zero_mul, List.drop_zero, Nat.zero_add]
  show f a ++ _ = f a ++ _
  rw [List.drop_append_of_le_length (by omega), List.drop_of_length_le (by omega), List.nil_append]
 | a :: L, h, k + 1, hk => by
  have h1 := h a (by simp)
  have := flatW_drop (f := f) (W := W) (L := L) (fun b hb => h b (by simp [hb])) (k := k) (by simpa using hk)
  have hW : (k + 1) * W = k * W + W := Nat.succ_mul k W
  have e1 : flatW f (a :: L) = f a ++ flatW f L := by simp [flatW]
  have t1 : (f a ++ flatW f L).drop ((k + 1) * W) = (flatW f L).drop (k * W) := by
   rw [List.drop_append, List.drop_of_length_le (by omega), List.nil_append, h1, show (k + 1) * W - W = k * W by omega]
  have t2 : (f a ++ flatW f L).drop ((k + 1) * W + W) = (flatW f L).drop (k * W + W) := by
   rw [List.drop_append, List.drop_of_length_le (by omega), List.nil_append, h1, show (k + 1) * W + W - W = k * W + W by omega]
  rw [e1, t1, t2]
  exact this
theorem splice_part {L : List (List UInt8)} (hL : ∀ b ∈ L, b.length = 64) {k : Nat} (hk : k < L.length) (new : List UInt8) (hn : new.length = 64) (n : Nat) (hle : n ≤ 64) :
  splice (flatW bvs L) (k * 64) ((bvs new).take n) = flatW bvs (L.set k (mixB n L[k] new)) := by
 have hW : ∀ a ∈ L, (bvs a).length = 64 := fun a ha => by rw [bvs_length]; exact hL a ha
 have ho : (L[k]).length = 64 := hL _ (List.getElem_mem hk)
 rw [← flatW_set hW hk (mixB n L[k] new) (by rw [bvs_length]; exact mixB_length ho hn hle)]
 have e : bvs (mixB n L[k] new) = (bvs new).take n ++ (bvs L[k]).drop n := by simp [mixB, bvs, List.map_take, List.map_drop]
 have hl1 : ((bvs new).take n).length = n := by rw [List.length_take, bvs_length, hn]; omega
 have hl2 : ((bvs L[k]).drop n).length = 64 - n := by rw [List.length_drop, bvs_length, ho]
 unfold splice
 rw [e, List.length_append, hl1, hl2, List.append_assoc]
 congr 2
 have hd := flatW_drop hW hk
 rw [show k * 64 + (n + (64 - n)) = k * 64 + 64 by omega, ← List.drop_drop, hd, List.drop_append, bvs_length, ho, show n - 64 = 0 by omega, List.drop_zero]
theorem DM.mixSyn {w : World} {g gs gn : Nat} {vo : Value} {n : Nat} {D : DK} (h : DM w g gs gn vo n D) {k : Nat} (hk : k < n) {b : List UInt8} (hb : b.length = 64) {m : Nat} (hm : m ≤ 64) : DM (w.setCells gs (k * 64) ((bvs b).take m)) g gs gn vo n { D with syn := D.syn.set k (mixB m (D.syn.getD k []) b) } := by
 have hkk := setCells_kept gs ((bvs b).take m) (k * 64) w
 obtain ⟨l1, l2, l3⟩ := h.lt
 have ok := h.ok
 have hW : ∀ a ∈ D.syn, (bvs a).length = 64 := fun a ha => by rw [bvs_length]; exact ok.syn.2 a ha
 have hkn : k < D.syn.length := by rw [ok.syn.1]; exact hk
 have hge : D.syn.getD k [] = D.syn[k] := by simp [List.getD, List.getElem?_eq_getElem hkn]
 have hml := mixB_length (n := m) (ok.syn.2 _ (List.getElem_mem hkn)) hb hm
 rw [hge]
 refine ⟨h.hd.kept hkk (by omega), ?_, h.hn.kept hkk (by omega), ?_, h.lt, ⟨ok.n1, ⟨by simp [ok.syn.1], fun x hx => ?_⟩, ok.now, ok.op, ok.few, ok.arm⟩⟩
 ·
  have hr := Nat.mul_le_mul_right 64 hkn
  rw [Nat.succ_mul] at hr
  have := h.hs.puts (vs := (bvs b).take m) (o := k * 64) (by rw [flatW_length hW, List.length_take, bvs_length, hb]; omega)
  rw [splice_part ok.syn.2 hkn b hb m hm] at this
  exact this
 ·
  refine ⟨h.ho.1, ?_⟩
  rcases h.ho.2 with h2 | ⟨c, cap, cur, hv, hg, hh, r⟩
  ·
   exact Or.inl h2
  ·
   have hlt : g < c := (h.row c (by rw [hv]; rfl)).1
   exact Or.inr ⟨c, cap, cur, hv, hg, (hkk.block c (Array.getElem?_eq_some_iff.1 hh).1 (by omega)).trans hh, r⟩
 ·
  rcases List.mem_or_eq_of_mem_set hx with h1 | rfl
  ·
   exact ok.syn.2 x h1
  ·
   exact hml
theorem DM.copyNow {w : World} {g gs gn : Nat} {vo : Value} {n : Nat} {D : DK} (h : DM w g gs gn vo n D) : DM (w.setCells gn 0 (flatW bvs D.syn)) g gs gn vo n { D with now := D.syn } := by
 have hkk := setCells_kept gn (flatW bvs D.syn) 0 w
 obtain ⟨l1, l2, l3⟩ := h.lt
 have ok := h.ok
 have e1 := flatW_length (f := bvs) (W := 64) (L := D.syn) (fun a ha => by rw [bvs_length]; exact ok.syn.2 a ha)
 have e2 := flatW_length (f := bvs) (W := 64) (L := D.now) (fun a ha => by rw [bvs_length]; exact ok.now.2 a ha)
 rw [ok.syn.1] at e1
 rw [ok.now.1] at e2
 refine ⟨h.hd.kept hkk (by omega), h.hs.kept hkk (by omega), ?_, ?_, h.lt, ⟨ok.n1, ok.syn, ok.syn, ok.op, ok.few, ok.arm⟩⟩
 ·
  have := h.hn.puts (vs := flatW bvs D.syn) (o := 0) (by omega)
  rw [show splice (flatW bvs D.now) 0 (flatW bvs D.syn) = flatW bvs D.syn by unfold splice; rw [List.take_zero, List.nil_append, Nat.zero_add, List.drop_of_length_le (by omega), List.append_nil]] at this
  exact this
 ·
  refine ⟨h.ho.1, ?_⟩
  rcases h.ho.2 with h2 | ⟨c, cap, cur, hv, hg, hh, r⟩
  ·
   exact Or.inl h2
  ·
   have hlt : g < c := (h.row c (by rw [hv]; rfl)).1
   exact Or.inr ⟨c, cap, cur, hv, hg, (hkk.block c (Array.getElem?_eq_some_iff.1 hh).1 (by omega)).trans hh, r⟩
theorem flat_one {L : List (List UInt8)} : ∀ v ∈ flatW bvs L, v.oneCell' = true := by
 intro v hv
 simp only [flatW, List.mem_flatten, List.mem_map] at hv
 obtain ⟨l, ⟨b, _, rfl⟩, hv⟩ := hv
 exact bs_oneCell b v hv
theorem run_copy_wide {P : Program} (w : World) (dT sT ty elem : TypeId) (b o dLen dCap : Nat) (a : Addr) (sLen sCap W : Nat) (cs : List Value)
  (hu : P.underlying dT = some (.slice elem)) (hs : (P.info? elem).map (·.size) = some W) (hn : cs.length = Nat.min sLen dLen * W)
  (hsrc : ∀ j v, cs[j]? = some v → w.cell? (a.add j) = some v) (hc : ∀ j, j < cs.length → (w.cell? ⟨b, o + j, none⟩).isSome = true) (hf : ∀ j, j < cs.length → w.frozen? ⟨b, o + j, none⟩ = false) (h1 : ∀ v ∈ cs, v.oneCell' = true) :
  (Builtin.copy_ #[dT, sT] ty #[.slice (some ⟨b, o, none⟩) dLen dCap, .slice (some a) sLen sCap]).run P w = .ok (goInt (Nat.min sLen dLen)) (w.setCells b o cs) := by
 have hl := run_loadCells_list (P := P) w a cs hsrc
 have hst := run_storeCells_cells (P := P) b o cs 0 w (by simpa using hc) (by simpa using hf) h1
 cases hq : P.info? elem with
 | none => simp [hq] at hs
 | some i =>
  have hi : i.size = W := by simpa [hq] using hs
  simp [Builtin.copy_, run_underlying hu, Builtin.lenOf, Builtin.firstCells, Go.sizeOf, typeInfo, hq, hi, ← hn, hl, hst]
theorem step_copy_wide {P : Program} {ops : Array Oper} {o : Oper} {a : Act} {w : World} {K : Act → World → Prop} {Q : Exit → Act → World → Prop} {E : Prop} (hgd : o.guard = none) (d s : Operand) (dT sT : TypeId)
  (ho : o.op = .call { callee := .builtin .copy, args := #[d, s], argTypes := #[dT, sT] }) (elem : TypeId) (W : Nat) (hu : P.underlying dT = some (.slice elem)) (hs : (P.info? elem).map (·.size) = some W)
  (b p dLen dCap : Nat) (ad : Addr) (sLen sCap : Nat) (hd : a.eval d = .slice (some ⟨b, p, none⟩) dLen dCap) (hx : a.eval s = .slice (some ad) sLen sCap) (cs : List Value) (hn : cs.length = Nat.min sLen dLen * W)
  (hsrc : ∀ j v, cs[j]? = some v → w.cell? (ad.add j) = some v) (hth : w.there b p cs.length) (h1 : ∀ v ∈ cs, v.oneCell' = true)
  (h : K (a.put o.dst (goInt (Nat.min sLen dLen))) (w.setCells b p cs)) : if Region.wanted o (yielded ops a.tmps) = true then Oper.wp P o a w K Q else E := by
 rw [if_pos (by simp [Region.wanted, hgd])]
 have hrun := run_copy_wide (P := P) w dT sT o.type elem b p dLen dCap ad sLen sCap W cs hu hs hn hsrc (fun j hj => (hth j hj).1) (fun j hj => (hth j hj).2) h1
 unfold Oper.wp
 simp [execOp, ho, resolve, invoke, builtin, hd, hx, hrun, Result.andThen]
 exact h
end Cam
