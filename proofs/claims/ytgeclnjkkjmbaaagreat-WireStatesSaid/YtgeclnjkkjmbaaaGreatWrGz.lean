import Derived.Test.YtgeclnjkkjmbaaaGreatVb
import Derived.Test.YtgeclnjkkjmbaaaGreatWrOz
import Derived.Laws.Rows
import Derived.Laws.Tables
/- Several small texts in one: WrF, WrG. No condition. -/
namespace Cam
open Go Go.RowKit Go.Proofs
set_option linter.unusedVariables false
set_option linter.unusedSimpArgs false
set_option maxRecDepth 100000
set_option maxHeartbeats 1600000
def rIs : Nat → RS → List Int × RS
 | 0, s => ([], s)
 | k + 1, s => ((rIs k s).1 ++ [(rI (rIs k s).2).1], (rI (rIs k s).2).2)
theorem rIs_len (k : Nat) (s : RS) : (rIs k s).1.length = k := by
 induction k with
 | zero => rfl
 | succ k ih => simp [rIs, ih]
theorem rIs_add (m n : Nat) (s : RS) : rIs (m + n) s = ((rIs m s).1 ++ (rIs n (rIs m s).2).1, (rIs n (rIs m s).2).2) := by
 induction n with
 | zero => simp [rIs]
 | succ n ih =>
  rw [← Nat.add_assoc]
  simp only [rIs, ih, List.append_assoc]
theorem rI_len (s : RS) : (rI s).2.1.length ≤ s.1.length := by
 unfold rI
 split
 ·
  exact Nat.le_refl _
 ·
  split
  ·
   simp
  ·
   exact Nat.le_refl _
theorem rIs_left (k : Nat) (s : RS) : (rIs k s).2.1.length ≤ s.1.length := by
 induction k with
 | zero => exact Nat.le_refl _
 | succ k ih => exact Nat.le_trans (rI_len _) ih
abbrev ivs (l : List Int) : List Value := l.map (Value.int .i64)
theorem splice_snoc {C : List Value} {o : Nat} {xs : List Value} (v : Value) (h : o + xs.length < C.length) : (splice C o xs).set (o + xs.length) v = splice C o (xs ++ [v]) := by
 unfold splice
 apply List.ext_getElem?
 intro i
 simp only [List.getElem?_append, List.getElem?_take, List.getElem?_drop, List.getElem?_set, List.length_take, List.length_append, List.length_cons, List.length_nil, List.length_drop, List.getElem?_cons]
 grind
theorem into_any (w : World) (gr gp gc gs : Nat) (s : RS) (o m : Nat) (C : List Value) (t : TypeId) (hr : w.cell? ⟨gr, 0, none⟩ = some (.pointer (some ⟨gp, 0, none⟩))) (hd : RD w gp s) (hc : HT w gc t C)
  (hs : ∀ i, i < m → w.cell? ⟨gs, i, none⟩ = some (.pointer (some ⟨gc, o + i, none⟩))) (hom : o + m ≤ C.length) (hpc : gp < gc) (hrp : gr ≠ gp) (hrc : gr ≠ gc) (hsp : gs ≠ gp) (hsc : gs ≠ gc) (hm : m ≤ 1000) (hlen : s.1.length ≤ 70368744177664) :
  Calls Tryz.prog 73 #[.pointer (some ⟨gr, 0, none⟩), .slice (some ⟨gs, 0, none⟩) m m] w fun e w' => e = .returned (.tuple #[]) ∧ RD w' gp (rIs m s).2 ∧ HT w' gc t (splice C o (ivs (rIs m s).1)) ∧ Kept (fun k => k = gp ∨ k = gc) w w' := by
 have HR := Lh hr
 have HS := Lh hs
 have HD := Lh hd
 have HC := Lh hc
 have HNE := Lh (⟨hpc, hrp, hrc, hsp, hsc⟩ : _ ∧ _ ∧ _ ∧ _ ∧ _)
 clear hr hs hd hc hrp hrc hsp hsc
 go_in
 go_wp2_with fail
 go_loopw [8] (fun i wr => ∃ k : Nat, k ≤ m ∧ i = .int .i64 k ∧ RD wr gp (rIs k s).2 ∧ HT wr gc t (splice C o (ivs (rIs k s).1)) ∧ Kept (fun k => k = gp ∨ k = gc) w wr) (fun i _ => m - (intOf i).toNat)
 case atStart => exact ⟨0, Nat.zero_le _, rfl, HD.out, by simpa [rIs, splice] using HC.out, Kept.refl _ _⟩
 case round =>
  obtain ⟨k, hk, rfl, hd, hc, hkp⟩ := hrel
  by_cases hlt : k < m
  ·
   have hp := HS.out k hlt
   have hp1 := hkp.cell hp (fun e => e.elim (fun e => HNE.out.2.2.2.1 e) (fun e => HNE.out.2.2.2.2 e))
   have hr1 := hkp.cell HR.out (fun e => e.elim (fun e => HNE.out.2.1 e) (fun e => HNE.out.2.2.1 e))
   have ri := RInt_any wr gp (rIs k s).2 hd (Nat.le_trans (rIs_left k s) hlen)
   have HC1 := Lh hc
   have HK1 := Lh hkp
   obtain ⟨n, hn⟩ : ∃ n, n = (rI (rIs k s).2).1 := ⟨_, rfl⟩
   rw [← hn] at ri
   have HN := Lh hn
   clear hn hd hc hkp hp
   go_wp2_with fail
   refine ri.mono ?_
   clear ri
   rintro e w1 ⟨rfl, hd1, hk1⟩
   have hc1 := HC1.out.keptH hk1 (fun e => by have := HNE.out.1; omega)
   have hkk := HK1.out.trans hk1 (T := fun k => k = gp) (fun _ _ h => .inl h)
   have hlen1 : (splice C o (ivs (rIs k s).1)).length = C.length := splice_length (by rw [List.length_map, rIs_len]; omega)
   have hcell := hc1.cell (j := o + k) (List.getElem?_eq_getElem (by omega))
   have hfr := hc1.frozen (o + k)
   have hput := hc1.put (o + k) (.int .i64 n)
   have hk2 : Kept (fun k => k = gc) w1 (w1.setCell ⟨gc, o + k, none⟩ (.int .i64 n)) := (Kept.refl _ w1).setCell _ _ rfl
   have hd2 := hd1.kept hk2 (fun j hj e => by have := HNE.out.1; omega)
   have he : (splice C o (ivs (rIs k s).1)).set (o + k) (.int .i64 n) = splice C o (ivs (rIs (k + 1) s).1) := by
    have h1 := splice_snoc (C := C) (o := o) (xs := ivs (rIs k s).1) (.int .i64 n) (by rw [List.length_map, rIs_len]; omega)
    rw [List.length_map, rIs_len] at h1
    rw [h1, HN.out]
    simp [rIs, ivs]
   rw [he] at hput
   have HPUT := Lh hput
   have HD2 := Lh hd2
   have HKK := Lh (hkk.trans hk2 (fun _ _ h => .inr h))
   generalize (splice C o (ivs (rIs k s).1))[o + k]'(by omega) = q at hcell
   clear hput hd2 hkk hk2 he hd1 hk1 hc1 hlen1
   go_wp2_with fail
   exact ⟨⟨k + 1, by omega, by push_cast; rfl, HD2.out, HPUT.out, HKK.out⟩, by simp [intOf]; omega⟩
  ·
   obtain rfl : k = m := by omega
   have HD1 := Lh hd
   have HC1 := Lh hc
   have HK1 := Lh hkp
   clear hd hc hkp
   go_wp2_with fail
   go_end0
   exact ⟨rfl, HD1.out, HC1.out, HK1.out⟩
theorem table_any (w : World) (gr gp gc : Nat) (s : RS) (o m : Nat) (C : List Value) (t : TypeId) (hr : w.cell? ⟨gr, 0, none⟩ = some (.pointer (some ⟨gp, 0, none⟩))) (hd : RD w gp s) (hc : HT w gc t C)
  (hom : o + m ≤ C.length) (hpc : gp < gc) (hrp : gr ≠ gp) (hrc : gr ≠ gc) (hm : m ≤ 1000) (hlen : s.1.length ≤ 70368744177664) :
  Calls Tryz.prog 106 #[.pointer (some ⟨gr, 0, none⟩), .slice (some ⟨gc, o, none⟩) m m] w fun e w' => e = .returned (.tuple #[]) ∧ RD w' gp (rIs m s).2 ∧ HT w' gc t (splice C o (ivs (rIs m s).1)) ∧ Kept (fun k => k = gp ∨ k = gc) w w' := by
 have HR := Lh hr
 have HD := Lh hd
 have HC := Lh hc
 have HNE := Lh (⟨hpc, hrp, hrc⟩ : _ ∧ _ ∧ _)
 clear hr hd hc hrp hrc
 go_in
 go_wp2_with fail
 go_loopw [7] (fun i wr => ∃ k : Nat, k ≤ m ∧ i = .int .i64 k ∧ RD wr gp (rIs k s).2 ∧ HT wr gc t (splice C o (ivs (rIs k s).1)) ∧ Kept (fun k => k = gp ∨ k = gc) w wr) (fun i _ => m - (intOf i).toNat)
 case atStart => exact ⟨0, Nat.zero_le _, rfl, HD.out, by simpa [rIs, splice] using HC.out, Kept.refl _ _⟩
 case round =>
  obtain ⟨k, hk, rfl, hd, hc, hkp⟩ := hrel
  by_cases hlt : k < m
  ·
   have hr1 := hkp.cell HR.out (fun e => e.elim (fun e => HNE.out.2.1 e) (fun e => HNE.out.2.2 e))
   have ri := RInt_any wr gp (rIs k s).2 hd (Nat.le_trans (rIs_left k s) hlen)
   have HC1 := Lh hc
   have HK1 := Lh hkp
   obtain ⟨n, hn⟩ : ∃ n, n = (rI (rIs k s).2).1 := ⟨_, rfl⟩
   rw [← hn] at ri
   have HN := Lh hn
   clear hn hd hc hkp
   go_wp2_with fail
   refine ri.mono ?_
   clear ri
   rintro e w1 ⟨rfl, hd1, hk1⟩
   have hc1 := HC1.out.keptH hk1 (fun e => by have := HNE.out.1; omega)
   have hkk := HK1.out.trans hk1 (T := fun k => k = gp) (fun _ _ h => .inl h)
   have hlen1 : (splice C o (ivs (rIs k s).1)).length = C.length := splice_length (by rw [List.length_map, rIs_len]; omega)
   have hcell := hc1.cell (j := o + k) (List.getElem?_eq_getElem (by omega))
   have hfr := hc1.frozen (o + k)
   have hput := hc1.put (o + k) (.int .i64 n)
   have hk2 : Kept (fun k => k = gc) w1 (w1.setCell ⟨gc, o + k, none⟩ (.int .i64 n)) := (Kept.refl _ w1).setCell _ _ rfl
   have hd2 := hd1.kept hk2 (fun j hj e => by have := HNE.out.1; omega)
   have he : (splice C o (ivs (rIs k s).1)).set (o + k) (.int .i64 n) = splice C o (ivs (rIs (k + 1) s).1) := by
    have h1 := splice_snoc (C := C) (o := o) (xs := ivs (rIs k s).1) (.int .i64 n) (by rw [List.length_map, rIs_len]; omega)
    rw [List.length_map, rIs_len] at h1
    rw [h1, HN.out]
    simp [rIs, ivs]
   rw [he] at hput
   have HPUT := Lh hput
   have HD2 := Lh hd2
   have HKK := Lh (hkk.trans hk2 (fun _ _ h => .inr h))
   generalize (splice C o (ivs (rIs k s).1))[o + k]'(by omega) = q at hcell
   clear hput hd2 hkk hk2 he hd1 hk1 hc1 hlen1
   go_wp2_with fail
   exact ⟨⟨k + 1, by omega, by push_cast; rfl, HD2.out, HPUT.out, HKK.out⟩, by simp [intOf]; omega⟩
  ·
   obtain rfl : k = m := by omega
   have HD1 := Lh hd
   have HC1 := Lh hc
   have HK1 := Lh hkp
   clear hd hc hkp
   go_wp2_with fail
   go_end0
   exact ⟨rfl, HD1.out, HC1.out, HK1.out⟩
theorem splice_all {C cs : List Value} (h : cs.length = C.length) : splice C 0 cs = cs := by
 unfold splice
 rw [List.take_zero, List.nil_append, Nat.zero_add, List.drop_of_length_le (by omega), List.append_nil]
end Cam
namespace Cam
open Go Go.RowKit Go.Proofs
set_option linter.unusedVariables false
set_option linter.unusedSimpArgs false
set_option maxRecDepth 100000
set_option maxHeartbeats 3200000
def WR (w : World) (gr gp : Nat) (s : RS) (wr : Bool) : Prop := w.heap[gr]? = some (.cells #[.pointer (some ⟨gp, 0, none⟩), .bool wr] 163 (0, 0)) ∧ RD w gp s ∧ gp < gr
theorem WR.cell {w : World} {gr gp : Nat} {s : RS} {wr : Bool} (h : WR w gr gp s wr) : w.cell? ⟨gr, 0, none⟩ = some (.pointer (some ⟨gp, 0, none⟩)) ∧ w.cell? ⟨gr, 1, none⟩ = some (.bool wr) ∧ w.frozen? ⟨gr, 1, none⟩ = false := by
 unfold World.cell? World.frozen?
 rw [h.1]
 exact ⟨rfl, rfl, rfl⟩
theorem WR.lt {w : World} {gr gp : Nat} {s : RS} {wr : Bool} (h : WR w gr gp s wr) : gr < w.heap.size := (Array.getElem?_eq_some_iff.1 h.1).1
theorem WR.below {w w' : World} {gr gp : Nat} {s : RS} {wr : Bool} (h : WR w gr gp s wr) (hb : Below w.heap.size w w') : WR w' gr gp s wr := ⟨(hb.block gr h.lt).trans h.1, h.2.1.below hb, h.2.2⟩
theorem WR.go {S : Nat → Prop} {w w' : World} {gr gp : Nat} {s s' : RS} {wr : Bool} (h : WR w gr gp s wr) (hd : RD w' gp s') (hk : Kept S w w') (hS : ¬ S gr) : WR w' gr gp s' wr := ⟨(hk.block gr h.lt hS).trans h.1, hd, h.2.2⟩
def ReadPost (w : World) (l : List UInt8) (e : Ending) (w' : World) : Prop :=
 (65536 < l.length ∧ e = .returned (.tuple #[.pointer none, .int .i64 6]) ∧ Below w.heap.size w w') ∨ (¬ 65536 < l.length ∧ ∃ gr gp, e = .returned (.tuple #[.pointer (some ⟨gr, 0, none⟩), (0:Int)]) ∧ WR w' gr gp (l, 0) false ∧ w.heap.size ≤ gp ∧ Below w.heap.size w w')
theorem read_any (w : World) (v : Value) (l : List UInt8) (h : Bs w v l) (hlen : l.length ≤ 70368744177664) : Calls Tryz.prog 31 #[v] w (ReadPost w l) := by
 obtain ⟨a, c, rfl, hc, hm⟩ := h.shape
 have nr := NewReader_any w _ l h hlen
 obtain ⟨n, hn⟩ : ∃ n, n = l.length := ⟨_, rfl⟩
 rw [← hn] at nr hc ⊢
 have HN := Lh hn
 clear hn h
 by_cases hl : 65536 < n
 ·
  go_in
  go_wp2_with fail
  go_ret2
  exact Or.inl ⟨by have := HN.out; omega, rfl, Below.refl _ _⟩
 ·
  go_in
  go_wp2_with fail
  refine nr.mono ?_
  clear nr
  rintro e w1 ⟨gp, rfl, hge, hrd, hb⟩
  have HRD := Lh hrd
  have HB := Lh hb
  have HGE := Lh hge
  clear hrd hb hge
  go_wp2_with fail
  go_ret2
  exact Or.inr ⟨by have := HN.out; omega, w1.heap.size, gp, rfl, ⟨heap_alloc_new w1 _, HRD.out.alloc _, HRD.out.lt⟩, HGE.out, HB.out.alloc HB.out.size _⟩
def dE (wr : Bool) (s : RS) : Int := if wr = true ∨ rD s ≠ 0 then 6 else 0
theorem done_any (w : World) (gr gp : Nat) (s : RS) (wr : Bool) (h : WR w gr gp s wr) : Calls Tryz.prog 33 #[.pointer (some ⟨gr, 0, none⟩)] w fun e w' => e = .returned (.int .i64 (dE wr s)) ∧ w = w' := by
 obtain ⟨h0, h1, _⟩ := h.cell
 have dn := Done_any w gp s h.2.1
 clear h
 cases wr with
 | true =>
  have H := Lh (show dE true s = 6 by unfold dE; simp)
  go_in
  go_wp2_with fail
  go_ret
  exact ⟨by rw [H.out]; rfl, rfl⟩
 | false =>
  obtain ⟨d, hd⟩ : ∃ d, d = rD s := ⟨_, rfl⟩
  rw [← hd] at dn
  by_cases hz : d = 0
  ·
   have H := Lh (show dE false s = 0 by unfold dE; rw [← hd]; simp [hz])
   subst hz
   clear hd
   go_in
   go_wp2_with fail
   refine dn.mono ?_
   rintro e w1 ⟨rfl, rfl⟩
   go_wp2_with fail
   go_ret
   exact ⟨by rw [H.out]; rfl, rfl⟩
  ·
   have H := Lh (show dE false s = 6 by unfold dE; rw [← hd]; simp [hz])
   have hz' : (d != 0) = true := by rw [bne_iff_ne]; exact hz
   clear hd hz
   go_in
   go_wp2_with fail
   refine dn.mono ?_
   rintro e w1 ⟨rfl, rfl⟩
   go_wp2_with fail
   go_ret
   exact ⟨by rw [H.out]; rfl, rfl⟩
theorem cmdSize : (Tryz.prog.info? 59).map (·.size) = some 17 := by kernel_rfl
theorem ivs_one (l : List Int) : (ivs l).toArray.all (·.oneCell') = true := by
 simp [ivs, Value.oneCell']
theorem two_splice {a b : List Int} {C : List Value} (ha : a.length = 11) (hb : b.length = 6) (hC : C.length = 17) : splice (splice C 0 (ivs a)) 11 (ivs b) = ivs (a ++ b) := by
 unfold splice ivs
 rw [List.take_zero, List.nil_append, Nat.zero_add, List.length_map, List.length_map, ha, hb, List.map_append]
 rw [List.take_append_of_le_length (by simp [ha]), List.take_of_length_le (by simp [ha]), List.drop_append, List.drop_of_length_le (by simp [ha]), List.drop_drop, List.drop_of_length_le (by simp [ha, hC])]
 simp
def CmdPost (w : World) (gr gp : Nat) (s : RS) (wr : Bool) (e : Ending) (w' : World) : Prop := e = .returned (.agg (ivs (rIs 17 s).1).toArray) ∧ WR w' gr gp (rIs 17 s).2 wr ∧ Kept (fun k => k = gp) w w'
theorem rdcmd_any (w : World) (gr gp : Nat) (s : RS) (wr : Bool) (h : WR w gr gp s wr) (hlen : s.1.length ≤ 70368744177664) : Calls Tryz.prog 49 #[.pointer (some ⟨gr, 0, none⟩)] w (CmdPost w gr gp s wr) := by
 have hlt := h.lt
 have hpr := h.2.2
 have hb1 : Below w.heap.size w (w.alloc (.cells #[(0:Int), (0:Int), (0:Int), (0:Int), (0:Int), (0:Int), (0:Int), (0:Int), (0:Int), (0:Int), (0:Int), (0:Int), (0:Int), (0:Int), (0:Int), (0:Int), (0:Int)] 59)) := Bn
 have hc : HT (w.alloc (.cells #[(0:Int), (0:Int), (0:Int), (0:Int), (0:Int), (0:Int), (0:Int), (0:Int), (0:Int), (0:Int), (0:Int), (0:Int), (0:Int), (0:Int), (0:Int), (0:Int), (0:Int)] 59)) w.heap.size 59 (ivs (List.replicate 17 0)) := HT.new (w := w)
 have hb2 : Below w.heap.size w ((w.alloc (.cells #[(0:Int), (0:Int), (0:Int), (0:Int), (0:Int), (0:Int), (0:Int), (0:Int), (0:Int), (0:Int), (0:Int), (0:Int), (0:Int), (0:Int), (0:Int), (0:Int), (0:Int)] 59)).alloc (.cells #[.pointer (some ⟨w.heap.size, 0, none⟩), .pointer (some ⟨w.heap.size, 1, none⟩), .pointer (some ⟨w.heap.size, 2, none⟩), .pointer (some ⟨w.heap.size, 3, none⟩), .pointer (some ⟨w.heap.size, 4, none⟩), .pointer (some ⟨w.heap.size, 5, none⟩), .pointer (some ⟨w.heap.size, 6, none⟩), .pointer (some ⟨w.heap.size, 7, none⟩), .pointer (some ⟨w.heap.size, 8, none⟩), .pointer (some ⟨w.heap.size, 9, none⟩), .pointer (some ⟨w.heap.size, 10, none⟩)] 165)) := hb1.alloc hb1.size _
 have hc2 := hc.below ((Below.refl _ _).alloc (Nat.le_refl _) (.cells #[.pointer (some ⟨w.heap.size, 0, none⟩), .pointer (some ⟨w.heap.size, 1, none⟩), .pointer (some ⟨w.heap.size, 2, none⟩), .pointer (some ⟨w.heap.size, 3, none⟩), .pointer (some ⟨w.heap.size, 4, none⟩), .pointer (some ⟨w.heap.size, 5, none⟩), .pointer (some ⟨w.heap.size, 6, none⟩), .pointer (some ⟨w.heap.size, 7, none⟩), .pointer (some ⟨w.heap.size, 8, none⟩), .pointer (some ⟨w.heap.size, 9, none⟩), .pointer (some ⟨w.heap.size, 10, none⟩)] 165))
 have hs : ∀ i, i < 11 → ((w.alloc (.cells #[(0:Int), (0:Int), (0:Int), (0:Int), (0:Int), (0:Int), (0:Int), (0:Int), (0:Int), (0:Int), (0:Int), (0:Int), (0:Int), (0:Int), (0:Int), (0:Int), (0:Int)] 59)).alloc (.cells #[.pointer (some ⟨w.heap.size, 0, none⟩), .pointer (some ⟨w.heap.size, 1, none⟩), .pointer (some ⟨w.heap.size, 2, none⟩), .pointer (some ⟨w.heap.size, 3, none⟩), .pointer (some ⟨w.heap.size, 4, none⟩), .pointer (some ⟨w.heap.size, 5, none⟩), .pointer (some ⟨w.heap.size, 6, none⟩), .pointer (some ⟨w.heap.size, 7, none⟩), .pointer (some ⟨w.heap.size, 8, none⟩), .pointer (some ⟨w.heap.size, 9, none⟩), .pointer (some ⟨w.heap.size, 10, none⟩)] 165)).cell? ⟨w.heap.size + 1, i, none⟩ = some (.pointer (some ⟨w.heap.size, 0 + i, none⟩)) := by
  intro i hi
  have hh : ((w.alloc (.cells #[(0:Int), (0:Int), (0:Int), (0:Int), (0:Int), (0:Int), (0:Int), (0:Int), (0:Int), (0:Int), (0:Int), (0:Int), (0:Int), (0:Int), (0:Int), (0:Int), (0:Int)] 59)).alloc (.cells #[.pointer (some ⟨w.heap.size, 0, none⟩), .pointer (some ⟨w.heap.size, 1, none⟩), .pointer (some ⟨w.heap.size, 2, none⟩), .pointer (some ⟨w.heap.size, 3, none⟩), .pointer (some ⟨w.heap.size, 4, none⟩), .pointer (some ⟨w.heap.size, 5, none⟩), .pointer (some ⟨w.heap.size, 6, none⟩), .pointer (some ⟨w.heap.size, 7, none⟩), .pointer (some ⟨w.heap.size, 8, none⟩), .pointer (some ⟨w.heap.size, 9, none⟩), .pointer (some ⟨w.heap.size, 10, none⟩)] 165)).heap[w.heap.size + 1]? = some (.cells #[.pointer (some ⟨w.heap.size, 0, none⟩), .pointer (some ⟨w.heap.size, 1, none⟩), .pointer (some ⟨w.heap.size, 2, none⟩), .pointer (some ⟨w.heap.size, 3, none⟩), .pointer (some ⟨w.heap.size, 4, none⟩), .pointer (some ⟨w.heap.size, 5, none⟩), .pointer (some ⟨w.heap.size, 6, none⟩), .pointer (some ⟨w.heap.size, 7, none⟩), .pointer (some ⟨w.heap.size, 8, none⟩), .pointer (some ⟨w.heap.size, 9, none⟩), .pointer (some ⟨w.heap.size, 10, none⟩)] 165) := heap_new (by simp)
  unfold World.cell?
  rw [hh]
  rcases i with _ | _ | _ | _ | _ | _ | _ | _ | _ | _ | _ | i
  all_goals first | rfl | omega
 have h2 := h.below hb2
 have it := into_any _ gr gp w.heap.size (w.heap.size + 1) s 0 11 _ _ h2.cell.1 h2.2.1 hc2 hs (by simp [ivs]) (by omega) (by omega) (by omega) (by omega) (by omega) (by omega) hlen
 have H := Lh h2
 have HB2 := Lh hb2
 have HH := Lh (⟨hlt, hpr⟩ : _ ∧ _)
 have HLEN := Lh hlen
 clear hlt hpr hb1 hc hb2 hc2 hs h h2 hlen
 go_in
 go_wp2_with fail
 refine it.mono ?_
 clear it
 rintro e w2 ⟨rfl, hd2, hc2, hk2⟩
 have hw2 := H.out.go hd2 hk2 (fun e => by have := HH.out; omega)
 have tb := table_any _ gr gp w.heap.size (rIs 11 s).2 11 6 _ _ hw2.cell.1 hw2.2.1 hc2 (by rw [splice_length (by simp [ivs, rIs_len])]; simp [ivs]) (by have := HH.out; omega) (by have := HH.out; omega) (by have := HH.out; omega) (by omega) (Nat.le_trans (rIs_left _ _) HLEN.out)
 have HW2 := Lh hw2
 have HK2 := Lh hk2
 clear hd2 hc2 hk2 hw2
 go_wp2_with fail
 refine tb.mono ?_
 clear tb
 rintro e w3 ⟨rfl, hd3, hc3, hk3⟩
 have hw3 := HW2.out.go hd3 hk3 (fun e => by have := HH.out; omega)
 rw [two_splice (rIs_len _ _) (rIs_len _ _) (by simp [ivs])] at hc3
 have hadd := rIs_add 11 6 s
 have e1 : (rIs 11 s).1 ++ (rIs 6 (rIs 11 s).2).1 = (rIs 17 s).1 := by rw [show (17 : Nat) = 11 + 6 from rfl, hadd]
 have e2 : (rIs 6 (rIs 11 s).2).2 = (rIs 17 s).2 := by rw [show (17 : Nat) = 11 + 6 from rfl, hadd]
 rw [e1] at hc3
 rw [e2] at hw3
 have hl17 := rIs_len 17 s
 obtain ⟨L, hL⟩ : ∃ L, L = (rIs 17 s).1 := ⟨_, rfl⟩
 rw [← hL] at hc3 hl17
 have HG : Hid (w3.heap[w.heap.size]? = some (.cells (ivs L).toArray 59 (0, 0))) := hc3
 have hsz : (Tryz.prog.info? 59).map (·.size) = some (ivs L).toArray.size := by rw [cmdSize]; simp [ivs, hl17]
 have HSZ := Lh hsz
 have HW3 := Lh hw3
 have HK3 := Lh hk3
 have HL := Lh hL
 clear hd3 hc3 hk3 hw3 hadd e1 e2 hl17 hL hsz
 go_wp2_with (first
  | (refine wpList_load_row rfl 59 (.tmp 2) rfl w.heap.size rfl 59 (ivs L).toArray (0, 0) _ HG.out Tryz.underlying59 rfl HSZ.out ?_)
  | (refine wpList_store_row rfl 59 (.tmp 2) (.tmp 21) rfl w.heap.size (ivs L).toArray rfl rfl 59 (ivs L).toArray HG.out HSZ.out rfl (ivs_one L) ?_)
  | fail)
 refine bodyPost_ret (results_cell_row rfl _ _ w.heap.size 59 (ivs L).toArray (0, 0) _ rfl (setRow_heap _ _ _ _ _ _ HG.out) Tryz.underlying59 rfl HSZ.out) rfl ?_
 have hkr : Kept (fun k => k = w.heap.size) w3 (w3.setRow w.heap.size (ivs L).toArray) := ⟨rfl, rfl, rfl, by simp [World.setRow], fun k _ hn => setRow_other _ _ _ _ hn⟩
 refine ⟨by rw [HL.out], HW3.out.go (HW3.out.2.1.kept hkr (fun k hk e => by have := HH.out; omega)) hkr (fun e => by have := HH.out; omega), ?_⟩
 have k1 := ((Kept.of_below HB2.out).weaken (T := fun k => k = gp) (fun _ h => h.elim)).trans HK2.out (fun i hi e => by rcases e with e | e; exact e; omega)
 have k2 := k1.trans HK3.out (fun i hi e => by rcases e with e | e; exact e; omega)
 exact k2.trans hkr (fun i hi e => by omega)
end Cam
