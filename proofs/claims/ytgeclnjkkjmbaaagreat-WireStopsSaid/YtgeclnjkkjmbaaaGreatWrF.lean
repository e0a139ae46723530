import Derived.Test.YtgeclnjkkjmbaaaGreatVb
import Derived.Test.YtgeclnjkkjmbaaaGreatWrC
/- wire.reader: into, table. -/
namespace Cam
open Go Go.RowKit Go.Proofs

/-- numbers, one behind the other -/
def rIs : Nat → RS → List Int × RS
  | 0, s => ([], s)
  | k + 1, s => ((rIs k s).1 ++ [(rI (rIs k s).2).1], (rI (rIs k s).2).2)
theorem rIs_len (k : Nat) (s : RS) : (rIs k s).1.length = k := by
  induction k with
  | zero => rfl
  | succ k ih => simp [rIs, ih]
theorem rIs_add (m n : Nat) (s : RS) : rIs (m + n) s = ((rIs m s).1 ++ (rIs n (rIs m s).2).1, (rIs n (rIs m s).2).2) := by
  induction n with
  | zero => simp [rIs]
  | succ n ih =>
    rw [← Nat.add_assoc]
    simp only [rIs, ih, List.append_assoc]
theorem rI_len (s : RS) : (rI s).2.1.length ≤ s.1.length := by
  unfold rI
  split
  · exact Nat.le_refl _
  · split
    · simp
    · exact Nat.le_refl _
theorem rIs_left (k : Nat) (s : RS) : (rIs k s).2.1.length ≤ s.1.length := by
  induction k with
  | zero => exact Nat.le_refl _
  | succ k ih => exact Nat.le_trans (rI_len _) ih
theorem rIs_range (k : Nat) (s : RS) : ∀ n ∈ (rIs k s).1, -9223372036854775808 ≤ n ∧ n ≤ 9223372036854775807 := by
  induction k with
  | zero => intro n hn; cases hn
  | succ k ih =>
    intro n hn
    rcases List.mem_append.1 hn with h | h
    · exact ih n h
    · simp at h
      rw [h]
      exact rI_range _
abbrev ivs (l : List Int) : List Value := l.map (Value.int .i64)
theorem splice_snoc {C : List Value} {o : Nat} {xs : List Value} (v : Value) (h : o + xs.length < C.length) : (splice C o xs).set (o + xs.length) v = splice C o (xs ++ [v]) := by
  unfold splice
  apply List.ext_getElem?
  intro i
  simp only [List.getElem?_append, List.getElem?_take, List.getElem?_drop, List.getElem?_set, List.length_take, List.length_append, List.length_cons, List.length_nil, List.length_drop, List.getElem?_cons]
  grind

set_option maxRecDepth 100000 in
set_option maxHeartbeats 1600000 in
theorem into_any (w : World) (gr gp gc gs : Nat) (s : RS) (o m : Nat) (C : List Value) (t : TypeId) (hr : w.cell? ⟨gr, 0, none⟩ = some (.pointer (some ⟨gp, 0, none⟩))) (hd : RD w gp s) (hc : HT w gc t C)
    (hs : ∀ i, i < m → w.cell? ⟨gs, i, none⟩ = some (.pointer (some ⟨gc, o + i, none⟩))) (hom : o + m ≤ C.length) (hpc : gp < gc) (hrp : gr ≠ gp) (hrc : gr ≠ gc) (hsp : gs ≠ gp) (hsc : gs ≠ gc) (hm : m ≤ 1000) (hlen : s.1.length ≤ 70368744177664) :
    Calls Tryz.prog 73 #[.pointer (some ⟨gr, 0, none⟩), .slice (some ⟨gs, 0, none⟩) m m] w fun e w' => e = .returned (.tuple #[]) ∧ RD w' gp (rIs m s).2 ∧ HT w' gc t (splice C o (ivs (rIs m s).1)) ∧ Kept (fun k => k = gp ∨ k = gc) w w' := by
  have HR := Lib.hid hr
  have HS := Lib.hid hs
  have HD := Lib.hid hd
  have HC := Lib.hid hc
  have HNE := Lib.hid (⟨hpc, hrp, hrc, hsp, hsc⟩ : _ ∧ _ ∧ _ ∧ _ ∧ _)
  clear hr hs hd hc hrp hrc hsp hsc
  go_enter Tryz.func73, Tryz.ntmps73
  go_wp2_with fail
  go_loopw [8] (fun i wr => ∃ k : Nat, k ≤ m ∧ i = .int .i64 k ∧ RD wr gp (rIs k s).2 ∧ HT wr gc t (splice C o (ivs (rIs k s).1)) ∧ Kept (fun k => k = gp ∨ k = gc) w wr) (fun i _ => m - (intOf i).toNat)
  case atStart => exact ⟨0, Nat.zero_le _, rfl, HD.out, by simpa [rIs, splice] using HC.out, Kept.refl _ _⟩
  case round =>
    obtain ⟨k, hk, rfl, hd, hc, hkp⟩ := hrel
    by_cases hlt : k < m
    · have hp := HS.out k hlt
      have hp1 := hkp.cell hp (fun e => e.elim (fun e => HNE.out.2.2.2.1 e) (fun e => HNE.out.2.2.2.2 e))
      have hr1 := hkp.cell HR.out (fun e => e.elim (fun e => HNE.out.2.1 e) (fun e => HNE.out.2.2.1 e))
      have ri := RInt_any wr gp (rIs k s).2 hd (Nat.le_trans (rIs_left k s) hlen)
      have HC1 := Lib.hid hc
      have HK1 := Lib.hid hkp
      obtain ⟨n, hn⟩ : ∃ n, n = (rI (rIs k s).2).1 := ⟨_, rfl⟩
      rw [← hn] at ri
      have HN := Lib.hid hn
      clear hn hd hc hkp hp
      go_wp2_with fail
      refine ri.mono ?_
      clear ri
      rintro e w1 ⟨rfl, hd1, hk1⟩
      have hc1 := HC1.out.keptH hk1 (fun e => by have := HNE.out.1; omega)
      have hkk := HK1.out.trans hk1 (T := fun k => k = gp) (fun _ _ h => .inl h)
      have hlen1 : (splice C o (ivs (rIs k s).1)).length = C.length := splice_length (by rw [List.length_map, rIs_len]; omega)
      have hcell := hc1.cell (j := o + k) (List.getElem?_eq_getElem (by omega))
      have hfr := hc1.frozen (o + k)
      have hput := hc1.put (o + k) (.int .i64 n)
      have hk2 : Kept (fun k => k = gc) w1 (w1.setCell ⟨gc, o + k, none⟩ (.int .i64 n)) := (Kept.refl _ w1).setCell _ _ rfl
      have hd2 := hd1.kept hk2 (fun j hj e => by have := HNE.out.1; omega)
      have he : (splice C o (ivs (rIs k s).1)).set (o + k) (.int .i64 n) = splice C o (ivs (rIs (k + 1) s).1) := by
        have h1 := splice_snoc (C := C) (o := o) (xs := ivs (rIs k s).1) (.int .i64 n) (by rw [List.length_map, rIs_len]; omega)
        rw [List.length_map, rIs_len] at h1
        rw [h1, HN.out]
        simp [rIs, ivs]
      rw [he] at hput
      have HPUT := Lib.hid hput
      have HD2 := Lib.hid hd2
      have HKK := Lib.hid (hkk.trans hk2 (fun _ _ h => .inr h))
      generalize (splice C o (ivs (rIs k s).1))[o + k]'(by omega) = q at hcell
      clear hput hd2 hkk hk2 he hd1 hk1 hc1 hlen1
      go_wp2_with fail
      exact ⟨⟨k + 1, by omega, by push_cast; rfl, HD2.out, HPUT.out, HKK.out⟩, by simp [intOf]; omega⟩
    · obtain rfl : k = m := by omega
      have HD1 := Lib.hid hd
      have HC1 := Lib.hid hc
      have HK1 := Lib.hid hkp
      clear hd hc hkp
      go_wp2_with fail
      go_end0
      exact ⟨rfl, HD1.out, HC1.out, HK1.out⟩

set_option maxRecDepth 100000 in
set_option maxHeartbeats 1600000 in
theorem table_any (w : World) (gr gp gc : Nat) (s : RS) (o m : Nat) (C : List Value) (t : TypeId) (hr : w.cell? ⟨gr, 0, none⟩ = some (.pointer (some ⟨gp, 0, none⟩))) (hd : RD w gp s) (hc : HT w gc t C)
    (hom : o + m ≤ C.length) (hpc : gp < gc) (hrp : gr ≠ gp) (hrc : gr ≠ gc) (hm : m ≤ 1000) (hlen : s.1.length ≤ 70368744177664) :
    Calls Tryz.prog 106 #[.pointer (some ⟨gr, 0, none⟩), .slice (some ⟨gc, o, none⟩) m m] w fun e w' => e = .returned (.tuple #[]) ∧ RD w' gp (rIs m s).2 ∧ HT w' gc t (splice C o (ivs (rIs m s).1)) ∧ Kept (fun k => k = gp ∨ k = gc) w w' := by
  have HR := Lib.hid hr
  have HD := Lib.hid hd
  have HC := Lib.hid hc
  have HNE := Lib.hid (⟨hpc, hrp, hrc⟩ : _ ∧ _ ∧ _)
  clear hr hd hc hrp hrc
  go_enter Tryz.func106, Tryz.ntmps106
  go_wp2_with fail
  go_loopw [7] (fun i wr => ∃ k : Nat, k ≤ m ∧ i = .int .i64 k ∧ RD wr gp (rIs k s).2 ∧ HT wr gc t (splice C o (ivs (rIs k s).1)) ∧ Kept (fun k => k = gp ∨ k = gc) w wr) (fun i _ => m - (intOf i).toNat)
  case atStart => exact ⟨0, Nat.zero_le _, rfl, HD.out, by simpa [rIs, splice] using HC.out, Kept.refl _ _⟩
  case round =>
    obtain ⟨k, hk, rfl, hd, hc, hkp⟩ := hrel
    by_cases hlt : k < m
    · have hr1 := hkp.cell HR.out (fun e => e.elim (fun e => HNE.out.2.1 e) (fun e => HNE.out.2.2 e))
      have ri := RInt_any wr gp (rIs k s).2 hd (Nat.le_trans (rIs_left k s) hlen)
      have HC1 := Lib.hid hc
      have HK1 := Lib.hid hkp
      obtain ⟨n, hn⟩ : ∃ n, n = (rI (rIs k s).2).1 := ⟨_, rfl⟩
      rw [← hn] at ri
      have HN := Lib.hid hn
      clear hn hd hc hkp
      go_wp2_with fail
      refine ri.mono ?_
      clear ri
      rintro e w1 ⟨rfl, hd1, hk1⟩
      have hc1 := HC1.out.keptH hk1 (fun e => by have := HNE.out.1; omega)
      have hkk := HK1.out.trans hk1 (T := fun k => k = gp) (fun _ _ h => .inl h)
      have hlen1 : (splice C o (ivs (rIs k s).1)).length = C.length := splice_length (by rw [List.length_map, rIs_len]; omega)
      have hcell := hc1.cell (j := o + k) (List.getElem?_eq_getElem (by omega))
      have hfr := hc1.frozen (o + k)
      have hput := hc1.put (o + k) (.int .i64 n)
      have hk2 : Kept (fun k => k = gc) w1 (w1.setCell ⟨gc, o + k, none⟩ (.int .i64 n)) := (Kept.refl _ w1).setCell _ _ rfl
      have hd2 := hd1.kept hk2 (fun j hj e => by have := HNE.out.1; omega)
      have he : (splice C o (ivs (rIs k s).1)).set (o + k) (.int .i64 n) = splice C o (ivs (rIs (k + 1) s).1) := by
        have h1 := splice_snoc (C := C) (o := o) (xs := ivs (rIs k s).1) (.int .i64 n) (by rw [List.length_map, rIs_len]; omega)
        rw [List.length_map, rIs_len] at h1
        rw [h1, HN.out]
        simp [rIs, ivs]
      rw [he] at hput
      have HPUT := Lib.hid hput
      have HD2 := Lib.hid hd2
      have HKK := Lib.hid (hkk.trans hk2 (fun _ _ h => .inr h))
      generalize (splice C o (ivs (rIs k s).1))[o + k]'(by omega) = q at hcell
      clear hput hd2 hkk hk2 he hd1 hk1 hc1 hlen1
      go_wp2_with fail
      exact ⟨⟨k + 1, by omega, by push_cast; rfl, HD2.out, HPUT.out, HKK.out⟩, by simp [intOf]; omega⟩
    · obtain rfl : k = m := by omega
      have HD1 := Lib.hid hd
      have HC1 := Lib.hid hc
      have HK1 := Lib.hid hkp
      clear hd hc hkp
      go_wp2_with fail
      go_end0
      exact ⟨rfl, HD1.out, HC1.out, HK1.out⟩
theorem splice_all {C cs : List Value} (h : cs.length = C.length) : splice C 0 cs = cs := by
  unfold splice
  rw [List.take_zero, List.nil_append, Nat.zero_add, List.drop_of_length_le (by omega), List.append_nil]
end Cam
