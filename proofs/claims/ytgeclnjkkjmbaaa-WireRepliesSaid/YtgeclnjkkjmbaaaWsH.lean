import Derived.Test.YtgeclnjkkjmbaaaWsG
/- wire: reader.reply, ReadReply. -/
namespace Cam
open Go Go.RowKit Go.Proofs

theorem WR.set {w : World} {gr gp : Nat} {s : RS} {wr : Bool} (h : WR w gr gp s wr) {g : Nat} (o : Nat) (v : Value) (hg : gr < g) : WR (w.setCell ⟨g, o, none⟩ v) gr gp s wr := by
  have hk : Kept (fun k => k = g) w (w.setCell ⟨g, o, none⟩ v) := (Kept.refl _ w).setCell _ _ rfl
  exact h.go (h.2.1.kept hk (fun k hk e => by have := h.2.2; omega)) hk (fun e => by omega)
theorem HT.put' {w : World} {g : Nat} {t : TypeId} {C C' : List Value} (h : HT w g t C) (j : Nat) (v : Value) (e : C.set j v = C') : HT (w.setCell ⟨g, j, none⟩ v) g t C' := by
  subst e
  exact h.put j v
structure RepT where
  c : Int
  n : Int
  a : Int
  D : List DT
  F : List FT
def RepT.zero : RepT := ⟨0, 0, 0, [], []⟩
def rpD (wb : Bool) (s : RS) : List DT × RS := elL rdDT wb (rIs 3 s).2
def rpV (wb : Bool) (s : RS) : Bool := elW wb (rI (rIs 3 s).2).1
def rpF (wb : Bool) (s : RS) : List FT × RS := elL rdFT (rpV wb s) (rpD wb s).2
def rpW (wb : Bool) (s : RS) : Bool := elW (rpV wb s) (rI (rpD wb s).2).1
def rpT (wb : Bool) (s : RS) : RepT := ⟨(rIs 3 s).1.getD 0 0, (rIs 3 s).1.getD 1 0, (rIs 3 s).1.getD 2 0, (rpD wb s).1, (rpF wb s).1⟩
/-- a reply in memory of the call's own -/
def RepV (w : World) (base : Nat) (v : Value) (x : RepT) : Prop := ∃ a1 n1 c1 a2 n2 c2, v = .agg #[.int .i64 x.c, .int .i64 x.n, .int .i64 x.a, .slice a1 n1 c1, .slice a2 n2 c2] ∧ OwnR DT.vs 3 127 w base (.slice a1 n1 c1) x.D ∧ OwnR FT.vs 8 132 w base (.slice a2 n2 c2) x.F
theorem rRs_leftD (k : Nat) (s : RS) : (rRs rdDT k s).2.1.length ≤ s.1.length := rRs_left rdDT_left k s
theorem elL_left {α : Type} {rd : RS → α × RS} (h : ∀ s, (rd s).2.1.length ≤ s.1.length) (wb : Bool) (s : RS) : (elL rd wb s).2.1.length ≤ s.1.length := by
  unfold elL
  split
  · exact rI_len _
  · exact Nat.le_trans (rRs_left h _ _) (rI_len _)
theorem rpD_left (wb : Bool) (s : RS) : (rpD wb s).2.1.length ≤ s.1.length := Nat.le_trans (elL_left rdDT_left _ _) (rIs_left _ _)
theorem rpF_left (wb : Bool) (s : RS) : (rpF wb s).2.1.length ≤ s.1.length := Nat.le_trans (elL_left rdFT_left _ _) (rpD_left _ _)
def RpPost (w : World) (gr gp : Nat) (s : RS) (wb : Bool) (e : Ending) (w' : World) : Prop := ∃ v, e = .returned v ∧ RepV w' w.heap.size v (rpT wb s) ∧ WR w' gr gp (rpF wb s).2 (rpW wb s) ∧ Kept (fun k => k = gp ∨ k = gr) w w'
theorem repSz : (Try.prog.info? 41).map (·.size) = some 5 := by kernel_rfl
set_option maxRecDepth 100000 in
set_option maxHeartbeats 3200000 in
theorem rdreply_any (w : World) (gr gp : Nat) (s : RS) (wb : Bool) (h : WR w gr gp s wb) (hlen : s.1.length ≤ 70368744177664) : Calls Try.prog 43 #[.pointer (some ⟨gr, 0, none⟩)] w (RpPost w gr gp s wb) := by
  have hlt := h.lt
  have hpr := h.2.2
  have hb1 : Below w.heap.size w (w.alloc (.cells #[.int .i64 0, .int .i64 0, .int .i64 0, .slice none 0 0, .slice none 0 0] 41)) := (Below.refl _ _).alloc (Nat.le_refl _) _
  have hc : HT (w.alloc (.cells #[.int .i64 0, .int .i64 0, .int .i64 0, .slice none 0 0, .slice none 0 0] 41)) w.heap.size 41 [.int .i64 0, .int .i64 0, .int .i64 0, .slice none 0 0, .slice none 0 0] := HT.new (w := w)
  have h0 := h.below hb1
  have ri := RInt_any (w.alloc (.cells #[.int .i64 0, .int .i64 0, .int .i64 0, .slice none 0 0, .slice none 0 0] 41)) gp s h0.2.1 hlen
  have hcr := h0.cell.1
  obtain ⟨x0, hx0⟩ : ∃ n, n = (rI s).1 := ⟨_, rfl⟩
  obtain ⟨s1, hs1⟩ : ∃ s1, s1 = (rI s).2 := ⟨_, rfl⟩
  rw [← hx0, ← hs1] at ri
  have H0 := Lib.hid h0
  have HC0 := Lib.hid hc
  have HH := Lib.hid (⟨hlt, hpr⟩ : _ ∧ _)
  have HB1 := Lib.hid hb1
  have HL1 : Hid (s1.1.length ≤ 70368744177664) := by show _ ≤ _; rw [hs1]; exact Nat.le_trans (rI_len s) hlen
  obtain ⟨y1, y2, hy⟩ : ∃ y1 y2, (rIs 2 s1).1 = [y1, y2] := by
    have h := rIs_len 2 s1
    generalize (rIs 2 s1).1 = L at h
    match L, h with
    | [a, b], _ => exact ⟨a, b, rfl⟩
  obtain ⟨s2, hs2⟩ : ∃ s2, s2 = (rIs 2 s1).2 := ⟨_, rfl⟩
  have HS : Hid ((rIs 3 s).1 = [x0, y1, y2] ∧ (rIs 3 s).2 = s2) := by
    have h := rIs_add 1 2 s
    rw [show 1 + 2 = 3 from rfl, show rIs 1 s = ([(rI s).1], (rI s).2) from rfl] at h
    simp only at h
    rw [← hs1, ← hx0, hy, ← hs2] at h
    show _ ∧ _
    rw [h]
    exact ⟨rfl, rfl⟩
  have HL2 : Hid (s2.1.length ≤ 70368744177664) := by show _ ≤ _; rw [hs2]; exact Nat.le_trans (rIs_left 2 s1) HL1.out
  have HY := Lib.hid (⟨hy, hs2⟩ : _ ∧ _)
  obtain ⟨D, hD⟩ : ∃ D, D = (elL rdDT wb s2).1 := ⟨_, rfl⟩
  obtain ⟨s3, hs3⟩ : ∃ s3, s3 = (elL rdDT wb s2).2 := ⟨_, rfl⟩
  obtain ⟨wb3, hwb3⟩ : ∃ b, b = elW wb (rI s2).1 := ⟨_, rfl⟩
  obtain ⟨F, hF⟩ : ∃ F, F = (elL rdFT wb3 s3).1 := ⟨_, rfl⟩
  obtain ⟨s4, hs4⟩ : ∃ s4, s4 = (elL rdFT wb3 s3).2 := ⟨_, rfl⟩
  obtain ⟨wb4, hwb4⟩ : ∃ b, b = elW wb3 (rI s3).1 := ⟨_, rfl⟩
  have HL3 : Hid (s3.1.length ≤ 70368744177664) := by show _ ≤ _; rw [hs3]; exact Nat.le_trans (elL_left rdDT_left wb s2) HL2.out
  have HRES : Hid (rpT wb s = ⟨x0, y1, y2, D, F⟩ ∧ (rpF wb s).2 = s4 ∧ rpW wb s = wb4) := by
    show _ ∧ _
    unfold rpT rpW rpF rpV rpD
    rw [HS.out.1, HS.out.2, ← hD, ← hs3, ← hwb3, ← hF, ← hs4, ← hwb4]
    exact ⟨rfl, rfl, rfl⟩
  have HD := Lib.hid (⟨hD, hs3, hwb3, hF, hs4, hwb4⟩ : _ ∧ _ ∧ _ ∧ _ ∧ _ ∧ _)
  clear hlt hpr hb1 hc h h0 hlen hx0 hs1 hy hs2 hD hs3 hwb3 hF hs4 hwb4
  go_enter Try.func43, Try.ntmps43
  go_wp2_with fail
  refine ri.mono ?_
  clear ri hcr
  rintro e w1 ⟨rfl, hd1, hk1⟩
  have hw1 := H0.out.go hd1 hk1 (fun e => by have := HH.out; omega)
  have hc1 := HC0.out.keptH hk1 (fun e => by have := HH.out; omega)
  have hcell := hc1.cell (j := 0) rfl
  have hfr := hc1.frozen 0
  have hw2 := hw1.set 0 (.int .i64 x0) HH.out.1
  have hc2 : HT (w1.setCell ⟨w.heap.size, 0, none⟩ (.int .i64 x0)) w.heap.size 41 [.int .i64 x0, .int .i64 0, .int .i64 0, .slice none 0 0, .slice none 0 0] := hc1.put' 0 _ rfl
  have hsz : (w1.setCell ⟨w.heap.size, 0, none⟩ (.int .i64 x0)).heap.size = w1.heap.size := by simp
  have hk2 : Kept (fun k => k = gp ∨ k = w.heap.size) w (w1.setCell ⟨w.heap.size, 0, none⟩ (.int .i64 x0)) := ((((Kept.of_below HB1.out).weaken (fun _ h => h.elim)).trans hk1 (fun _ _ h => .inl h)).setCell _ _ (.inr rfl))
  obtain ⟨W1, hW1⟩ : ∃ W, W = w1.setCell ⟨w.heap.size, 0, none⟩ (.int .i64 x0) := ⟨_, rfl⟩
  rw [← hW1] at hw2 hc2 hsz hk2
  have hbx : Below W1.heap.size W1 (W1.alloc (.cells #[.pointer (some ⟨w.heap.size, 1, none⟩), .pointer (some ⟨w.heap.size, 2, none⟩)] 120)) := (Below.refl _ _).alloc (Nat.le_refl _) _
  have hs : ∀ i, i < 2 → (W1.alloc (.cells #[.pointer (some ⟨w.heap.size, 1, none⟩), .pointer (some ⟨w.heap.size, 2, none⟩)] 120)).cell? ⟨w1.heap.size, i, none⟩ = some (.pointer (some ⟨w.heap.size, 1 + i, none⟩)) := by
    intro i hi
    have hh : (W1.alloc (.cells #[.pointer (some ⟨w.heap.size, 1, none⟩), .pointer (some ⟨w.heap.size, 2, none⟩)] 120)).heap[w1.heap.size]? = some (.cells #[.pointer (some ⟨w.heap.size, 1, none⟩), .pointer (some ⟨w.heap.size, 2, none⟩)] 120) := by rw [← hsz]; exact heap_alloc_new _ _
    unfold World.cell?
    rw [hh]
    rcases i with _ | _ | i
    all_goals first | rfl | omega
  have it := into_any (W1.alloc (.cells #[.pointer (some ⟨w.heap.size, 1, none⟩), .pointer (some ⟨w.heap.size, 2, none⟩)] 120)) gr gp w.heap.size w1.heap.size s1 1 2 _ _ (hw2.below hbx).cell.1 (hw2.below hbx).2.1 (hc2.below hbx) hs (by simp) (by have := HH.out; omega) (by have := HH.out; omega) (by have := HH.out; omega) (by have := HH.out; have := hc1.lt; omega) (by have := hc1.lt; omega) (by omega) HL1.out
  rw [HY.out.1, ← HY.out.2] at it
  have HW2 := Lib.hid (hw2.below hbx)
  have HK2 := Lib.hid (hk2.alloc (.cells #[.pointer (some ⟨w.heap.size, 1, none⟩), .pointer (some ⟨w.heap.size, 2, none⟩)] 120))
  have HW1 := Lib.hid hW1
  rw [hW1] at it
  clear hw1 hc1 hw2 hc2 hsz hk2 hd1 hk1 hbx hs hW1
  go_wp2_with fail
  rw [← HW1.out] at it
  rw [← HW1.out]
  refine it.mono ?_
  clear it hcell hfr
  rintro e w3 ⟨rfl, hd3, hc3, hk3⟩
  have hw3 := HW2.out.go hd3 hk3 (fun e => by have := HH.out; omega)
  have hc3' : HT w3 w.heap.size 41 [.int .i64 x0, .int .i64 y1, .int .i64 y2, .slice none 0 0, .slice none 0 0] := hc3
  have hk3' := HK2.out.trans hk3 (fun _ _ h => h)
  have el := elems_due w3 gr gp s2 wb hw3 HL2.out
  have HC3 := Lib.hid hc3'
  have HK3 := Lib.hid hk3'
  clear hd3 hc3 hk3 hw3 hc3' hk3'
  go_wp2_with fail
  refine el.mono ?_
  clear el
  rintro e w4 ⟨a1, n1, c1, rfl, ho4, hw4, hk4⟩
  rw [← HD.out.1] at ho4
  rw [← HD.out.2.1, ← HD.out.2.2.1] at hw4
  have hgg : w.heap.size < w3.heap.size := HC3.out.lt
  have hc4 := HC3.out.keptH hk4 (fun e => by have := HH.out; omega)
  have hcell := hc4.cell (j := 3) rfl
  have hfr := hc4.frozen 3
  have hw5 := hw4.set 3 (.slice a1 n1 c1) HH.out.1
  have hc5 : HT (w4.setCell ⟨w.heap.size, 3, none⟩ (.slice a1 n1 c1)) w.heap.size 41 [.int .i64 x0, .int .i64 y1, .int .i64 y2, .slice a1 n1 c1, .slice none 0 0] := hc4.put' 3 _ rfl
  have ho5 : OwnR DT.vs 3 127 (w4.setCell ⟨w.heap.size, 3, none⟩ (.slice a1 n1 c1)) w3.heap.size (.slice a1 n1 c1) D := OwnR.keptS ho4 ((Kept.refl (fun k => k = w.heap.size) w4).setCell _ _ rfl) (fun k hk (e : k = w.heap.size) => by have := OwnR.ge ho4 k hk; omega)
  have hk5 : Kept (fun k => (k = gp ∨ k = gr) ∨ k = w.heap.size) w (w4.setCell ⟨w.heap.size, 3, none⟩ (.slice a1 n1 c1)) := ((HK3.out.weaken (fun k h => by rcases h with h | h; exact .inl (.inl h); exact .inr h)).trans hk4 (fun _ _ h => .inl h)).setCell _ _ (.inr rfl)
  have el := elems_fall _ gr gp s3 wb3 hw5 HL3.out
  have HGG := Lib.hid hgg
  have HS4 := Lib.hid hk4.size
  have HC5 := Lib.hid hc5
  have HO5 := Lib.hid ho5
  have HK5 := Lib.hid hk5
  clear hgg hc4 hw5 hc5 ho5 hk5 ho4 hw4 hk4
  go_wp2_with fail
  refine el.mono ?_
  clear el hcell hfr
  rintro e w6 ⟨a2, n2, c2, rfl, ho6, hw6, hk6⟩
  rw [← HD.out.2.2.2.1] at ho6
  rw [← HD.out.2.2.2.2.1, ← HD.out.2.2.2.2.2] at hw6
  have hs5 : w3.heap.size ≤ (w4.setCell ⟨w.heap.size, 3, none⟩ (.slice a1 n1 c1)).heap.size := by
    simpa using HS4.out
  have hc6 := HC5.out.keptH hk6 (fun e => by have := HH.out; omega)
  have hcell := hc6.cell (j := 4) rfl
  have hfr := hc6.frozen 4
  have hw7 := hw6.set 4 (.slice a2 n2 c2) HH.out.1
  have hc7 : HT (w6.setCell ⟨w.heap.size, 4, none⟩ (.slice a2 n2 c2)) w.heap.size 41 [.int .i64 x0, .int .i64 y1, .int .i64 y2, .slice a1 n1 c1, .slice a2 n2 c2] := hc6.put' 4 _ rfl
  have hkS : Kept (fun k => k = w.heap.size) w6 (w6.setCell ⟨w.heap.size, 4, none⟩ (.slice a2 n2 c2)) := (Kept.refl _ w6).setCell _ _ rfl
  have ho7 := OwnR.keptS ho6 hkS (fun k hk (e : k = w.heap.size) => by have := OwnR.ge ho6 k hk; have := HGG.out; omega)
  have ho8 := OwnR.keptS (OwnR.keptS HO5.out hk6 (fun k hk e => by have := OwnR.ge HO5.out k hk; have := HGG.out; have := HH.out; omega)) hkS (fun k hk (e : k = w.heap.size) => by have := OwnR.ge HO5.out k hk; have := HGG.out; omega)
  have hk7 : Kept (fun k => (k = gp ∨ k = gr) ∨ k = w.heap.size) w (w6.setCell ⟨w.heap.size, 4, none⟩ (.slice a2 n2 c2)) := (HK5.out.trans hk6 (fun _ _ h => .inl h)).setCell _ _ (.inr rfl)
  have HG : Hid ((w6.setCell ⟨w.heap.size, 4, none⟩ (.slice a2 n2 c2)).heap[w.heap.size]? = some (.cells #[.int .i64 x0, .int .i64 y1, .int .i64 y2, .slice a1 n1 c1, .slice a2 n2 c2] 41 (0, 0))) := hc7
  have HO7 := Lib.hid (⟨ho7, ho8, hw7, hk7⟩ : _ ∧ _ ∧ _ ∧ _)
  have HSZ : Hid ((Try.prog.info? 41).map (·.size) = some (#[.int .i64 x0, .int .i64 y1, .int .i64 y2, .slice a1 n1 c1, .slice a2 n2 c2] : Array Value).size) := by show _ = _; rw [repSz]; rfl
  have HONE : Hid ((#[.int .i64 x0, .int .i64 y1, .int .i64 y2, .slice a1 n1 c1, .slice a2 n2 c2] : Array Value).all (·.oneCell') = true) := by show _ = true; simp [Value.oneCell']
  have HS5 := Lib.hid hs5
  clear hc6 hw7 hc7 hkS ho7 ho8 hk7 ho6 hw6 hk6 hs5
  go_wp2_with (first
    | (refine wpList_load_row rfl 41 (.tmp 2) rfl w.heap.size rfl 41 #[.int .i64 x0, .int .i64 y1, .int .i64 y2, .slice a1 n1 c1, .slice a2 n2 c2] (0, 0) _ HG.out Try.underlying41 rfl HSZ.out ?_)
    | (refine wpList_store_row rfl 41 (.tmp 2) (.tmp 24) rfl w.heap.size #[.int .i64 x0, .int .i64 y1, .int .i64 y2, .slice a1 n1 c1, .slice a2 n2 c2] rfl rfl 41 #[.int .i64 x0, .int .i64 y1, .int .i64 y2, .slice a1 n1 c1, .slice a2 n2 c2] HG.out HSZ.out rfl HONE.out ?_)
    | fail)
  refine bodyPost_ret (results_cell_row rfl _ _ w.heap.size 41 #[.int .i64 x0, .int .i64 y1, .int .i64 y2, .slice a1 n1 c1, .slice a2 n2 c2] (0, 0) _ rfl (setRow_heap _ _ _ _ _ _ HG.out) Try.underlying41 rfl HSZ.out) rfl ?_
  obtain ⟨ho7, ho8, hw7, hk7⟩ := HO7.out
  generalize w6.setCell ⟨w.heap.size, 4, none⟩ (.slice a2 n2 c2) = w9 at *
  have hkr : Kept (fun k => k = w.heap.size) w9 (w9.setRow w.heap.size #[.int .i64 x0, .int .i64 y1, .int .i64 y2, .slice a1 n1 c1, .slice a2 n2 c2]) := ⟨rfl, rfl, rfl, by simp [World.setRow], fun k _ hn => setRow_other _ _ _ _ hn⟩
  have hg1 := HGG.out
  have hr := HRES.out
  refine ⟨_, rfl, ?_, ?_, ?_⟩
  · rw [hr.1]
    exact ⟨a1, n1, c1, a2, n2, c2, rfl, OwnR.base (OwnR.keptS ho8 hkr (fun k hk (e : k = w.heap.size) => by have := OwnR.ge ho8 k hk; omega)) (by omega), OwnR.base (OwnR.keptS ho7 hkr (fun k hk (e : k = w.heap.size) => by have := OwnR.ge ho7 k hk; have := HS5.out; omega)) (by have := HS5.out; omega)⟩
  · rw [hr.2.1, hr.2.2]
    exact hw7.go (hw7.2.1.kept hkr (fun k hk e => by have := HH.out; omega)) hkr (fun e => by have := HH.out; omega)
  · have := hk7.trans hkr (fun _ _ h => .inr h)
    exact ⟨this.os, this.tape, this.output, this.size, fun k hk hn => this.block k hk (fun e => e.elim hn (fun e => by omega))⟩
theorem RepV.kept {S : Nat → Prop} {w w' : World} {base : Nat} {v : Value} {x : RepT} (h : RepV w base v x) (hk : Kept S w w') (hS : ∀ k, base ≤ k → ¬ S k) : RepV w' base v x := by
  obtain ⟨a1, n1, c1, a2, n2, c2, e, h1, h2⟩ := h
  exact ⟨a1, n1, c1, a2, n2, c2, e, OwnR.keptS h1 hk (fun k hk => hS k (OwnR.ge h1 k hk)), OwnR.keptS h2 hk (fun k hk => hS k (OwnR.ge h2 k hk))⟩
theorem RepV.below {w w' : World} {base : Nat} {v : Value} {x : RepT} (h : RepV w base v x) (hb : Below w.heap.size w w') : RepV w' base v x := h.kept (Kept.of_below hb) (fun _ _ h => h)
theorem RepV.base {w : World} {base b : Nat} {v : Value} {x : RepT} (h : RepV w base v x) (hb : b ≤ base) : RepV w b v x := by
  obtain ⟨a1, n1, c1, a2, n2, c2, e, h1, h2⟩ := h
  exact ⟨a1, n1, c1, a2, n2, c2, e, OwnR.base h1 hb, OwnR.base h2 hb⟩
theorem RepV_zero (w : World) (base : Nat) : RepV w base (.agg #[.int .i64 0, .int .i64 0, .int .i64 0, .slice none 0 0, .slice none 0 0]) RepT.zero := ⟨none, 0, 0, none, 0, 0, rfl, OwnR.empty DT.len _ _ _, OwnR.empty FT.len _ _ _⟩
/-- what is read of bytes, and the error -/
def readRp (l : List UInt8) : RepT × Int := if 65536 < l.length then (RepT.zero, 6) else if dE (rpW false (l, 0)) (rpF false (l, 0)).2 = 0 then (rpT false (l, 0), 0) else (RepT.zero, 6)
def readRpPost (w : World) (l : List UInt8) (e : Ending) (w' : World) : Prop := ∃ val, e = .returned (.tuple #[val, .int .i64 (readRp l).2]) ∧ RepV w' w.heap.size val (readRp l).1 ∧ Below w.heap.size w w'
theorem readRp_zsz : (Try.prog.info? 41).map (·.size) = some (#[.int .i64 0, .int .i64 0, .int .i64 0, .slice none 0 0, .slice none 0 0] : Array Value).size := by rw [repSz]; rfl
theorem readRp_zone : (#[.int .i64 0, .int .i64 0, .int .i64 0, .slice none 0 0, .slice none 0 0] : Array Value).all (·.oneCell') = true := by simp [Value.oneCell']
set_option maxRecDepth 100000 in
set_option maxHeartbeats 3200000 in
theorem ReadReply_any (w : World) (v : Value) (l : List UInt8) (h : Bs w v l) (hlen : l.length ≤ 70368744177664) : Calls Try.prog 21 #[v] w (readRpPost w l) := by
  have hb1 : Below w.heap.size w (w.alloc (.cells #[.int .i64 0, .int .i64 0, .int .i64 0, .slice none 0 0, .slice none 0 0] 41)) := (Below.refl _ _).alloc (Nat.le_refl _) _
  have hc1 : HT (w.alloc (.cells #[.int .i64 0, .int .i64 0, .int .i64 0, .slice none 0 0, .slice none 0 0] 41)) w.heap.size 41 [.int .i64 0, .int .i64 0, .int .i64 0, .slice none 0 0, .slice none 0 0] := HT.new (w := w)
  have rd := read_any _ v l (h.mono hb1) hlen
  have HB1 := Lib.hid hb1
  have HC1 := Lib.hid hc1
  have HLEN := Lib.hid hlen
  obtain ⟨a, c, rfl, _, _⟩ := h.shape
  obtain ⟨n, hn⟩ : ∃ n, n = l.length := ⟨_, rfl⟩
  rw [← hn] at rd ⊢
  clear hb1 hc1 h hn hlen
  go_enter Try.func21, Try.ntmps21
  go_wp2_with fail
  refine rd.mono ?_
  clear rd
  rintro e w1 hpo
  rcases hpo with ⟨hlong, rfl, hb⟩ | ⟨hshort, gr, gp, rfl, hw, hge, hb⟩
  · have HG : Hid (w1.heap[w.heap.size]? = some (.cells #[.int .i64 0, .int .i64 0, .int .i64 0, .slice none 0 0, .slice none 0 0] 41 (0, 0))) := HC1.out.below hb
    have HE := Lib.hid (show readRp l = (RepT.zero, 6) by unfold readRp; rw [if_pos hlong])
    have HB := Lib.hid (HB1.out.trans (hb.mono HB1.out.size))
    clear hlong hb
    go_wp2_with (first
      | (refine wpList_store_row rfl 41 (.tmp 2) (.tmp 14) rfl w.heap.size #[.int .i64 0, .int .i64 0, .int .i64 0, .slice none 0 0, .slice none 0 0] rfl rfl 41 #[.int .i64 0, .int .i64 0, .int .i64 0, .slice none 0 0, .slice none 0 0] HG.out readRp_zsz rfl readRp_zone ?_)
      | fail)
    refine bodyPost_ret (results_row_tmp rfl _ _ w.heap.size 41 #[.int .i64 0, .int .i64 0, .int .i64 0, .slice none 0 0, .slice none 0 0] (0, 0) _ rfl (setRow_heap _ _ _ _ _ _ HG.out) Try.underlying41 rfl readRp_zsz rfl) rfl ?_
    exact ⟨_, by rw [HE.out]; rfl, by rw [HE.out]; exact RepV_zero _ _, HB.out.trans (setRow_below (Nat.le_refl _) _)⟩
  · have hcm := rdreply_any w1 gr gp (l, 0) false hw HLEN.out
    have hk1 := HC1.out.below hb
    have HGE := Lib.hid (⟨by simpa using hge, hw.2.2, hw.lt, hk1.lt⟩ : w.heap.size + 1 ≤ gp ∧ _ ∧ _ ∧ _)
    have HB := Lib.hid (HB1.out.trans (hb.mono HB1.out.size))
    have HK1 := Lib.hid hk1
    have HSH := Lib.hid hshort
    clear hw hb hge hk1 hshort
    go_wp2_with fail
    refine hcm.mono ?_
    clear hcm
    rintro e w2 ⟨val, rfl, hv, hw2, hk2⟩
    have hg2 := HK1.out.keptH hk2 (fun e => by have := HGE.out.1; have := HGE.out.2.1; omega)
    have hb2 : Below w.heap.size w w2 := HB.out.trans (hk2.below (fun k hk e => by have := HGE.out.1; have := HGE.out.2.1; omega) HB.out.size)
    obtain ⟨s, hs⟩ : ∃ s, s = (rpF false (l, 0)).2 := ⟨_, rfl⟩
    obtain ⟨wb, hwb⟩ : ∃ s, s = rpW false (l, 0) := ⟨_, rfl⟩
    obtain ⟨x, hx⟩ : ∃ x, x = rpT false (l, 0) := ⟨_, rfl⟩
    rw [← hs, ← hwb] at hw2
    rw [← hx] at hv
    have HV := Lib.hid hv
    obtain ⟨a1, n1, c1, a2, n2, c2, rfl, ho1, ho2⟩ := hv
    have hbn : Below w2.heap.size w2 (w2.alloc (.cells #[.int .i64 0, .int .i64 0, .int .i64 0, .slice none 0 0, .slice none 0 0] 41)) := (Below.refl _ _).alloc (Nat.le_refl _) _
    have hbs : Below w2.heap.size w2 ((w2.alloc (.cells #[.int .i64 0, .int .i64 0, .int .i64 0, .slice none 0 0, .slice none 0 0] 41)).setRow w2.heap.size #[.int .i64 x.c, .int .i64 x.n, .int .i64 x.a, .slice a1 n1 c1, .slice a2 n2 c2]) := hbn.trans (setRow_below (Nat.le_refl _) _)
    have dn := done_any _ gr gp s wb (hw2.below hbs)
    obtain ⟨d, hd⟩ : ∃ d, d = dE wb s := ⟨_, rfl⟩
    rw [← hd] at dn
    have HG2 : Hid (((w2.alloc (.cells #[.int .i64 0, .int .i64 0, .int .i64 0, .slice none 0 0, .slice none 0 0] 41)).setRow w2.heap.size #[.int .i64 x.c, .int .i64 x.n, .int .i64 x.a, .slice a1 n1 c1, .slice a2 n2 c2]).heap[w.heap.size]? = some (.cells #[.int .i64 0, .int .i64 0, .int .i64 0, .slice none 0 0, .slice none 0 0] 41 (0, 0))) := hg2.below hbs
    have HN2 : Hid (((w2.alloc (.cells #[.int .i64 0, .int .i64 0, .int .i64 0, .slice none 0 0, .slice none 0 0] 41)).setRow w2.heap.size #[.int .i64 x.c, .int .i64 x.n, .int .i64 x.a, .slice a1 n1 c1, .slice a2 n2 c2]).heap[w2.heap.size]? = some (.cells #[.int .i64 x.c, .int .i64 x.n, .int .i64 x.a, .slice a1 n1 c1, .slice a2 n2 c2] 41 (0, 0))) := setRow_heap _ _ _ _ _ _ (heap_alloc_new w2 _)
    have HB3 := Lib.hid (hb2.trans (hbs.mono hb2.size))
    have HV3 : Hid (RepV ((w2.alloc (.cells #[.int .i64 0, .int .i64 0, .int .i64 0, .slice none 0 0, .slice none 0 0] 41)).setRow w2.heap.size #[.int .i64 x.c, .int .i64 x.n, .int .i64 x.a, .slice a1 n1 c1, .slice a2 n2 c2]) w1.heap.size (.agg #[.int .i64 x.c, .int .i64 x.n, .int .i64 x.a, .slice a1 n1 c1, .slice a2 n2 c2]) x) := HV.out.below hbs
    have HSZ : Hid ((Try.prog.info? 41).map (·.size) = some (#[.int .i64 x.c, .int .i64 x.n, .int .i64 x.a, .slice a1 n1 c1, .slice a2 n2 c2] : Array Value).size) := by show _ = _; rw [repSz]; rfl
    have HS17 : Hid ((#[.int .i64 0, .int .i64 0, .int .i64 0, .slice none 0 0, .slice none 0 0] : Array Value).size = (#[.int .i64 x.c, .int .i64 x.n, .int .i64 x.a, .slice a1 n1 c1, .slice a2 n2 c2] : Array Value).size) := by show _ = _; rfl
    have HONE : Hid ((#[.int .i64 x.c, .int .i64 x.n, .int .i64 x.a, .slice a1 n1 c1, .slice a2 n2 c2] : Array Value).all (·.oneCell') = true) := by show _ = _; simp [Value.oneCell']
    have HD6 : Hid (d = 0 ∨ d = 6) := by
      show _ ∨ _
      rw [hd]
      unfold dE
      split
      · exact .inr rfl
      · exact .inl rfl
    have HE : Hid (readRp l = if d = 0 then (x, 0) else (RepT.zero, 6)) := by
      show _ = _
      unfold readRp
      rw [if_neg HSH.out, ← hs, ← hwb, ← hx, hd]
    clear hs hwb hx hd hw2 hk2 hg2 hb2 hbn hbs
    go_wp2_with (first
      | (refine wpList_store_row rfl 41 (.tmp 6) (.tmp 17) rfl w2.heap.size #[.int .i64 x.c, .int .i64 x.n, .int .i64 x.a, .slice a1 n1 c1, .slice a2 n2 c2] rfl rfl 41 #[.int .i64 0, .int .i64 0, .int .i64 0, .slice none 0 0, .slice none 0 0] (heap_alloc_new w2 _) HSZ.out HS17.out HONE.out ?_)
      | fail)
    refine dn.mono ?_
    clear dn
    rintro e w3 ⟨rfl, hw3⟩
    generalize hW : (w2.alloc (.cells #[.int .i64 0, .int .i64 0, .int .i64 0, .slice none 0 0, .slice none 0 0] 41)).setRow w2.heap.size #[.int .i64 x.c, .int .i64 x.n, .int .i64 x.a, .slice a1 n1 c1, .slice a2 n2 c2] = W3 at *
    clear hW
    subst hw3
    by_cases hz : d = 0
    · subst hz
      go_wp2_with (first
        | (refine wpList_load_row rfl 41 (.tmp 6) rfl w2.heap.size rfl 41 #[.int .i64 x.c, .int .i64 x.n, .int .i64 x.a, .slice a1 n1 c1, .slice a2 n2 c2] (0, 0) _ HN2.out Try.underlying41 rfl HSZ.out ?_)
        | (refine wpList_store_row rfl 41 (.tmp 2) (.tmp 24) rfl w.heap.size #[.int .i64 x.c, .int .i64 x.n, .int .i64 x.a, .slice a1 n1 c1, .slice a2 n2 c2] rfl rfl 41 #[.int .i64 0, .int .i64 0, .int .i64 0, .slice none 0 0, .slice none 0 0] HG2.out HSZ.out HS17.out HONE.out ?_)
        | fail)
      refine bodyPost_ret (results_row_tmp rfl _ _ w.heap.size 41 #[.int .i64 x.c, .int .i64 x.n, .int .i64 x.a, .slice a1 n1 c1, .slice a2 n2 c2] (0, 0) _ rfl (setRow_heap _ _ _ _ _ _ HG2.out) Try.underlying41 rfl HSZ.out rfl) rfl ?_
      have hE : readRp l = (x, 0) := by rw [HE.out]; simp
      refine ⟨_, by rw [hE]; rfl, ?_, HB3.out.trans (setRow_below (Nat.le_refl _) _)⟩
      rw [hE]
      have hkr : Kept (fun k => k = w.heap.size) W3 (W3.setRow w.heap.size #[.int .i64 x.c, .int .i64 x.n, .int .i64 x.a, .slice a1 n1 c1, .slice a2 n2 c2]) := ⟨rfl, rfl, rfl, by simp [World.setRow], fun k _ hn => setRow_other _ _ _ _ hn⟩
      exact (HV3.out.kept hkr (fun k hk (e : k = w.heap.size) => by have := HGE.out.2.2.2; omega)).base HB.out.size
    · have hz' : (d != 0) = true := by rw [bne_iff_ne]; exact hz
      have HZ : Hid (d = 6) := HD6.out.resolve_left hz
      clear hz
      go_wp2_with (first
        | (refine wpList_store_row rfl 41 (.tmp 2) (.tmp 22) rfl w.heap.size #[.int .i64 0, .int .i64 0, .int .i64 0, .slice none 0 0, .slice none 0 0] rfl rfl 41 #[.int .i64 0, .int .i64 0, .int .i64 0, .slice none 0 0, .slice none 0 0] HG2.out readRp_zsz rfl readRp_zone ?_)
        | fail)
      refine bodyPost_ret (results_row_tmp rfl _ _ w.heap.size 41 #[.int .i64 0, .int .i64 0, .int .i64 0, .slice none 0 0, .slice none 0 0] (0, 0) _ rfl (setRow_heap _ _ _ _ _ _ HG2.out) Try.underlying41 rfl readRp_zsz rfl) rfl ?_
      have hE : readRp l = (RepT.zero, 6) := by rw [HE.out, if_neg (by rw [HZ.out]; decide)]
      exact ⟨_, by rw [hE, HZ.out]; rfl, by rw [hE]; exact RepV_zero _ _, HB3.out.trans (setRow_below (Nat.le_refl _) _)⟩
end Cam
