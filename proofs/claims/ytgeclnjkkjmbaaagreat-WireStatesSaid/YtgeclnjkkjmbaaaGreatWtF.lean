import Derived.Test.YtgeclnjkkjmbaaaGreatWtE
/- wire.reader: the rows of a state; elements over them. -/
namespace Cam
open Go Go.RowKit Go.Proofs
set_option linter.unusedVariables false
set_option linter.unusedSimpArgs false
set_option maxRecDepth 100000
set_option maxHeartbeats 3200000
theorem rdmem_any (w : World) (gr gp : Nat) (s : RS) (wb : Bool) (h : WR w gr gp s wb) (hlen : s.1.length ≤ 70368744177664) : Calls Tryz.prog 75 #[.pointer (some ⟨gr, 0, none⟩)] w fun e w' => e = .returned (.agg (ivs (rIs 3 s).1).toArray) ∧ WR w' gr gp (rIs 3 s).2 wb ∧ Kept (fun k => k = gp) w w' := by
 have hlt := h.lt
 have hpr := h.2.2
 have HH := Lh (⟨hlt, hpr⟩ : _ ∧ _)
 have HLEN := Lh hlen
 obtain ⟨g, hg⟩ : ∃ g, g = w.heap.size := ⟨_, rfl⟩
 have HG0 := Lh hg
 have nx0 := rd_in 86 3 3 h hlen (by decide) (by decide)
 clear hlt hpr h hlen
 clear hg
 go_in
 go_wp2_with fail
 refine nx0.mono ?_
 clear nx0
 rintro e w2 ⟨rfl, hw2, hc2, hk2⟩
 have HSZ1 : Hid (w.heap.size < w2.heap.size) := hc2.lt
 rw [splice_all (by simp [ivs, rIs_len])] at hc2
 have hl := rIs_len 3 s
 obtain ⟨L, hL⟩ : ∃ L, L = (rIs 3 s).1 := ⟨_, rfl⟩
 simp only [Nat.reduceAdd] at hc2 hw2
 rw [← hL] at hc2 hl
 have HG : Hid (w2.heap[w.heap.size]? = some (.cells (ivs L).toArray 86 (0, 0))) := hc2
 have HSZ : Hid ((Tryz.prog.info? 86).map (·.size) = some (ivs L).toArray.size) := by show _ = _; rw [mem_sz]; simp [ivs, hl]
 have HWF := Lh hw2
 have HKF := Lh hk2
 have HL := Lh hL
 clear hc2 hw2 hk2 hl hL
 go_wp2_with (first
  | (refine wpList_load_row rfl 86 (.tmp 2) rfl w.heap.size rfl 86 (ivs L).toArray (0, 0) _ HG.out Tryz.underlying86 rfl HSZ.out ?_)
  | (refine wpList_store_row rfl 86 (.tmp 2) (.tmp 9) rfl w.heap.size (ivs L).toArray rfl rfl 86 (ivs L).toArray HG.out HSZ.out rfl (ivs_one L) ?_)
  | fail)
 refine bodyPost_ret (results_cell_row rfl _ _ w.heap.size 86 (ivs L).toArray (0, 0) _ rfl (setRow_heap _ _ _ _ _ _ HG.out) Tryz.underlying86 rfl HSZ.out) rfl ?_
 have hkr : Kept (fun k => k = w.heap.size) w2 (w2.setRow w.heap.size (ivs L).toArray) := ⟨rfl, rfl, rfl, by simp [World.setRow], fun k _ hn => setRow_other _ _ _ _ hn⟩
 refine ⟨by rw [HL.out], HWF.out.go (HWF.out.2.1.kept hkr (fun k hk e => by have := HH.out; omega)) hkr (fun e => by have := HH.out; omega), ?_⟩
 exact ((HKF.out.trans hkr (fun i hi e => .inr e)).drop).weaken (fun _ h => h)
def rdMbT (s : RS) : MbT × RS := (⟨(rIs 3 s).1.getD 0 0, (rIs 3 s).1.getD 1 0, (rIs 3 s).1.getD 2 0⟩, (rIs 3 s).2)
theorem rdMbT_vs (s : RS) : (ivs (rIs 3 s).1) = (rdMbT s).1.vs := by
 have h := rIs_len 3 s
 unfold rdMbT
 generalize (rIs 3 s).1 = L at h
 match L, h with
 | [a0, a1, a2], _ => rfl
theorem rdMbT_left (s : RS) : (rdMbT s).2.1.length ≤ s.1.length := rIs_left 3 s
theorem rdc_mem (w : World) (gr gp : Nat) (s : RS) (wb : Bool) (h : WR w gr gp s wb) (hlen : s.1.length ≤ 70368744177664) : Calls Tryz.prog 75 #[.pointer (some ⟨gr, 0, none⟩)] w fun e w' => e = .returned (.agg (rdMbT s).1.vs.toArray) ∧ WR w' gr gp (rdMbT s).2 wb ∧ Kept (fun k => k = gp) w w' := by
 rw [← rdMbT_vs]
 exact rdmem_any w gr gp s wb h hlen
def ElMbT (w : World) (gr gp : Nat) (s : RS) (wb : Bool) (e : Ending) (w' : World) : Prop := ∃ a n c, e = .returned (.slice a n c) ∧ OwnR MbT.vs 3 86 w' w.heap.size (.slice a n c) (elL rdMbT wb s).1 ∧ WR w' gr gp (elL rdMbT wb s).2 (elW wb (rI s).1) ∧ Kept (fun k => k = gp ∨ k = gr) w w'
theorem elems_mem (w : World) (gr gp : Nat) (s : RS) (wb : Bool) (h : WR w gr gp s wb) (hlen : s.1.length ≤ 70368744177664) :
  Calls Tryz.prog 74 #[.pointer (some ⟨gr, 0, none⟩), .func (.func 75) #[.pointer (some ⟨gr, 0, none⟩)] #[]] w (ElMbT w gr gp s wb) := by
 have hc0 := h.cell.1
 have ri := RInt_any w gp s h.2.1 hlen
 obtain ⟨n, hn⟩ : ∃ n, n = (rI s).1 := ⟨_, rfl⟩
 obtain ⟨s1, hs1⟩ : ∃ s1, s1 = (rI s).2 := ⟨_, rfl⟩
 rw [← hn, ← hs1] at ri
 have HL : Hid (elL rdMbT wb s = if elW wb n = true then ([], s1) else rRs rdMbT n.toNat s1) := by show _ = _; unfold elL; rw [← hn, ← hs1]
 have HN := Lh hn
 have HLEN : Hid (s1.1.length ≤ 70368744177664) := by show _ ≤ _; rw [hs1]; exact Nat.le_trans (rIs_left 1 s) hlen
 have H := Lh h
 have hgg : gp < gr := h.2.2
 have HGG := Lh hgg
 have hnr : -9223372036854775808 ≤ n ∧ n ≤ 9223372036854775807 := by rw [hn]; exact rI_range s
 clear hn hs1 h hlen hgg
 go_in
 go_wp2_with fail
 refine ri.mono ?_
 clear ri hc0
 rintro e w1 ⟨rfl, hd1, hk1⟩
 have hw1 := H.out.go hd1 hk1 (fun e => by have := HGG.out; omega)
 have HK1 := Lh hk1
 have HW1 := Lh hw1
 have hcw := hw1.cell.2.1
 have hfw := hw1.cell.2.2
 clear hd1 hk1 hw1
 by_cases hneg : n < 0
 ·
  have hd : decide (n < 0) = true := by simpa using hneg
  obtain ⟨HPUT, HK2⟩ := el_bad HW1 HK1 HGG
  have hcp := HPUT.out.cell.2.1
  have HE : Hid (elW wb n = true) := by show _ = _; unfold elW; simp; omega
  go_wp2_with fail
  generalize hw2 : w1.setCell ⟨gr, 1, none⟩ (.bool true) = w2 at *
  clear hw2
  go_loopw [6, 7] (fun v6 v7 wr => v6 = .slice none 0 0 ∧ v7 = .int .i64 0 ∧ wr = w2) (fun _ _ _ => 0)
  case atStart => exact ⟨rfl, rfl, rfl⟩
  case round =>
   obtain ⟨rfl, rfl, rfl⟩ := hrel
   go_wp2_with fail
   all_goals
    go_ret
    exact el_ret MbT.len HL HN HE HPUT HK2
 ·
  have hneg' : 0 ≤ n := by omega
  obtain ⟨N, rfl⟩ : ∃ N : Nat, n = N := ⟨n.toNat, by omega⟩
  clear hneg hneg' hnr
  by_cases hbig : 1024 < N
  ·
   obtain ⟨HPUT, HK2⟩ := el_bad HW1 HK1 HGG
   have hcp := HPUT.out.cell.2.1
   have HE : Hid (elW wb (N : Int) = true) := by show _ = _; unfold elW; simp; omega
   go_wp2_with fail
   generalize hw2 : w1.setCell ⟨gr, 1, none⟩ (.bool true) = w2 at *
   clear hw2
   go_loopw [6, 7] (fun v6 v7 wr => v6 = .slice none 0 0 ∧ v7 = .int .i64 0 ∧ wr = w2) (fun _ _ _ => 0)
   case atStart => exact ⟨rfl, rfl, rfl⟩
   case round =>
    obtain ⟨rfl, rfl, rfl⟩ := hrel
    go_wp2_with fail
    all_goals
     go_ret
     exact el_ret MbT.len HL HN HE HPUT HK2
  ·
   have HE : Hid (elW wb (N : Int) = wb) := by show _ = _; unfold elW; cases wb <;> simp <;> omega
   have HK2 : Hid (Kept (fun k => k = gp ∨ k = gr) w w1) := HK1.out.weaken (T := fun k => k = gp ∨ k = gr) (fun _ h => .inl h)
   cases wb with
   | true =>
    have HPUT := HW1
    have hcp := hcw
    obtain ⟨w2, hw2⟩ : ∃ w2, w2 = w1 := ⟨_, rfl⟩
    subst hw2
    clear hcw
    go_wp2_with fail
    go_loopw [6, 7] (fun v6 v7 wr => v6 = .slice none 0 0 ∧ v7 = .int .i64 0 ∧ wr = w2) (fun _ _ _ => 0)
    case atStart => exact ⟨rfl, rfl, rfl⟩
    case round =>
     obtain ⟨rfl, rfl, rfl⟩ := hrel
     go_wp2_with fail
     all_goals
      go_ret
      exact el_ret MbT.len HL HN HE HPUT HK2
   | false =>
    have HBIG := Lh hbig
    clear hcw hfw
    go_wp2_with fail
    go_loopw [6, 7] (fun v6 v7 wr => ∃ (k : Nat) (a : Option Addr) (n6 c6 : Nat), k ≤ N ∧ v7 = .int .i64 k ∧ v6 = .slice a n6 c6 ∧ OwnR MbT.vs 3 86 wr w.heap.size (.slice a n6 c6) (rRs rdMbT k s1).1 ∧ WR wr gr gp (rRs rdMbT k s1).2 false ∧ Kept (fun k => k = gp ∨ k = gr) w wr) (fun _ i _ => N - (intOf i).toNat)
    case atStart => exact ⟨0, none, 0, 0, Nat.zero_le _, rfl, rfl, OwnR.empty MbT.len _ _ _, HW1.out, HK2.out⟩
    case round =>
     obtain ⟨k, a, n6, c6, hk, rfl, rfl, ho, hw, hkp⟩ := hrel
     have hcw := hw.cell.2.1
     by_cases hlt : k < N
     ·
      have rd := rdc_mem wr gr gp (rRs rdMbT k s1).2 false hw (Nat.le_trans (rRs_left rdMbT_left k s1) HLEN.out)
      obtain ⟨c, hc⟩ : ∃ c, c = (rdMbT (rRs rdMbT k s1).2).1 := ⟨_, rfl⟩
      rw [← hc, show (rdMbT (rRs rdMbT k s1).2).2 = (rRs rdMbT (k + 1) s1).2 from rfl] at rd
      simp only [MbT.vs] at rd
      have HN1 : Hid ((rRs rdMbT (k + 1) s1).1 = (rRs rdMbT k s1).1 ++ [c]) := by rw [hc]; rfl
      have HO := Lh ho
      have HKP := Lh hkp
      have hlr := rRs_len rdMbT k s1
      have hle : ((rRs rdMbT k s1).1.length + [c].length) * 24 ≤ 140737488355328 := by have := HBIG.out; rw [hlr]; simp; omega
      clear hc ho hw hkp hlr
      go_wp2_with fail
      refine rd.mono ?_
      clear rd hcw
      rintro e w3 ⟨rfl, hw3, hk3⟩
      obtain ⟨hoA, hone, HWA, HKA⟩ := el_row c MbT.len HO HKP hw3 hk3 H
      have hbase := HKA.out.size
      clear hw3 hk3
      go_wp2_with (first
       | (at_builtin; refine wpList_append_rows (v := .slice a n6 c6) rfl (.tmp 34) (.tmp 37) 24 rfl (L := (rRs rdMbT k s1).1) (M := [c]) (base := w.heap.size) elem_mem rfl rfl hoA hone MbT.one hle (by decide) hbase ?_; intro a7 n7 c7 w7 Hn7 ho7 hg7 hat7 hb7)
       | fail)
      exact ⟨⟨k + 1, a7, n7, c7, by omega, by push_cast; rfl, rfl, by rw [HN1.out]; exact ho7, el_app HO HWA HKA hg7 H⟩, by simp [intOf]; omega⟩
     ·
      obtain rfl : k = N := by omega
      have HO := Lh ho
      have HW := Lh hw
      have HKP := Lh hkp
      clear ho hw hkp
      go_wp2_with fail
      go_ret
      have hE : elL rdMbT false s = rRs rdMbT k s1 := by rw [HL.out, HE.out]; simp
      exact ⟨_, _, _, rfl, by rw [hE]; exact HO.out, by rw [hE, ← HN.out, HE.out]; exact HW.out, HKP.out⟩
theorem rdins_any (w : World) (gr gp : Nat) (s : RS) (wb : Bool) (h : WR w gr gp s wb) (hlen : s.1.length ≤ 70368744177664) : Calls Tryz.prog 77 #[.pointer (some ⟨gr, 0, none⟩)] w fun e w' => e = .returned (.agg (ivs (rIs 12 s).1).toArray) ∧ WR w' gr gp (rIs 12 s).2 wb ∧ Kept (fun k => k = gp) w w' := by
 have hlt := h.lt
 have hpr := h.2.2
 have HH := Lh (⟨hlt, hpr⟩ : _ ∧ _)
 have HLEN := Lh hlen
 obtain ⟨g, hg⟩ : ∃ g, g = w.heap.size := ⟨_, rfl⟩
 have HG0 := Lh hg
 have nx0 := rd_in 88 12 6 h hlen (by decide) (by decide)
 clear hlt hpr h hlen
 clear hg
 go_in
 go_wp2_with fail
 refine nx0.mono ?_
 clear nx0
 rintro e w2 ⟨rfl, hw2, hc2, hk2⟩
 have HSZ1 : Hid (w.heap.size < w2.heap.size) := hc2.lt
 have nx1 := table_nx w2 gr gp w.heap.size s 6 6 (ivs (List.replicate 12 0)) _ wb hw2 hc2 (by simp [ivs]) (by have := HH.out; omega) (by have := HH.out; omega) (by omega) HLEN.out
 have hka1 := Lh hk2
 clear hw2 hc2 hk2
 go_wp2_with fail
 refine nx1.mono ?_
 clear nx1
 rintro e w3 ⟨rfl, hw3, hc3, hkk3⟩
 have hk3 := hka1.out.trans hkk3 (fun _ _ h => h)
 clear hkk3
 have HSZ2 : Hid (w.heap.size < w3.heap.size) := hc3.lt
 rw [splice_all (by simp [ivs, rIs_len])] at hc3
 have hl := rIs_len 12 s
 obtain ⟨L, hL⟩ : ∃ L, L = (rIs 12 s).1 := ⟨_, rfl⟩
 simp only [Nat.reduceAdd] at hc3 hw3
 rw [← hL] at hc3 hl
 have HG : Hid (w3.heap[w.heap.size]? = some (.cells (ivs L).toArray 88 (0, 0))) := hc3
 have HSZ : Hid ((Tryz.prog.info? 88).map (·.size) = some (ivs L).toArray.size) := by show _ = _; rw [ins_sz]; simp [ivs, hl]
 have HWF := Lh hw3
 have HKF := Lh hk3
 have HL := Lh hL
 clear hc3 hw3 hk3 hl hL
 go_wp2_with (first
  | (refine wpList_load_row rfl 88 (.tmp 2) rfl w.heap.size rfl 88 (ivs L).toArray (0, 0) _ HG.out Tryz.underlying88 rfl HSZ.out ?_)
  | (refine wpList_store_row rfl 88 (.tmp 2) (.tmp 16) rfl w.heap.size (ivs L).toArray rfl rfl 88 (ivs L).toArray HG.out HSZ.out rfl (ivs_one L) ?_)
  | fail)
 refine bodyPost_ret (results_cell_row rfl _ _ w.heap.size 88 (ivs L).toArray (0, 0) _ rfl (setRow_heap _ _ _ _ _ _ HG.out) Tryz.underlying88 rfl HSZ.out) rfl ?_
 have hkr : Kept (fun k => k = w.heap.size) w3 (w3.setRow w.heap.size (ivs L).toArray) := ⟨rfl, rfl, rfl, by simp [World.setRow], fun k _ hn => setRow_other _ _ _ _ hn⟩
 refine ⟨by rw [HL.out], HWF.out.go (HWF.out.2.1.kept hkr (fun k hk e => by have := HH.out; omega)) hkr (fun e => by have := HH.out; omega), ?_⟩
 exact ((HKF.out.trans hkr (fun i hi e => .inr e)).drop).weaken (fun _ h => h)
def rdInT (s : RS) : InT × RS := (⟨(rIs 12 s).1.getD 0 0, (rIs 12 s).1.getD 1 0, (rIs 12 s).1.getD 2 0, (rIs 12 s).1.getD 3 0, (rIs 12 s).1.getD 4 0, (rIs 12 s).1.getD 5 0, (rIs 12 s).1.getD 6 0, (rIs 12 s).1.getD 7 0, (rIs 12 s).1.getD 8 0, (rIs 12 s).1.getD 9 0, (rIs 12 s).1.getD 10 0, (rIs 12 s).1.getD 11 0⟩, (rIs 12 s).2)
theorem rdInT_vs (s : RS) : (ivs (rIs 12 s).1) = (rdInT s).1.vs := by
 have h := rIs_len 12 s
 unfold rdInT
 generalize (rIs 12 s).1 = L at h
 match L, h with
 | [a0, a1, a2, a3, a4, a5, a6, a7, a8, a9, a10, a11], _ => rfl
theorem rdInT_left (s : RS) : (rdInT s).2.1.length ≤ s.1.length := rIs_left 12 s
theorem rdc_ins (w : World) (gr gp : Nat) (s : RS) (wb : Bool) (h : WR w gr gp s wb) (hlen : s.1.length ≤ 70368744177664) : Calls Tryz.prog 77 #[.pointer (some ⟨gr, 0, none⟩)] w fun e w' => e = .returned (.agg (rdInT s).1.vs.toArray) ∧ WR w' gr gp (rdInT s).2 wb ∧ Kept (fun k => k = gp) w w' := by
 rw [← rdInT_vs]
 exact rdins_any w gr gp s wb h hlen
def ElInT (w : World) (gr gp : Nat) (s : RS) (wb : Bool) (e : Ending) (w' : World) : Prop := ∃ a n c, e = .returned (.slice a n c) ∧ OwnR InT.vs 12 88 w' w.heap.size (.slice a n c) (elL rdInT wb s).1 ∧ WR w' gr gp (elL rdInT wb s).2 (elW wb (rI s).1) ∧ Kept (fun k => k = gp ∨ k = gr) w w'
theorem elems_ins (w : World) (gr gp : Nat) (s : RS) (wb : Bool) (h : WR w gr gp s wb) (hlen : s.1.length ≤ 70368744177664) :
  Calls Tryz.prog 76 #[.pointer (some ⟨gr, 0, none⟩), .func (.func 77) #[.pointer (some ⟨gr, 0, none⟩)] #[]] w (ElInT w gr gp s wb) := by
 have hc0 := h.cell.1
 have ri := RInt_any w gp s h.2.1 hlen
 obtain ⟨n, hn⟩ : ∃ n, n = (rI s).1 := ⟨_, rfl⟩
 obtain ⟨s1, hs1⟩ : ∃ s1, s1 = (rI s).2 := ⟨_, rfl⟩
 rw [← hn, ← hs1] at ri
 have HL : Hid (elL rdInT wb s = if elW wb n = true then ([], s1) else rRs rdInT n.toNat s1) := by show _ = _; unfold elL; rw [← hn, ← hs1]
 have HN := Lh hn
 have HLEN : Hid (s1.1.length ≤ 70368744177664) := by show _ ≤ _; rw [hs1]; exact Nat.le_trans (rIs_left 1 s) hlen
 have H := Lh h
 have hgg : gp < gr := h.2.2
 have HGG := Lh hgg
 have hnr : -9223372036854775808 ≤ n ∧ n ≤ 9223372036854775807 := by rw [hn]; exact rI_range s
 clear hn hs1 h hlen hgg
 go_in
 go_wp2_with fail
 refine ri.mono ?_
 clear ri hc0
 rintro e w1 ⟨rfl, hd1, hk1⟩
 have hw1 := H.out.go hd1 hk1 (fun e => by have := HGG.out; omega)
 have HK1 := Lh hk1
 have HW1 := Lh hw1
 have hcw := hw1.cell.2.1
 have hfw := hw1.cell.2.2
 clear hd1 hk1 hw1
 by_cases hneg : n < 0
 ·
  have hd : decide (n < 0) = true := by simpa using hneg
  obtain ⟨HPUT, HK2⟩ := el_bad HW1 HK1 HGG
  have hcp := HPUT.out.cell.2.1
  have HE : Hid (elW wb n = true) := by show _ = _; unfold elW; simp; omega
  go_wp2_with fail
  generalize hw2 : w1.setCell ⟨gr, 1, none⟩ (.bool true) = w2 at *
  clear hw2
  go_loopw [6, 7] (fun v6 v7 wr => v6 = .slice none 0 0 ∧ v7 = .int .i64 0 ∧ wr = w2) (fun _ _ _ => 0)
  case atStart => exact ⟨rfl, rfl, rfl⟩
  case round =>
   obtain ⟨rfl, rfl, rfl⟩ := hrel
   go_wp2_with fail
   all_goals
    go_ret
    exact el_ret InT.len HL HN HE HPUT HK2
 ·
  have hneg' : 0 ≤ n := by omega
  obtain ⟨N, rfl⟩ : ∃ N : Nat, n = N := ⟨n.toNat, by omega⟩
  clear hneg hneg' hnr
  by_cases hbig : 1024 < N
  ·
   obtain ⟨HPUT, HK2⟩ := el_bad HW1 HK1 HGG
   have hcp := HPUT.out.cell.2.1
   have HE : Hid (elW wb (N : Int) = true) := by show _ = _; unfold elW; simp; omega
   go_wp2_with fail
   generalize hw2 : w1.setCell ⟨gr, 1, none⟩ (.bool true) = w2 at *
   clear hw2
   go_loopw [6, 7] (fun v6 v7 wr => v6 = .slice none 0 0 ∧ v7 = .int .i64 0 ∧ wr = w2) (fun _ _ _ => 0)
   case atStart => exact ⟨rfl, rfl, rfl⟩
   case round =>
    obtain ⟨rfl, rfl, rfl⟩ := hrel
    go_wp2_with fail
    all_goals
     go_ret
     exact el_ret InT.len HL HN HE HPUT HK2
  ·
   have HE : Hid (elW wb (N : Int) = wb) := by show _ = _; unfold elW; cases wb <;> simp <;> omega
   have HK2 : Hid (Kept (fun k => k = gp ∨ k = gr) w w1) := HK1.out.weaken (T := fun k => k = gp ∨ k = gr) (fun _ h => .inl h)
   cases wb with
   | true =>
    have HPUT := HW1
    have hcp := hcw
    obtain ⟨w2, hw2⟩ : ∃ w2, w2 = w1 := ⟨_, rfl⟩
    subst hw2
    clear hcw
    go_wp2_with fail
    go_loopw [6, 7] (fun v6 v7 wr => v6 = .slice none 0 0 ∧ v7 = .int .i64 0 ∧ wr = w2) (fun _ _ _ => 0)
    case atStart => exact ⟨rfl, rfl, rfl⟩
    case round =>
     obtain ⟨rfl, rfl, rfl⟩ := hrel
     go_wp2_with fail
     all_goals
      go_ret
      exact el_ret InT.len HL HN HE HPUT HK2
   | false =>
    have HBIG := Lh hbig
    clear hcw hfw
    go_wp2_with fail
    go_loopw [6, 7] (fun v6 v7 wr => ∃ (k : Nat) (a : Option Addr) (n6 c6 : Nat), k ≤ N ∧ v7 = .int .i64 k ∧ v6 = .slice a n6 c6 ∧ OwnR InT.vs 12 88 wr w.heap.size (.slice a n6 c6) (rRs rdInT k s1).1 ∧ WR wr gr gp (rRs rdInT k s1).2 false ∧ Kept (fun k => k = gp ∨ k = gr) w wr) (fun _ i _ => N - (intOf i).toNat)
    case atStart => exact ⟨0, none, 0, 0, Nat.zero_le _, rfl, rfl, OwnR.empty InT.len _ _ _, HW1.out, HK2.out⟩
    case round =>
     obtain ⟨k, a, n6, c6, hk, rfl, rfl, ho, hw, hkp⟩ := hrel
     have hcw := hw.cell.2.1
     by_cases hlt : k < N
     ·
      have rd := rdc_ins wr gr gp (rRs rdInT k s1).2 false hw (Nat.le_trans (rRs_left rdInT_left k s1) HLEN.out)
      obtain ⟨c, hc⟩ : ∃ c, c = (rdInT (rRs rdInT k s1).2).1 := ⟨_, rfl⟩
      rw [← hc, show (rdInT (rRs rdInT k s1).2).2 = (rRs rdInT (k + 1) s1).2 from rfl] at rd
      simp only [InT.vs] at rd
      have HN1 : Hid ((rRs rdInT (k + 1) s1).1 = (rRs rdInT k s1).1 ++ [c]) := by rw [hc]; rfl
      have HO := Lh ho
      have HKP := Lh hkp
      have hlr := rRs_len rdInT k s1
      have hle : ((rRs rdInT k s1).1.length + [c].length) * 96 ≤ 140737488355328 := by have := HBIG.out; rw [hlr]; simp; omega
      clear hc ho hw hkp hlr
      go_wp2_with fail
      refine rd.mono ?_
      clear rd hcw
      rintro e w3 ⟨rfl, hw3, hk3⟩
      obtain ⟨hoA, hone, HWA, HKA⟩ := el_row c InT.len HO HKP hw3 hk3 H
      have hbase := HKA.out.size
      clear hw3 hk3
      go_wp2_with (first
       | (at_builtin; refine wpList_append_rows (v := .slice a n6 c6) rfl (.tmp 34) (.tmp 37) 25 rfl (L := (rRs rdInT k s1).1) (M := [c]) (base := w.heap.size) elem_ins rfl rfl hoA hone InT.one hle (by decide) hbase ?_; intro a7 n7 c7 w7 Hn7 ho7 hg7 hat7 hb7)
       | fail)
      exact ⟨⟨k + 1, a7, n7, c7, by omega, by push_cast; rfl, rfl, by rw [HN1.out]; exact ho7, el_app HO HWA HKA hg7 H⟩, by simp [intOf]; omega⟩
     ·
      obtain rfl : k = N := by omega
      have HO := Lh ho
      have HW := Lh hw
      have HKP := Lh hkp
      clear ho hw hkp
      go_wp2_with fail
      go_ret
      have hE : elL rdInT false s = rRs rdInT k s1 := by rw [HL.out, HE.out]; simp
      exact ⟨_, _, _, rfl, by rw [hE]; exact HO.out, by rw [hE, ← HN.out, HE.out]; exact HW.out, HKP.out⟩
theorem rdass_any (w : World) (gr gp : Nat) (s : RS) (wb : Bool) (h : WR w gr gp s wb) (hlen : s.1.length ≤ 70368744177664) : Calls Tryz.prog 79 #[.pointer (some ⟨gr, 0, none⟩)] w fun e w' => e = .returned (.agg (ivs (rIs 4 s).1).toArray) ∧ WR w' gr gp (rIs 4 s).2 wb ∧ Kept (fun k => k = gp) w w' := by
 have hlt := h.lt
 have hpr := h.2.2
 have HH := Lh (⟨hlt, hpr⟩ : _ ∧ _)
 have HLEN := Lh hlen
 obtain ⟨g, hg⟩ : ∃ g, g = w.heap.size := ⟨_, rfl⟩
 have HG0 := Lh hg
 have nx0 := rd_in 91 4 4 h hlen (by decide) (by decide)
 clear hlt hpr h hlen
 clear hg
 go_in
 go_wp2_with fail
 refine nx0.mono ?_
 clear nx0
 rintro e w2 ⟨rfl, hw2, hc2, hk2⟩
 have HSZ1 : Hid (w.heap.size < w2.heap.size) := hc2.lt
 rw [splice_all (by simp [ivs, rIs_len])] at hc2
 have hl := rIs_len 4 s
 obtain ⟨L, hL⟩ : ∃ L, L = (rIs 4 s).1 := ⟨_, rfl⟩
 simp only [Nat.reduceAdd] at hc2 hw2
 rw [← hL] at hc2 hl
 have HG : Hid (w2.heap[w.heap.size]? = some (.cells (ivs L).toArray 91 (0, 0))) := hc2
 have HSZ : Hid ((Tryz.prog.info? 91).map (·.size) = some (ivs L).toArray.size) := by show _ = _; rw [ass_sz]; simp [ivs, hl]
 have HWF := Lh hw2
 have HKF := Lh hk2
 have HL := Lh hL
 clear hc2 hw2 hk2 hl hL
 go_wp2_with (first
  | (refine wpList_load_row rfl 91 (.tmp 2) rfl w.heap.size rfl 91 (ivs L).toArray (0, 0) _ HG.out Tryz.underlying91 rfl HSZ.out ?_)
  | (refine wpList_store_row rfl 91 (.tmp 2) (.tmp 10) rfl w.heap.size (ivs L).toArray rfl rfl 91 (ivs L).toArray HG.out HSZ.out rfl (ivs_one L) ?_)
  | fail)
 refine bodyPost_ret (results_cell_row rfl _ _ w.heap.size 91 (ivs L).toArray (0, 0) _ rfl (setRow_heap _ _ _ _ _ _ HG.out) Tryz.underlying91 rfl HSZ.out) rfl ?_
 have hkr : Kept (fun k => k = w.heap.size) w2 (w2.setRow w.heap.size (ivs L).toArray) := ⟨rfl, rfl, rfl, by simp [World.setRow], fun k _ hn => setRow_other _ _ _ _ hn⟩
 refine ⟨by rw [HL.out], HWF.out.go (HWF.out.2.1.kept hkr (fun k hk e => by have := HH.out; omega)) hkr (fun e => by have := HH.out; omega), ?_⟩
 exact ((HKF.out.trans hkr (fun i hi e => .inr e)).drop).weaken (fun _ h => h)
def rdAsT (s : RS) : AsT × RS := (⟨(rIs 4 s).1.getD 0 0, (rIs 4 s).1.getD 1 0, (rIs 4 s).1.getD 2 0, (rIs 4 s).1.getD 3 0⟩, (rIs 4 s).2)
theorem rdAsT_vs (s : RS) : (ivs (rIs 4 s).1) = (rdAsT s).1.vs := by
 have h := rIs_len 4 s
 unfold rdAsT
 generalize (rIs 4 s).1 = L at h
 match L, h with
 | [a0, a1, a2, a3], _ => rfl
theorem rdAsT_left (s : RS) : (rdAsT s).2.1.length ≤ s.1.length := rIs_left 4 s
theorem rdc_ass (w : World) (gr gp : Nat) (s : RS) (wb : Bool) (h : WR w gr gp s wb) (hlen : s.1.length ≤ 70368744177664) : Calls Tryz.prog 79 #[.pointer (some ⟨gr, 0, none⟩)] w fun e w' => e = .returned (.agg (rdAsT s).1.vs.toArray) ∧ WR w' gr gp (rdAsT s).2 wb ∧ Kept (fun k => k = gp) w w' := by
 rw [← rdAsT_vs]
 exact rdass_any w gr gp s wb h hlen
def ElAsT (w : World) (gr gp : Nat) (s : RS) (wb : Bool) (e : Ending) (w' : World) : Prop := ∃ a n c, e = .returned (.slice a n c) ∧ OwnR AsT.vs 4 91 w' w.heap.size (.slice a n c) (elL rdAsT wb s).1 ∧ WR w' gr gp (elL rdAsT wb s).2 (elW wb (rI s).1) ∧ Kept (fun k => k = gp ∨ k = gr) w w'
theorem elems_ass (w : World) (gr gp : Nat) (s : RS) (wb : Bool) (h : WR w gr gp s wb) (hlen : s.1.length ≤ 70368744177664) :
  Calls Tryz.prog 78 #[.pointer (some ⟨gr, 0, none⟩), .func (.func 79) #[.pointer (some ⟨gr, 0, none⟩)] #[]] w (ElAsT w gr gp s wb) := by
 have hc0 := h.cell.1
 have ri := RInt_any w gp s h.2.1 hlen
 obtain ⟨n, hn⟩ : ∃ n, n = (rI s).1 := ⟨_, rfl⟩
 obtain ⟨s1, hs1⟩ : ∃ s1, s1 = (rI s).2 := ⟨_, rfl⟩
 rw [← hn, ← hs1] at ri
 have HL : Hid (elL rdAsT wb s = if elW wb n = true then ([], s1) else rRs rdAsT n.toNat s1) := by show _ = _; unfold elL; rw [← hn, ← hs1]
 have HN := Lh hn
 have HLEN : Hid (s1.1.length ≤ 70368744177664) := by show _ ≤ _; rw [hs1]; exact Nat.le_trans (rIs_left 1 s) hlen
 have H := Lh h
 have hgg : gp < gr := h.2.2
 have HGG := Lh hgg
 have hnr : -9223372036854775808 ≤ n ∧ n ≤ 9223372036854775807 := by rw [hn]; exact rI_range s
 clear hn hs1 h hlen hgg
 go_in
 go_wp2_with fail
 refine ri.mono ?_
 clear ri hc0
 rintro e w1 ⟨rfl, hd1, hk1⟩
 have hw1 := H.out.go hd1 hk1 (fun e => by have := HGG.out; omega)
 have HK1 := Lh hk1
 have HW1 := Lh hw1
 have hcw := hw1.cell.2.1
 have hfw := hw1.cell.2.2
 clear hd1 hk1 hw1
 by_cases hneg : n < 0
 ·
  have hd : decide (n < 0) = true := by simpa using hneg
  obtain ⟨HPUT, HK2⟩ := el_bad HW1 HK1 HGG
  have hcp := HPUT.out.cell.2.1
  have HE : Hid (elW wb n = true) := by show _ = _; unfold elW; simp; omega
  go_wp2_with fail
  generalize hw2 : w1.setCell ⟨gr, 1, none⟩ (.bool true) = w2 at *
  clear hw2
  go_loopw [6, 7] (fun v6 v7 wr => v6 = .slice none 0 0 ∧ v7 = .int .i64 0 ∧ wr = w2) (fun _ _ _ => 0)
  case atStart => exact ⟨rfl, rfl, rfl⟩
  case round =>
   obtain ⟨rfl, rfl, rfl⟩ := hrel
   go_wp2_with fail
   all_goals
    go_ret
    exact el_ret AsT.len HL HN HE HPUT HK2
 ·
  have hneg' : 0 ≤ n := by omega
  obtain ⟨N, rfl⟩ : ∃ N : Nat, n = N := ⟨n.toNat, by omega⟩
  clear hneg hneg' hnr
  by_cases hbig : 1024 < N
  ·
   obtain ⟨HPUT, HK2⟩ := el_bad HW1 HK1 HGG
   have hcp := HPUT.out.cell.2.1
   have HE : Hid (elW wb (N : Int) = true) := by show _ = _; unfold elW; simp; omega
   go_wp2_with fail
   generalize hw2 : w1.setCell ⟨gr, 1, none⟩ (.bool true) = w2 at *
   clear hw2
   go_loopw [6, 7] (fun v6 v7 wr => v6 = .slice none 0 0 ∧ v7 = .int .i64 0 ∧ wr = w2) (fun _ _ _ => 0)
   case atStart => exact ⟨rfl, rfl, rfl⟩
   case round =>
    obtain ⟨rfl, rfl, rfl⟩ := hrel
    go_wp2_with fail
    all_goals
     go_ret
     exact el_ret AsT.len HL HN HE HPUT HK2
  ·
   have HE : Hid (elW wb (N : Int) = wb) := by show _ = _; unfold elW; cases wb <;> simp <;> omega
   have HK2 : Hid (Kept (fun k => k = gp ∨ k = gr) w w1) := HK1.out.weaken (T := fun k => k = gp ∨ k = gr) (fun _ h => .inl h)
   cases wb with
   | true =>
    have HPUT := HW1
    have hcp := hcw
    obtain ⟨w2, hw2⟩ : ∃ w2, w2 = w1 := ⟨_, rfl⟩
    subst hw2
    clear hcw
    go_wp2_with fail
    go_loopw [6, 7] (fun v6 v7 wr => v6 = .slice none 0 0 ∧ v7 = .int .i64 0 ∧ wr = w2) (fun _ _ _ => 0)
    case atStart => exact ⟨rfl, rfl, rfl⟩
    case round =>
     obtain ⟨rfl, rfl, rfl⟩ := hrel
     go_wp2_with fail
     all_goals
      go_ret
      exact el_ret AsT.len HL HN HE HPUT HK2
   | false =>
    have HBIG := Lh hbig
    clear hcw hfw
    go_wp2_with fail
    go_loopw [6, 7] (fun v6 v7 wr => ∃ (k : Nat) (a : Option Addr) (n6 c6 : Nat), k ≤ N ∧ v7 = .int .i64 k ∧ v6 = .slice a n6 c6 ∧ OwnR AsT.vs 4 91 wr w.heap.size (.slice a n6 c6) (rRs rdAsT k s1).1 ∧ WR wr gr gp (rRs rdAsT k s1).2 false ∧ Kept (fun k => k = gp ∨ k = gr) w wr) (fun _ i _ => N - (intOf i).toNat)
    case atStart => exact ⟨0, none, 0, 0, Nat.zero_le _, rfl, rfl, OwnR.empty AsT.len _ _ _, HW1.out, HK2.out⟩
    case round =>
     obtain ⟨k, a, n6, c6, hk, rfl, rfl, ho, hw, hkp⟩ := hrel
     have hcw := hw.cell.2.1
     by_cases hlt : k < N
     ·
      have rd := rdc_ass wr gr gp (rRs rdAsT k s1).2 false hw (Nat.le_trans (rRs_left rdAsT_left k s1) HLEN.out)
      obtain ⟨c, hc⟩ : ∃ c, c = (rdAsT (rRs rdAsT k s1).2).1 := ⟨_, rfl⟩
      rw [← hc, show (rdAsT (rRs rdAsT k s1).2).2 = (rRs rdAsT (k + 1) s1).2 from rfl] at rd
      simp only [AsT.vs] at rd
      have HN1 : Hid ((rRs rdAsT (k + 1) s1).1 = (rRs rdAsT k s1).1 ++ [c]) := by rw [hc]; rfl
      have HO := Lh ho
      have HKP := Lh hkp
      have hlr := rRs_len rdAsT k s1
      have hle : ((rRs rdAsT k s1).1.length + [c].length) * 32 ≤ 140737488355328 := by have := HBIG.out; rw [hlr]; simp; omega
      clear hc ho hw hkp hlr
      go_wp2_with fail
      refine rd.mono ?_
      clear rd hcw
      rintro e w3 ⟨rfl, hw3, hk3⟩
      obtain ⟨hoA, hone, HWA, HKA⟩ := el_row c AsT.len HO HKP hw3 hk3 H
      have hbase := HKA.out.size
      clear hw3 hk3
      go_wp2_with (first
       | (at_builtin; refine wpList_append_rows (v := .slice a n6 c6) rfl (.tmp 34) (.tmp 37) 26 rfl (L := (rRs rdAsT k s1).1) (M := [c]) (base := w.heap.size) elem_ass rfl rfl hoA hone AsT.one hle (by decide) hbase ?_; intro a7 n7 c7 w7 Hn7 ho7 hg7 hat7 hb7)
       | fail)
      exact ⟨⟨k + 1, a7, n7, c7, by omega, by push_cast; rfl, rfl, by rw [HN1.out]; exact ho7, el_app HO HWA HKA hg7 H⟩, by simp [intOf]; omega⟩
     ·
      obtain rfl : k = N := by omega
      have HO := Lh ho
      have HW := Lh hw
      have HKP := Lh hkp
      clear ho hw hkp
      go_wp2_with fail
      go_ret
      have hE : elL rdAsT false s = rRs rdAsT k s1 := by rw [HL.out, HE.out]; simp
      exact ⟨_, _, _, rfl, by rw [hE]; exact HO.out, by rw [hE, ← HN.out, HE.out]; exact HW.out, HKP.out⟩
def rdTrT (s : RS) : TrT × RS := (⟨(rIs 6 s).1.getD 0 0, (rIs 6 s).1.getD 1 0, (rIs 6 s).1.getD 2 0, (rIs 6 s).1.getD 3 0, (rIs 6 s).1.getD 4 0, (rIs 6 s).1.getD 5 0, (rM (rIs 6 s).2).1⟩, (rM (rIs 6 s).2).2)
theorem rdTrT_left (s : RS) : (rdTrT s).2.1.length ≤ s.1.length := Nat.le_trans (rM_len _) (rIs_left 6 s)
theorem rdc_trd (w : World) (gr gp : Nat) (s : RS) (wb : Bool) (h : WR w gr gp s wb) (hlen : s.1.length ≤ 70368744177664) : Calls Tryz.prog 81 #[.pointer (some ⟨gr, 0, none⟩)] w fun e w' => e = .returned (.agg (rdTrT s).1.vs.toArray) ∧ WR w' gr gp (rdTrT s).2 wb ∧ Kept (fun k => k = gp) w w' := by
 have hlt := h.lt
 have hpr := h.2.2
 have hb1 : Below w.heap.size w (w.alloc (.cells #[(0:Int), (0:Int), (0:Int), (0:Int), (0:Int), (0:Int), .bool false] 93)) := Bn
 have hc : HT (w.alloc (.cells #[.int .i64 0, .int .i64 0, .int .i64 0, .int .i64 0, .int .i64 0, .int .i64 0, .bool false] 93)) w.heap.size 93 (splice [.int .i64 0, .int .i64 0, .int .i64 0, .int .i64 0, .int .i64 0, .int .i64 0, .bool false] 0 (ivs (rIs 0 s).1)) := by
  have := HT.new (w := w) (t := 93) (C := [.int .i64 0, .int .i64 0, .int .i64 0, .int .i64 0, .int .i64 0, .int .i64 0, .bool false])
  simpa [splice, rIs] using this
 have h2 : WR (w.alloc (.cells #[(0:Int), (0:Int), (0:Int), (0:Int), (0:Int), (0:Int), .bool false] 93)) gr gp (rIs 0 s).2 wb := h.below hb1
 have hk : Kept (fun k => k = gp ∨ k = w.heap.size) w (w.alloc (.cells #[(0:Int), (0:Int), (0:Int), (0:Int), (0:Int), (0:Int), .bool false] 93)) := (Kept.of_below hb1).weaken (fun _ h => h.elim)
 have HH := Lh (⟨hlt, hpr⟩ : _ ∧ _)
 have HLEN := Lh hlen
 have HSZ0 : Hid (w.heap.size < (w.alloc (.cells #[(0:Int), (0:Int), (0:Int), (0:Int), (0:Int), (0:Int), .bool false] 93)).heap.size) := by show _ < _; simp
 obtain ⟨g, hg⟩ : ∃ g, g = w.heap.size := ⟨_, rfl⟩
 have HG0 := Lh hg
 clear hlt hpr hb1 h hlen
 have hbx0 : Below (w.alloc (.cells #[(0:Int), (0:Int), (0:Int), (0:Int), (0:Int), (0:Int), .bool false] 93)).heap.size (w.alloc (.cells #[(0:Int), (0:Int), (0:Int), (0:Int), (0:Int), (0:Int), .bool false] 93)) ((w.alloc (.cells #[(0:Int), (0:Int), (0:Int), (0:Int), (0:Int), (0:Int), .bool false] 93)).alloc (.cells #[.pointer (some ⟨w.heap.size, 0, none⟩), .pointer (some ⟨w.heap.size, 1, none⟩), .pointer (some ⟨w.heap.size, 2, none⟩), .pointer (some ⟨w.heap.size, 3, none⟩), .pointer (some ⟨w.heap.size, 4, none⟩), .pointer (some ⟨w.heap.size, 5, none⟩)] 165)) := Bn
 have hs0 : ∀ i, i < 6 → ((w.alloc (.cells #[(0:Int), (0:Int), (0:Int), (0:Int), (0:Int), (0:Int), .bool false] 93)).alloc (.cells #[.pointer (some ⟨w.heap.size, 0, none⟩), .pointer (some ⟨w.heap.size, 1, none⟩), .pointer (some ⟨w.heap.size, 2, none⟩), .pointer (some ⟨w.heap.size, 3, none⟩), .pointer (some ⟨w.heap.size, 4, none⟩), .pointer (some ⟨w.heap.size, 5, none⟩)] 165)).cell? ⟨(w.alloc (.cells #[(0:Int), (0:Int), (0:Int), (0:Int), (0:Int), (0:Int), .bool false] 93)).heap.size, i, none⟩ = some (.pointer (some ⟨w.heap.size, 0 + i, none⟩)) := by
  intro i hi
  have hh : ((w.alloc (.cells #[(0:Int), (0:Int), (0:Int), (0:Int), (0:Int), (0:Int), .bool false] 93)).alloc (.cells #[.pointer (some ⟨w.heap.size, 0, none⟩), .pointer (some ⟨w.heap.size, 1, none⟩), .pointer (some ⟨w.heap.size, 2, none⟩), .pointer (some ⟨w.heap.size, 3, none⟩), .pointer (some ⟨w.heap.size, 4, none⟩), .pointer (some ⟨w.heap.size, 5, none⟩)] 165)).heap[(w.alloc (.cells #[(0:Int), (0:Int), (0:Int), (0:Int), (0:Int), (0:Int), .bool false] 93)).heap.size]? = some (.cells #[.pointer (some ⟨w.heap.size, 0, none⟩), .pointer (some ⟨w.heap.size, 1, none⟩), .pointer (some ⟨w.heap.size, 2, none⟩), .pointer (some ⟨w.heap.size, 3, none⟩), .pointer (some ⟨w.heap.size, 4, none⟩), .pointer (some ⟨w.heap.size, 5, none⟩)] 165) := heap_alloc_new _ _
  unfold World.cell?
  rw [hh]
  rcases i with _ | _ | _ | _ | _ | _ | i
  all_goals first | rfl | omega
 have nx0 := into_nx ((w.alloc (.cells #[(0:Int), (0:Int), (0:Int), (0:Int), (0:Int), (0:Int), .bool false] 93)).alloc (.cells #[.pointer (some ⟨w.heap.size, 0, none⟩), .pointer (some ⟨w.heap.size, 1, none⟩), .pointer (some ⟨w.heap.size, 2, none⟩), .pointer (some ⟨w.heap.size, 3, none⟩), .pointer (some ⟨w.heap.size, 4, none⟩), .pointer (some ⟨w.heap.size, 5, none⟩)] 165)) gr gp w.heap.size (w.alloc (.cells #[(0:Int), (0:Int), (0:Int), (0:Int), (0:Int), (0:Int), .bool false] 93)).heap.size s 0 6 [(0:Int), (0:Int), (0:Int), (0:Int), (0:Int), (0:Int), .bool false] _ wb (h2.below hbx0) (hc.below hbx0) hs0 (by simp) (by have := HH.out; omega) (by have := HH.out; omega) (by have := HSZ0.out; omega) (by omega) HLEN.out
 have hka0 := Lh (hk.alloc (.cells #[.pointer (some ⟨w.heap.size, 0, none⟩), .pointer (some ⟨w.heap.size, 1, none⟩), .pointer (some ⟨w.heap.size, 2, none⟩), .pointer (some ⟨w.heap.size, 3, none⟩), .pointer (some ⟨w.heap.size, 4, none⟩), .pointer (some ⟨w.heap.size, 5, none⟩)] 165))
 clear hbx0 hs0 h2 hc hk
 rw [show (w.alloc (.cells #[(0:Int), (0:Int), (0:Int), (0:Int), (0:Int), (0:Int), .bool false] 93)).heap.size = w.heap.size + 1 by simp] at nx0
 clear hg
 go_in
 go_wp2_with fail
 refine nx0.mono ?_
 clear nx0
 rintro e w2 ⟨rfl, hw2, hc2, hkk2⟩
 have hk2 := hka0.out.trans hkk2 (fun _ _ h => h)
 clear hkk2
 have HSZ1 : Hid (w.heap.size < w2.heap.size) := hc2.lt
 simp only [Nat.reduceAdd] at hc2 hw2
 have hl := rIs_len 6 s
 obtain ⟨s6, hs6⟩ : ∃ x, x = (rIs 6 s).2 := ⟨_, rfl⟩
 obtain ⟨y0, y1, y2, y3, y4, y5, hy⟩ : ∃ y0 y1 y2 y3 y4 y5, (rIs 6 s).1 = [y0, y1, y2, y3, y4, y5] := by
  generalize (rIs 6 s).1 = L at hl
  match L, hl with
  | [a, b, c, d, e, f], _ => exact ⟨a, b, c, d, e, f, rfl⟩
 rw [hy] at hc2
 rw [← hs6] at hw2
 have hc3 : HT w2 w.heap.size 93 [y0, y1, y2, y3, y4, y5, .bool false] := hc2
 have rm := RMark_any w2 gp s6 hw2.2.1
 obtain ⟨b, hb⟩ : ∃ b, b = (rM s6).1 := ⟨_, rfl⟩
 obtain ⟨s7, hs7⟩ : ∃ x, x = (rM s6).2 := ⟨_, rfl⟩
 rw [← hb, ← hs7] at rm
 have HR : Hid ((rdTrT s).1.vs = [.int .i64 y0, .int .i64 y1, .int .i64 y2, .int .i64 y3, .int .i64 y4, .int .i64 y5, .bool b] ∧ (rdTrT s).2 = s7) := by
  show _ ∧ _
  unfold rdTrT TrT.vs
  rw [hy, ← hs6, ← hb, ← hs7]
  exact ⟨rfl, rfl⟩
 have hcr := hw2.cell.1
 have HW2 := Lh hw2
 have HC3 := Lh hc3
 have HK2 := Lh hk2
 clear hc2 hl hs6 hy hb hs7 hw2 hc3 hk2
 go_wp2_with fail
 refine rm.mono ?_
 clear rm hcr
 rintro e w3 ⟨rfl, hd3, hk3⟩
 have hw3 := HW2.out.go hd3 hk3 (fun e => by have := HH.out; omega)
 have hc4 := HC3.out.keptH hk3 (fun e => by have := HH.out; omega)
 have hcell := hc4.cell (j := 6) rfl
 have hfr := hc4.frozen 6
 have hw5 := hw3.set 6 (.bool b) HH.out.1
 have hc5 : HT (w3.setCell ⟨w.heap.size, 6, none⟩ (.bool b)) w.heap.size 93 [y0, y1, y2, y3, y4, y5, .bool b] := hc4.put' 6 _ rfl
 have hk5 : Kept (fun k => k = gp ∨ k = w.heap.size) w (w3.setCell ⟨w.heap.size, 6, none⟩ (.bool b)) := (HK2.out.trans hk3 (fun _ _ h => .inl h)).setCell _ _ (.inr rfl)
 have HG : Hid ((w3.setCell ⟨w.heap.size, 6, none⟩ (.bool b)).heap[w.heap.size]? = some (.cells #[y0, y1, y2, y3, y4, y5, .bool b] 93 (0, 0))) := hc5
 have HSZ : Hid ((Tryz.prog.info? 93).map (·.size) = some (#[y0, y1, y2, y3, y4, y5, .bool b] : Array Value).size) := by show _ = _; rw [trd_sz]; rfl
 have HONE : Hid ((#[y0, y1, y2, y3, y4, y5, .bool b] : Array Value).all (·.oneCell') = true) := by show _ = true; simp [Value.oneCell']
 have HWF := Lh hw5
 have HKF := Lh hk5
 clear hd3 hk3 hw3 hc4 hw5 hc5 hk5
 go_wp2_with (first
  | (refine wpList_load_row rfl 93 (.tmp 2) rfl w.heap.size rfl 93 #[y0, y1, y2, y3, y4, y5, .bool b] (0, 0) _ HG.out Tryz.underlying93 rfl HSZ.out ?_)
  | (refine wpList_store_row rfl 93 (.tmp 2) (.tmp 18) rfl w.heap.size #[y0, y1, y2, y3, y4, y5, .bool b] rfl rfl 93 #[y0, y1, y2, y3, y4, y5, .bool b] HG.out HSZ.out rfl HONE.out ?_)
  | fail)
 refine bodyPost_ret (results_cell_row rfl _ _ w.heap.size 93 #[y0, y1, y2, y3, y4, y5, .bool b] (0, 0) _ rfl (setRow_heap _ _ _ _ _ _ HG.out) Tryz.underlying93 rfl HSZ.out) rfl ?_
 generalize w3.setCell ⟨w.heap.size, 6, none⟩ (.bool b) = w9 at *
 have hkr : Kept (fun k => k = w.heap.size) w9 (w9.setRow w.heap.size #[y0, y1, y2, y3, y4, y5, .bool b]) := ⟨rfl, rfl, rfl, by simp [World.setRow], fun k _ hn => setRow_other _ _ _ _ hn⟩
 refine ⟨by rw [HR.out.1], by rw [HR.out.2]; exact HWF.out.go (HWF.out.2.1.kept hkr (fun k hk e => by have := HH.out; omega)) hkr (fun e => by have := HH.out; omega), ?_⟩
 exact ((HKF.out.trans hkr (fun i hi e => .inr e)).drop).weaken (fun _ h => h)
def ElTrT (w : World) (gr gp : Nat) (s : RS) (wb : Bool) (e : Ending) (w' : World) : Prop := ∃ a n c, e = .returned (.slice a n c) ∧ OwnR TrT.vs 7 93 w' w.heap.size (.slice a n c) (elL rdTrT wb s).1 ∧ WR w' gr gp (elL rdTrT wb s).2 (elW wb (rI s).1) ∧ Kept (fun k => k = gp ∨ k = gr) w w'
theorem elems_trd (w : World) (gr gp : Nat) (s : RS) (wb : Bool) (h : WR w gr gp s wb) (hlen : s.1.length ≤ 70368744177664) :
  Calls Tryz.prog 80 #[.pointer (some ⟨gr, 0, none⟩), .func (.func 81) #[.pointer (some ⟨gr, 0, none⟩)] #[]] w (ElTrT w gr gp s wb) := by
 have hc0 := h.cell.1
 have ri := RInt_any w gp s h.2.1 hlen
 obtain ⟨n, hn⟩ : ∃ n, n = (rI s).1 := ⟨_, rfl⟩
 obtain ⟨s1, hs1⟩ : ∃ s1, s1 = (rI s).2 := ⟨_, rfl⟩
 rw [← hn, ← hs1] at ri
 have HL : Hid (elL rdTrT wb s = if elW wb n = true then ([], s1) else rRs rdTrT n.toNat s1) := by show _ = _; unfold elL; rw [← hn, ← hs1]
 have HN := Lh hn
 have HLEN : Hid (s1.1.length ≤ 70368744177664) := by show _ ≤ _; rw [hs1]; exact Nat.le_trans (rIs_left 1 s) hlen
 have H := Lh h
 have hgg : gp < gr := h.2.2
 have HGG := Lh hgg
 have hnr : -9223372036854775808 ≤ n ∧ n ≤ 9223372036854775807 := by rw [hn]; exact rI_range s
 clear hn hs1 h hlen hgg
 go_in
 go_wp2_with fail
 refine ri.mono ?_
 clear ri hc0
 rintro e w1 ⟨rfl, hd1, hk1⟩
 have hw1 := H.out.go hd1 hk1 (fun e => by have := HGG.out; omega)
 have HK1 := Lh hk1
 have HW1 := Lh hw1
 have hcw := hw1.cell.2.1
 have hfw := hw1.cell.2.2
 clear hd1 hk1 hw1
 by_cases hneg : n < 0
 ·
  have hd : decide (n < 0) = true := by simpa using hneg
  obtain ⟨HPUT, HK2⟩ := el_bad HW1 HK1 HGG
  have hcp := HPUT.out.cell.2.1
  have HE : Hid (elW wb n = true) := by show _ = _; unfold elW; simp; omega
  go_wp2_with fail
  generalize hw2 : w1.setCell ⟨gr, 1, none⟩ (.bool true) = w2 at *
  clear hw2
  go_loopw [6, 7] (fun v6 v7 wr => v6 = .slice none 0 0 ∧ v7 = .int .i64 0 ∧ wr = w2) (fun _ _ _ => 0)
  case atStart => exact ⟨rfl, rfl, rfl⟩
  case round =>
   obtain ⟨rfl, rfl, rfl⟩ := hrel
   go_wp2_with fail
   all_goals
    go_ret
    exact el_ret TrT.len HL HN HE HPUT HK2
 ·
  have hneg' : 0 ≤ n := by omega
  obtain ⟨N, rfl⟩ : ∃ N : Nat, n = N := ⟨n.toNat, by omega⟩
  clear hneg hneg' hnr
  by_cases hbig : 1024 < N
  ·
   obtain ⟨HPUT, HK2⟩ := el_bad HW1 HK1 HGG
   have hcp := HPUT.out.cell.2.1
   have HE : Hid (elW wb (N : Int) = true) := by show _ = _; unfold elW; simp; omega
   go_wp2_with fail
   generalize hw2 : w1.setCell ⟨gr, 1, none⟩ (.bool true) = w2 at *
   clear hw2
   go_loopw [6, 7] (fun v6 v7 wr => v6 = .slice none 0 0 ∧ v7 = .int .i64 0 ∧ wr = w2) (fun _ _ _ => 0)
   case atStart => exact ⟨rfl, rfl, rfl⟩
   case round =>
    obtain ⟨rfl, rfl, rfl⟩ := hrel
    go_wp2_with fail
    all_goals
     go_ret
     exact el_ret TrT.len HL HN HE HPUT HK2
  ·
   have HE : Hid (elW wb (N : Int) = wb) := by show _ = _; unfold elW; cases wb <;> simp <;> omega
   have HK2 : Hid (Kept (fun k => k = gp ∨ k = gr) w w1) := HK1.out.weaken (T := fun k => k = gp ∨ k = gr) (fun _ h => .inl h)
   cases wb with
   | true =>
    have HPUT := HW1
    have hcp := hcw
    obtain ⟨w2, hw2⟩ : ∃ w2, w2 = w1 := ⟨_, rfl⟩
    subst hw2
    clear hcw
    go_wp2_with fail
    go_loopw [6, 7] (fun v6 v7 wr => v6 = .slice none 0 0 ∧ v7 = .int .i64 0 ∧ wr = w2) (fun _ _ _ => 0)
    case atStart => exact ⟨rfl, rfl, rfl⟩
    case round =>
     obtain ⟨rfl, rfl, rfl⟩ := hrel
     go_wp2_with fail
     all_goals
      go_ret
      exact el_ret TrT.len HL HN HE HPUT HK2
   | false =>
    have HBIG := Lh hbig
    clear hcw hfw
    go_wp2_with fail
    go_loopw [6, 7] (fun v6 v7 wr => ∃ (k : Nat) (a : Option Addr) (n6 c6 : Nat), k ≤ N ∧ v7 = .int .i64 k ∧ v6 = .slice a n6 c6 ∧ OwnR TrT.vs 7 93 wr w.heap.size (.slice a n6 c6) (rRs rdTrT k s1).1 ∧ WR wr gr gp (rRs rdTrT k s1).2 false ∧ Kept (fun k => k = gp ∨ k = gr) w wr) (fun _ i _ => N - (intOf i).toNat)
    case atStart => exact ⟨0, none, 0, 0, Nat.zero_le _, rfl, rfl, OwnR.empty TrT.len _ _ _, HW1.out, HK2.out⟩
    case round =>
     obtain ⟨k, a, n6, c6, hk, rfl, rfl, ho, hw, hkp⟩ := hrel
     have hcw := hw.cell.2.1
     by_cases hlt : k < N
     ·
      have rd := rdc_trd wr gr gp (rRs rdTrT k s1).2 false hw (Nat.le_trans (rRs_left rdTrT_left k s1) HLEN.out)
      obtain ⟨c, hc⟩ : ∃ c, c = (rdTrT (rRs rdTrT k s1).2).1 := ⟨_, rfl⟩
      rw [← hc, show (rdTrT (rRs rdTrT k s1).2).2 = (rRs rdTrT (k + 1) s1).2 from rfl] at rd
      simp only [TrT.vs] at rd
      have HN1 : Hid ((rRs rdTrT (k + 1) s1).1 = (rRs rdTrT k s1).1 ++ [c]) := by rw [hc]; rfl
      have HO := Lh ho
      have HKP := Lh hkp
      have hlr := rRs_len rdTrT k s1
      have hle : ((rRs rdTrT k s1).1.length + [c].length) * 56 ≤ 140737488355328 := by have := HBIG.out; rw [hlr]; simp; omega
      clear hc ho hw hkp hlr
      go_wp2_with fail
      refine rd.mono ?_
      clear rd hcw
      rintro e w3 ⟨rfl, hw3, hk3⟩
      obtain ⟨hoA, hone, HWA, HKA⟩ := el_row c TrT.len HO HKP hw3 hk3 H
      have hbase := HKA.out.size
      clear hw3 hk3
      go_wp2_with (first
       | (at_builtin; refine wpList_append_rows (v := .slice a n6 c6) rfl (.tmp 34) (.tmp 37) 29 rfl (L := (rRs rdTrT k s1).1) (M := [c]) (base := w.heap.size) elem_trd rfl rfl hoA hone TrT.one hle (by decide) hbase ?_; intro a7 n7 c7 w7 Hn7 ho7 hg7 hat7 hb7)
       | fail)
      exact ⟨⟨k + 1, a7, n7, c7, by omega, by push_cast; rfl, rfl, by rw [HN1.out]; exact ho7, el_app HO HWA HKA hg7 H⟩, by simp [intOf]; omega⟩
     ·
      obtain rfl : k = N := by omega
      have HO := Lh ho
      have HW := Lh hw
      have HKP := Lh hkp
      clear ho hw hkp
      go_wp2_with fail
      go_ret
      have hE : elL rdTrT false s = rRs rdTrT k s1 := by rw [HL.out, HE.out]; simp
      exact ⟨_, _, _, rfl, by rw [hE]; exact HO.out, by rw [hE, ← HN.out, HE.out]; exact HW.out, HKP.out⟩
theorem rdpos_any (w : World) (gr gp : Nat) (s : RS) (wb : Bool) (h : WR w gr gp s wb) (hlen : s.1.length ≤ 70368744177664) : Calls Tryz.prog 83 #[.pointer (some ⟨gr, 0, none⟩)] w fun e w' => e = .returned (.agg (ivs (rIs 4 s).1).toArray) ∧ WR w' gr gp (rIs 4 s).2 wb ∧ Kept (fun k => k = gp) w w' := by
 have hlt := h.lt
 have hpr := h.2.2
 have HH := Lh (⟨hlt, hpr⟩ : _ ∧ _)
 have HLEN := Lh hlen
 obtain ⟨g, hg⟩ : ∃ g, g = w.heap.size := ⟨_, rfl⟩
 have HG0 := Lh hg
 have nx0 := rd_in 98 4 4 h hlen (by decide) (by decide)
 clear hlt hpr h hlen
 clear hg
 go_in
 go_wp2_with fail
 refine nx0.mono ?_
 clear nx0
 rintro e w2 ⟨rfl, hw2, hc2, hk2⟩
 have HSZ1 : Hid (w.heap.size < w2.heap.size) := hc2.lt
 rw [splice_all (by simp [ivs, rIs_len])] at hc2
 have hl := rIs_len 4 s
 obtain ⟨L, hL⟩ : ∃ L, L = (rIs 4 s).1 := ⟨_, rfl⟩
 simp only [Nat.reduceAdd] at hc2 hw2
 rw [← hL] at hc2 hl
 have HG : Hid (w2.heap[w.heap.size]? = some (.cells (ivs L).toArray 98 (0, 0))) := hc2
 have HSZ : Hid ((Tryz.prog.info? 98).map (·.size) = some (ivs L).toArray.size) := by show _ = _; rw [pos_sz]; simp [ivs, hl]
 have HWF := Lh hw2
 have HKF := Lh hk2
 have HL := Lh hL
 clear hc2 hw2 hk2 hl hL
 go_wp2_with (first
  | (refine wpList_load_row rfl 98 (.tmp 2) rfl w.heap.size rfl 98 (ivs L).toArray (0, 0) _ HG.out Tryz.underlying98 rfl HSZ.out ?_)
  | (refine wpList_store_row rfl 98 (.tmp 2) (.tmp 12) rfl w.heap.size (ivs L).toArray rfl rfl 98 (ivs L).toArray HG.out HSZ.out rfl (ivs_one L) ?_)
  | fail)
 refine bodyPost_ret (results_cell_row rfl _ _ w.heap.size 98 (ivs L).toArray (0, 0) _ rfl (setRow_heap _ _ _ _ _ _ HG.out) Tryz.underlying98 rfl HSZ.out) rfl ?_
 have hkr : Kept (fun k => k = w.heap.size) w2 (w2.setRow w.heap.size (ivs L).toArray) := ⟨rfl, rfl, rfl, by simp [World.setRow], fun k _ hn => setRow_other _ _ _ _ hn⟩
 refine ⟨by rw [HL.out], HWF.out.go (HWF.out.2.1.kept hkr (fun k hk e => by have := HH.out; omega)) hkr (fun e => by have := HH.out; omega), ?_⟩
 exact ((HKF.out.trans hkr (fun i hi e => .inr e)).drop).weaken (fun _ h => h)
def rdPoT (s : RS) : PoT × RS := (⟨(rIs 4 s).1.getD 0 0, (rIs 4 s).1.getD 1 0, (rIs 4 s).1.getD 2 0, (rIs 4 s).1.getD 3 0⟩, (rIs 4 s).2)
theorem rdPoT_vs (s : RS) : (ivs (rIs 4 s).1) = (rdPoT s).1.vs := by
 have h := rIs_len 4 s
 unfold rdPoT
 generalize (rIs 4 s).1 = L at h
 match L, h with
 | [a0, a1, a2, a3], _ => rfl
theorem rdPoT_left (s : RS) : (rdPoT s).2.1.length ≤ s.1.length := rIs_left 4 s
theorem rdc_pos (w : World) (gr gp : Nat) (s : RS) (wb : Bool) (h : WR w gr gp s wb) (hlen : s.1.length ≤ 70368744177664) : Calls Tryz.prog 83 #[.pointer (some ⟨gr, 0, none⟩)] w fun e w' => e = .returned (.agg (rdPoT s).1.vs.toArray) ∧ WR w' gr gp (rdPoT s).2 wb ∧ Kept (fun k => k = gp) w w' := by
 rw [← rdPoT_vs]
 exact rdpos_any w gr gp s wb h hlen
def ElPoT (w : World) (gr gp : Nat) (s : RS) (wb : Bool) (e : Ending) (w' : World) : Prop := ∃ a n c, e = .returned (.slice a n c) ∧ OwnR PoT.vs 4 98 w' w.heap.size (.slice a n c) (elL rdPoT wb s).1 ∧ WR w' gr gp (elL rdPoT wb s).2 (elW wb (rI s).1) ∧ Kept (fun k => k = gp ∨ k = gr) w w'
theorem elems_pos (w : World) (gr gp : Nat) (s : RS) (wb : Bool) (h : WR w gr gp s wb) (hlen : s.1.length ≤ 70368744177664) :
  Calls Tryz.prog 82 #[.pointer (some ⟨gr, 0, none⟩), .func (.func 83) #[.pointer (some ⟨gr, 0, none⟩)] #[]] w (ElPoT w gr gp s wb) := by
 have hc0 := h.cell.1
 have ri := RInt_any w gp s h.2.1 hlen
 obtain ⟨n, hn⟩ : ∃ n, n = (rI s).1 := ⟨_, rfl⟩
 obtain ⟨s1, hs1⟩ : ∃ s1, s1 = (rI s).2 := ⟨_, rfl⟩
 rw [← hn, ← hs1] at ri
 have HL : Hid (elL rdPoT wb s = if elW wb n = true then ([], s1) else rRs rdPoT n.toNat s1) := by show _ = _; unfold elL; rw [← hn, ← hs1]
 have HN := Lh hn
 have HLEN : Hid (s1.1.length ≤ 70368744177664) := by show _ ≤ _; rw [hs1]; exact Nat.le_trans (rIs_left 1 s) hlen
 have H := Lh h
 have hgg : gp < gr := h.2.2
 have HGG := Lh hgg
 have hnr : -9223372036854775808 ≤ n ∧ n ≤ 9223372036854775807 := by rw [hn]; exact rI_range s
 clear hn hs1 h hlen hgg
 go_in
 go_wp2_with fail
 refine ri.mono ?_
 clear ri hc0
 rintro e w1 ⟨rfl, hd1, hk1⟩
 have hw1 := H.out.go hd1 hk1 (fun e => by have := HGG.out; omega)
 have HK1 := Lh hk1
 have HW1 := Lh hw1
 have hcw := hw1.cell.2.1
 have hfw := hw1.cell.2.2
 clear hd1 hk1 hw1
 by_cases hneg : n < 0
 ·
  have hd : decide (n < 0) = true := by simpa using hneg
  obtain ⟨HPUT, HK2⟩ := el_bad HW1 HK1 HGG
  have hcp := HPUT.out.cell.2.1
  have HE : Hid (elW wb n = true) := by show _ = _; unfold elW; simp; omega
  go_wp2_with fail
  generalize hw2 : w1.setCell ⟨gr, 1, none⟩ (.bool true) = w2 at *
  clear hw2
  go_loopw [6, 7] (fun v6 v7 wr => v6 = .slice none 0 0 ∧ v7 = .int .i64 0 ∧ wr = w2) (fun _ _ _ => 0)
  case atStart => exact ⟨rfl, rfl, rfl⟩
  case round =>
   obtain ⟨rfl, rfl, rfl⟩ := hrel
   go_wp2_with fail
   all_goals
    go_ret
    exact el_ret PoT.len HL HN HE HPUT HK2
 ·
  have hneg' : 0 ≤ n := by omega
  obtain ⟨N, rfl⟩ : ∃ N : Nat, n = N := ⟨n.toNat, by omega⟩
  clear hneg hneg' hnr
  by_cases hbig : 1024 < N
  ·
   obtain ⟨HPUT, HK2⟩ := el_bad HW1 HK1 HGG
   have hcp := HPUT.out.cell.2.1
   have HE : Hid (elW wb (N : Int) = true) := by show _ = _; unfold elW; simp; omega
   go_wp2_with fail
   generalize hw2 : w1.setCell ⟨gr, 1, none⟩ (.bool true) = w2 at *
   clear hw2
   go_loopw [6, 7] (fun v6 v7 wr => v6 = .slice none 0 0 ∧ v7 = .int .i64 0 ∧ wr = w2) (fun _ _ _ => 0)
   case atStart => exact ⟨rfl, rfl, rfl⟩
   case round =>
    obtain ⟨rfl, rfl, rfl⟩ := hrel
    go_wp2_with fail
    all_goals
     go_ret
     exact el_ret PoT.len HL HN HE HPUT HK2
  ·
   have HE : Hid (elW wb (N : Int) = wb) := by show _ = _; unfold elW; cases wb <;> simp <;> omega
   have HK2 : Hid (Kept (fun k => k = gp ∨ k = gr) w w1) := HK1.out.weaken (T := fun k => k = gp ∨ k = gr) (fun _ h => .inl h)
   cases wb with
   | true =>
    have HPUT := HW1
    have hcp := hcw
    obtain ⟨w2, hw2⟩ : ∃ w2, w2 = w1 := ⟨_, rfl⟩
    subst hw2
    clear hcw
    go_wp2_with fail
    go_loopw [6, 7] (fun v6 v7 wr => v6 = .slice none 0 0 ∧ v7 = .int .i64 0 ∧ wr = w2) (fun _ _ _ => 0)
    case atStart => exact ⟨rfl, rfl, rfl⟩
    case round =>
     obtain ⟨rfl, rfl, rfl⟩ := hrel
     go_wp2_with fail
     all_goals
      go_ret
      exact el_ret PoT.len HL HN HE HPUT HK2
   | false =>
    have HBIG := Lh hbig
    clear hcw hfw
    go_wp2_with fail
    go_loopw [6, 7] (fun v6 v7 wr => ∃ (k : Nat) (a : Option Addr) (n6 c6 : Nat), k ≤ N ∧ v7 = .int .i64 k ∧ v6 = .slice a n6 c6 ∧ OwnR PoT.vs 4 98 wr w.heap.size (.slice a n6 c6) (rRs rdPoT k s1).1 ∧ WR wr gr gp (rRs rdPoT k s1).2 false ∧ Kept (fun k => k = gp ∨ k = gr) w wr) (fun _ i _ => N - (intOf i).toNat)
    case atStart => exact ⟨0, none, 0, 0, Nat.zero_le _, rfl, rfl, OwnR.empty PoT.len _ _ _, HW1.out, HK2.out⟩
    case round =>
     obtain ⟨k, a, n6, c6, hk, rfl, rfl, ho, hw, hkp⟩ := hrel
     have hcw := hw.cell.2.1
     by_cases hlt : k < N
     ·
      have rd := rdc_pos wr gr gp (rRs rdPoT k s1).2 false hw (Nat.le_trans (rRs_left rdPoT_left k s1) HLEN.out)
      obtain ⟨c, hc⟩ : ∃ c, c = (rdPoT (rRs rdPoT k s1).2).1 := ⟨_, rfl⟩
      rw [← hc, show (rdPoT (rRs rdPoT k s1).2).2 = (rRs rdPoT (k + 1) s1).2 from rfl] at rd
      simp only [PoT.vs] at rd
      have HN1 : Hid ((rRs rdPoT (k + 1) s1).1 = (rRs rdPoT k s1).1 ++ [c]) := by rw [hc]; rfl
      have HO := Lh ho
      have HKP := Lh hkp
      have hlr := rRs_len rdPoT k s1
      have hle : ((rRs rdPoT k s1).1.length + [c].length) * 32 ≤ 140737488355328 := by have := HBIG.out; rw [hlr]; simp; omega
      clear hc ho hw hkp hlr
      go_wp2_with fail
      refine rd.mono ?_
      clear rd hcw
      rintro e w3 ⟨rfl, hw3, hk3⟩
      obtain ⟨hoA, hone, HWA, HKA⟩ := el_row c PoT.len HO HKP hw3 hk3 H
      have hbase := HKA.out.size
      clear hw3 hk3
      go_wp2_with (first
       | (at_builtin; refine wpList_append_rows (v := .slice a n6 c6) rfl (.tmp 34) (.tmp 37) 30 rfl (L := (rRs rdPoT k s1).1) (M := [c]) (base := w.heap.size) elem_pos rfl rfl hoA hone PoT.one hle (by decide) hbase ?_; intro a7 n7 c7 w7 Hn7 ho7 hg7 hat7 hb7)
       | fail)
      exact ⟨⟨k + 1, a7, n7, c7, by omega, by push_cast; rfl, rfl, by rw [HN1.out]; exact ho7, el_app HO HWA HKA hg7 H⟩, by simp [intOf]; omega⟩
     ·
      obtain rfl : k = N := by omega
      have HO := Lh ho
      have HW := Lh hw
      have HKP := Lh hkp
      clear ho hw hkp
      go_wp2_with fail
      go_ret
      have hE : elL rdPoT false s = rRs rdPoT k s1 := by rw [HL.out, HE.out]; simp
      exact ⟨_, _, _, rfl, by rw [hE]; exact HO.out, by rw [hE, ← HN.out, HE.out]; exact HW.out, HKP.out⟩
theorem rdbal_any (w : World) (gr gp : Nat) (s : RS) (wb : Bool) (h : WR w gr gp s wb) (hlen : s.1.length ≤ 70368744177664) : Calls Tryz.prog 85 #[.pointer (some ⟨gr, 0, none⟩)] w fun e w' => e = .returned (.agg (ivs (rIs 4 s).1).toArray) ∧ WR w' gr gp (rIs 4 s).2 wb ∧ Kept (fun k => k = gp) w w' := by
 have hlt := h.lt
 have hpr := h.2.2
 have HH := Lh (⟨hlt, hpr⟩ : _ ∧ _)
 have HLEN := Lh hlen
 obtain ⟨g, hg⟩ : ∃ g, g = w.heap.size := ⟨_, rfl⟩
 have HG0 := Lh hg
 have nx0 := rd_in 102 4 4 h hlen (by decide) (by decide)
 clear hlt hpr h hlen
 clear hg
 go_in
 go_wp2_with fail
 refine nx0.mono ?_
 clear nx0
 rintro e w2 ⟨rfl, hw2, hc2, hk2⟩
 have HSZ1 : Hid (w.heap.size < w2.heap.size) := hc2.lt
 rw [splice_all (by simp [ivs, rIs_len])] at hc2
 have hl := rIs_len 4 s
 obtain ⟨L, hL⟩ : ∃ L, L = (rIs 4 s).1 := ⟨_, rfl⟩
 simp only [Nat.reduceAdd] at hc2 hw2
 rw [← hL] at hc2 hl
 have HG : Hid (w2.heap[w.heap.size]? = some (.cells (ivs L).toArray 102 (0, 0))) := hc2
 have HSZ : Hid ((Tryz.prog.info? 102).map (·.size) = some (ivs L).toArray.size) := by show _ = _; rw [bal_sz]; simp [ivs, hl]
 have HWF := Lh hw2
 have HKF := Lh hk2
 have HL := Lh hL
 clear hc2 hw2 hk2 hl hL
 go_wp2_with (first
  | (refine wpList_load_row rfl 102 (.tmp 2) rfl w.heap.size rfl 102 (ivs L).toArray (0, 0) _ HG.out Tryz.underlying102 rfl HSZ.out ?_)
  | (refine wpList_store_row rfl 102 (.tmp 2) (.tmp 13) rfl w.heap.size (ivs L).toArray rfl rfl 102 (ivs L).toArray HG.out HSZ.out rfl (ivs_one L) ?_)
  | fail)
 refine bodyPost_ret (results_cell_row rfl _ _ w.heap.size 102 (ivs L).toArray (0, 0) _ rfl (setRow_heap _ _ _ _ _ _ HG.out) Tryz.underlying102 rfl HSZ.out) rfl ?_
 have hkr : Kept (fun k => k = w.heap.size) w2 (w2.setRow w.heap.size (ivs L).toArray) := ⟨rfl, rfl, rfl, by simp [World.setRow], fun k _ hn => setRow_other _ _ _ _ hn⟩
 refine ⟨by rw [HL.out], HWF.out.go (HWF.out.2.1.kept hkr (fun k hk e => by have := HH.out; omega)) hkr (fun e => by have := HH.out; omega), ?_⟩
 exact ((HKF.out.trans hkr (fun i hi e => .inr e)).drop).weaken (fun _ h => h)
def rdBaT (s : RS) : BaT × RS := (⟨(rIs 4 s).1.getD 0 0, (rIs 4 s).1.getD 1 0, (rIs 4 s).1.getD 2 0, (rIs 4 s).1.getD 3 0⟩, (rIs 4 s).2)
theorem rdBaT_vs (s : RS) : (ivs (rIs 4 s).1) = (rdBaT s).1.vs := by
 have h := rIs_len 4 s
 unfold rdBaT
 generalize (rIs 4 s).1 = L at h
 match L, h with
 | [a0, a1, a2, a3], _ => rfl
theorem rdBaT_left (s : RS) : (rdBaT s).2.1.length ≤ s.1.length := rIs_left 4 s
theorem rdc_bal (w : World) (gr gp : Nat) (s : RS) (wb : Bool) (h : WR w gr gp s wb) (hlen : s.1.length ≤ 70368744177664) : Calls Tryz.prog 85 #[.pointer (some ⟨gr, 0, none⟩)] w fun e w' => e = .returned (.agg (rdBaT s).1.vs.toArray) ∧ WR w' gr gp (rdBaT s).2 wb ∧ Kept (fun k => k = gp) w w' := by
 rw [← rdBaT_vs]
 exact rdbal_any w gr gp s wb h hlen
def ElBaT (w : World) (gr gp : Nat) (s : RS) (wb : Bool) (e : Ending) (w' : World) : Prop := ∃ a n c, e = .returned (.slice a n c) ∧ OwnR BaT.vs 4 102 w' w.heap.size (.slice a n c) (elL rdBaT wb s).1 ∧ WR w' gr gp (elL rdBaT wb s).2 (elW wb (rI s).1) ∧ Kept (fun k => k = gp ∨ k = gr) w w'
theorem elems_bal (w : World) (gr gp : Nat) (s : RS) (wb : Bool) (h : WR w gr gp s wb) (hlen : s.1.length ≤ 70368744177664) :
  Calls Tryz.prog 84 #[.pointer (some ⟨gr, 0, none⟩), .func (.func 85) #[.pointer (some ⟨gr, 0, none⟩)] #[]] w (ElBaT w gr gp s wb) := by
 have hc0 := h.cell.1
 have ri := RInt_any w gp s h.2.1 hlen
 obtain ⟨n, hn⟩ : ∃ n, n = (rI s).1 := ⟨_, rfl⟩
 obtain ⟨s1, hs1⟩ : ∃ s1, s1 = (rI s).2 := ⟨_, rfl⟩
 rw [← hn, ← hs1] at ri
 have HL : Hid (elL rdBaT wb s = if elW wb n = true then ([], s1) else rRs rdBaT n.toNat s1) := by show _ = _; unfold elL; rw [← hn, ← hs1]
 have HN := Lh hn
 have HLEN : Hid (s1.1.length ≤ 70368744177664) := by show _ ≤ _; rw [hs1]; exact Nat.le_trans (rIs_left 1 s) hlen
 have H := Lh h
 have hgg : gp < gr := h.2.2
 have HGG := Lh hgg
 have hnr : -9223372036854775808 ≤ n ∧ n ≤ 9223372036854775807 := by rw [hn]; exact rI_range s
 clear hn hs1 h hlen hgg
 go_in
 go_wp2_with fail
 refine ri.mono ?_
 clear ri hc0
 rintro e w1 ⟨rfl, hd1, hk1⟩
 have hw1 := H.out.go hd1 hk1 (fun e => by have := HGG.out; omega)
 have HK1 := Lh hk1
 have HW1 := Lh hw1
 have hcw := hw1.cell.2.1
 have hfw := hw1.cell.2.2
 clear hd1 hk1 hw1
 by_cases hneg : n < 0
 ·
  have hd : decide (n < 0) = true := by simpa using hneg
  obtain ⟨HPUT, HK2⟩ := el_bad HW1 HK1 HGG
  have hcp := HPUT.out.cell.2.1
  have HE : Hid (elW wb n = true) := by show _ = _; unfold elW; simp; omega
  go_wp2_with fail
  generalize hw2 : w1.setCell ⟨gr, 1, none⟩ (.bool true) = w2 at *
  clear hw2
  go_loopw [6, 7] (fun v6 v7 wr => v6 = .slice none 0 0 ∧ v7 = .int .i64 0 ∧ wr = w2) (fun _ _ _ => 0)
  case atStart => exact ⟨rfl, rfl, rfl⟩
  case round =>
   obtain ⟨rfl, rfl, rfl⟩ := hrel
   go_wp2_with fail
   all_goals
    go_ret
    exact el_ret BaT.len HL HN HE HPUT HK2
 ·
  have hneg' : 0 ≤ n := by omega
  obtain ⟨N, rfl⟩ : ∃ N : Nat, n = N := ⟨n.toNat, by omega⟩
  clear hneg hneg' hnr
  by_cases hbig : 1024 < N
  ·
   obtain ⟨HPUT, HK2⟩ := el_bad HW1 HK1 HGG
   have hcp := HPUT.out.cell.2.1
   have HE : Hid (elW wb (N : Int) = true) := by show _ = _; unfold elW; simp; omega
   go_wp2_with fail
   generalize hw2 : w1.setCell ⟨gr, 1, none⟩ (.bool true) = w2 at *
   clear hw2
   go_loopw [6, 7] (fun v6 v7 wr => v6 = .slice none 0 0 ∧ v7 = .int .i64 0 ∧ wr = w2) (fun _ _ _ => 0)
   case atStart => exact ⟨rfl, rfl, rfl⟩
   case round =>
    obtain ⟨rfl, rfl, rfl⟩ := hrel
    go_wp2_with fail
    all_goals
     go_ret
     exact el_ret BaT.len HL HN HE HPUT HK2
  ·
   have HE : Hid (elW wb (N : Int) = wb) := by show _ = _; unfold elW; cases wb <;> simp <;> omega
   have HK2 : Hid (Kept (fun k => k = gp ∨ k = gr) w w1) := HK1.out.weaken (T := fun k => k = gp ∨ k = gr) (fun _ h => .inl h)
   cases wb with
   | true =>
    have HPUT := HW1
    have hcp := hcw
    obtain ⟨w2, hw2⟩ : ∃ w2, w2 = w1 := ⟨_, rfl⟩
    subst hw2
    clear hcw
    go_wp2_with fail
    go_loopw [6, 7] (fun v6 v7 wr => v6 = .slice none 0 0 ∧ v7 = .int .i64 0 ∧ wr = w2) (fun _ _ _ => 0)
    case atStart => exact ⟨rfl, rfl, rfl⟩
    case round =>
     obtain ⟨rfl, rfl, rfl⟩ := hrel
     go_wp2_with fail
     all_goals
      go_ret
      exact el_ret BaT.len HL HN HE HPUT HK2
   | false =>
    have HBIG := Lh hbig
    clear hcw hfw
    go_wp2_with fail
    go_loopw [6, 7] (fun v6 v7 wr => ∃ (k : Nat) (a : Option Addr) (n6 c6 : Nat), k ≤ N ∧ v7 = .int .i64 k ∧ v6 = .slice a n6 c6 ∧ OwnR BaT.vs 4 102 wr w.heap.size (.slice a n6 c6) (rRs rdBaT k s1).1 ∧ WR wr gr gp (rRs rdBaT k s1).2 false ∧ Kept (fun k => k = gp ∨ k = gr) w wr) (fun _ i _ => N - (intOf i).toNat)
    case atStart => exact ⟨0, none, 0, 0, Nat.zero_le _, rfl, rfl, OwnR.empty BaT.len _ _ _, HW1.out, HK2.out⟩
    case round =>
     obtain ⟨k, a, n6, c6, hk, rfl, rfl, ho, hw, hkp⟩ := hrel
     have hcw := hw.cell.2.1
     by_cases hlt : k < N
     ·
      have rd := rdc_bal wr gr gp (rRs rdBaT k s1).2 false hw (Nat.le_trans (rRs_left rdBaT_left k s1) HLEN.out)
      obtain ⟨c, hc⟩ : ∃ c, c = (rdBaT (rRs rdBaT k s1).2).1 := ⟨_, rfl⟩
      rw [← hc, show (rdBaT (rRs rdBaT k s1).2).2 = (rRs rdBaT (k + 1) s1).2 from rfl] at rd
      simp only [BaT.vs] at rd
      have HN1 : Hid ((rRs rdBaT (k + 1) s1).1 = (rRs rdBaT k s1).1 ++ [c]) := by rw [hc]; rfl
      have HO := Lh ho
      have HKP := Lh hkp
      have hlr := rRs_len rdBaT k s1
      have hle : ((rRs rdBaT k s1).1.length + [c].length) * 32 ≤ 140737488355328 := by have := HBIG.out; rw [hlr]; simp; omega
      clear hc ho hw hkp hlr
      go_wp2_with fail
      refine rd.mono ?_
      clear rd hcw
      rintro e w3 ⟨rfl, hw3, hk3⟩
      obtain ⟨hoA, hone, HWA, HKA⟩ := el_row c BaT.len HO HKP hw3 hk3 H
      have hbase := HKA.out.size
      clear hw3 hk3
      go_wp2_with (first
       | (at_builtin; refine wpList_append_rows (v := .slice a n6 c6) rfl (.tmp 34) (.tmp 37) 33 rfl (L := (rRs rdBaT k s1).1) (M := [c]) (base := w.heap.size) elem_bal rfl rfl hoA hone BaT.one hle (by decide) hbase ?_; intro a7 n7 c7 w7 Hn7 ho7 hg7 hat7 hb7)
       | fail)
      exact ⟨⟨k + 1, a7, n7, c7, by omega, by push_cast; rfl, rfl, by rw [HN1.out]; exact ho7, el_app HO HWA HKA hg7 H⟩, by simp [intOf]; omega⟩
     ·
      obtain rfl : k = N := by omega
      have HO := Lh ho
      have HW := Lh hw
      have HKP := Lh hkp
      clear ho hw hkp
      go_wp2_with fail
      go_ret
      have hE : elL rdBaT false s = rRs rdBaT k s1 := by rw [HL.out, HE.out]; simp
      exact ⟨_, _, _, rfl, by rw [hE]; exact HO.out, by rw [hE, ← HN.out, HE.out]; exact HW.out, HKP.out⟩
theorem rdple_any (w : World) (gr gp : Nat) (s : RS) (wb : Bool) (h : WR w gr gp s wb) (hlen : s.1.length ≤ 70368744177664) : Calls Tryz.prog 87 #[.pointer (some ⟨gr, 0, none⟩)] w fun e w' => e = .returned (.agg (ivs (rIs 3 s).1).toArray) ∧ WR w' gr gp (rIs 3 s).2 wb ∧ Kept (fun k => k = gp) w w' := by
 have hlt := h.lt
 have hpr := h.2.2
 have HH := Lh (⟨hlt, hpr⟩ : _ ∧ _)
 have HLEN := Lh hlen
 obtain ⟨g, hg⟩ : ∃ g, g = w.heap.size := ⟨_, rfl⟩
 have HG0 := Lh hg
 have nx0 := rd_in 104 3 3 h hlen (by decide) (by decide)
 clear hlt hpr h hlen
 clear hg
 go_in
 go_wp2_with fail
 refine nx0.mono ?_
 clear nx0
 rintro e w2 ⟨rfl, hw2, hc2, hk2⟩
 have HSZ1 : Hid (w.heap.size < w2.heap.size) := hc2.lt
 rw [splice_all (by simp [ivs, rIs_len])] at hc2
 have hl := rIs_len 3 s
 obtain ⟨L, hL⟩ : ∃ L, L = (rIs 3 s).1 := ⟨_, rfl⟩
 simp only [Nat.reduceAdd] at hc2 hw2
 rw [← hL] at hc2 hl
 have HG : Hid (w2.heap[w.heap.size]? = some (.cells (ivs L).toArray 104 (0, 0))) := hc2
 have HSZ : Hid ((Tryz.prog.info? 104).map (·.size) = some (ivs L).toArray.size) := by show _ = _; rw [ple_sz]; simp [ivs, hl]
 have HWF := Lh hw2
 have HKF := Lh hk2
 have HL := Lh hL
 clear hc2 hw2 hk2 hl hL
 go_wp2_with (first
  | (refine wpList_load_row rfl 104 (.tmp 2) rfl w.heap.size rfl 104 (ivs L).toArray (0, 0) _ HG.out Tryz.underlying104 rfl HSZ.out ?_)
  | (refine wpList_store_row rfl 104 (.tmp 2) (.tmp 9) rfl w.heap.size (ivs L).toArray rfl rfl 104 (ivs L).toArray HG.out HSZ.out rfl (ivs_one L) ?_)
  | fail)
 refine bodyPost_ret (results_cell_row rfl _ _ w.heap.size 104 (ivs L).toArray (0, 0) _ rfl (setRow_heap _ _ _ _ _ _ HG.out) Tryz.underlying104 rfl HSZ.out) rfl ?_
 have hkr : Kept (fun k => k = w.heap.size) w2 (w2.setRow w.heap.size (ivs L).toArray) := ⟨rfl, rfl, rfl, by simp [World.setRow], fun k _ hn => setRow_other _ _ _ _ hn⟩
 refine ⟨by rw [HL.out], HWF.out.go (HWF.out.2.1.kept hkr (fun k hk e => by have := HH.out; omega)) hkr (fun e => by have := HH.out; omega), ?_⟩
 exact ((HKF.out.trans hkr (fun i hi e => .inr e)).drop).weaken (fun _ h => h)
def rdPlT (s : RS) : PlT × RS := (⟨(rIs 3 s).1.getD 0 0, (rIs 3 s).1.getD 1 0, (rIs 3 s).1.getD 2 0⟩, (rIs 3 s).2)
theorem rdPlT_vs (s : RS) : (ivs (rIs 3 s).1) = (rdPlT s).1.vs := by
 have h := rIs_len 3 s
 unfold rdPlT
 generalize (rIs 3 s).1 = L at h
 match L, h with
 | [a0, a1, a2], _ => rfl
theorem rdPlT_left (s : RS) : (rdPlT s).2.1.length ≤ s.1.length := rIs_left 3 s
theorem rdc_ple (w : World) (gr gp : Nat) (s : RS) (wb : Bool) (h : WR w gr gp s wb) (hlen : s.1.length ≤ 70368744177664) : Calls Tryz.prog 87 #[.pointer (some ⟨gr, 0, none⟩)] w fun e w' => e = .returned (.agg (rdPlT s).1.vs.toArray) ∧ WR w' gr gp (rdPlT s).2 wb ∧ Kept (fun k => k = gp) w w' := by
 rw [← rdPlT_vs]
 exact rdple_any w gr gp s wb h hlen
def ElPlT (w : World) (gr gp : Nat) (s : RS) (wb : Bool) (e : Ending) (w' : World) : Prop := ∃ a n c, e = .returned (.slice a n c) ∧ OwnR PlT.vs 3 104 w' w.heap.size (.slice a n c) (elL rdPlT wb s).1 ∧ WR w' gr gp (elL rdPlT wb s).2 (elW wb (rI s).1) ∧ Kept (fun k => k = gp ∨ k = gr) w w'
theorem elems_ple (w : World) (gr gp : Nat) (s : RS) (wb : Bool) (h : WR w gr gp s wb) (hlen : s.1.length ≤ 70368744177664) :
  Calls Tryz.prog 86 #[.pointer (some ⟨gr, 0, none⟩), .func (.func 87) #[.pointer (some ⟨gr, 0, none⟩)] #[]] w (ElPlT w gr gp s wb) := by
 have hc0 := h.cell.1
 have ri := RInt_any w gp s h.2.1 hlen
 obtain ⟨n, hn⟩ : ∃ n, n = (rI s).1 := ⟨_, rfl⟩
 obtain ⟨s1, hs1⟩ : ∃ s1, s1 = (rI s).2 := ⟨_, rfl⟩
 rw [← hn, ← hs1] at ri
 have HL : Hid (elL rdPlT wb s = if elW wb n = true then ([], s1) else rRs rdPlT n.toNat s1) := by show _ = _; unfold elL; rw [← hn, ← hs1]
 have HN := Lh hn
 have HLEN : Hid (s1.1.length ≤ 70368744177664) := by show _ ≤ _; rw [hs1]; exact Nat.le_trans (rIs_left 1 s) hlen
 have H := Lh h
 have hgg : gp < gr := h.2.2
 have HGG := Lh hgg
 have hnr : -9223372036854775808 ≤ n ∧ n ≤ 9223372036854775807 := by rw [hn]; exact rI_range s
 clear hn hs1 h hlen hgg
 go_in
 go_wp2_with fail
 refine ri.mono ?_
 clear ri hc0
 rintro e w1 ⟨rfl, hd1, hk1⟩
 have hw1 := H.out.go hd1 hk1 (fun e => by have := HGG.out; omega)
 have HK1 := Lh hk1
 have HW1 := Lh hw1
 have hcw := hw1.cell.2.1
 have hfw := hw1.cell.2.2
 clear hd1 hk1 hw1
 by_cases hneg : n < 0
 ·
  have hd : decide (n < 0) = true := by simpa using hneg
  obtain ⟨HPUT, HK2⟩ := el_bad HW1 HK1 HGG
  have hcp := HPUT.out.cell.2.1
  have HE : Hid (elW wb n = true) := by show _ = _; unfold elW; simp; omega
  go_wp2_with fail
  generalize hw2 : w1.setCell ⟨gr, 1, none⟩ (.bool true) = w2 at *
  clear hw2
  go_loopw [6, 7] (fun v6 v7 wr => v6 = .slice none 0 0 ∧ v7 = .int .i64 0 ∧ wr = w2) (fun _ _ _ => 0)
  case atStart => exact ⟨rfl, rfl, rfl⟩
  case round =>
   obtain ⟨rfl, rfl, rfl⟩ := hrel
   go_wp2_with fail
   all_goals
    go_ret
    exact el_ret PlT.len HL HN HE HPUT HK2
 ·
  have hneg' : 0 ≤ n := by omega
  obtain ⟨N, rfl⟩ : ∃ N : Nat, n = N := ⟨n.toNat, by omega⟩
  clear hneg hneg' hnr
  by_cases hbig : 1024 < N
  ·
   obtain ⟨HPUT, HK2⟩ := el_bad HW1 HK1 HGG
   have hcp := HPUT.out.cell.2.1
   have HE : Hid (elW wb (N : Int) = true) := by show _ = _; unfold elW; simp; omega
   go_wp2_with fail
   generalize hw2 : w1.setCell ⟨gr, 1, none⟩ (.bool true) = w2 at *
   clear hw2
   go_loopw [6, 7] (fun v6 v7 wr => v6 = .slice none 0 0 ∧ v7 = .int .i64 0 ∧ wr = w2) (fun _ _ _ => 0)
   case atStart => exact ⟨rfl, rfl, rfl⟩
   case round =>
    obtain ⟨rfl, rfl, rfl⟩ := hrel
    go_wp2_with fail
    all_goals
     go_ret
     exact el_ret PlT.len HL HN HE HPUT HK2
  ·
   have HE : Hid (elW wb (N : Int) = wb) := by show _ = _; unfold elW; cases wb <;> simp <;> omega
   have HK2 : Hid (Kept (fun k => k = gp ∨ k = gr) w w1) := HK1.out.weaken (T := fun k => k = gp ∨ k = gr) (fun _ h => .inl h)
   cases wb with
   | true =>
    have HPUT := HW1
    have hcp := hcw
    obtain ⟨w2, hw2⟩ : ∃ w2, w2 = w1 := ⟨_, rfl⟩
    subst hw2
    clear hcw
    go_wp2_with fail
    go_loopw [6, 7] (fun v6 v7 wr => v6 = .slice none 0 0 ∧ v7 = .int .i64 0 ∧ wr = w2) (fun _ _ _ => 0)
    case atStart => exact ⟨rfl, rfl, rfl⟩
    case round =>
     obtain ⟨rfl, rfl, rfl⟩ := hrel
     go_wp2_with fail
     all_goals
      go_ret
      exact el_ret PlT.len HL HN HE HPUT HK2
   | false =>
    have HBIG := Lh hbig
    clear hcw hfw
    go_wp2_with fail
    go_loopw [6, 7] (fun v6 v7 wr => ∃ (k : Nat) (a : Option Addr) (n6 c6 : Nat), k ≤ N ∧ v7 = .int .i64 k ∧ v6 = .slice a n6 c6 ∧ OwnR PlT.vs 3 104 wr w.heap.size (.slice a n6 c6) (rRs rdPlT k s1).1 ∧ WR wr gr gp (rRs rdPlT k s1).2 false ∧ Kept (fun k => k = gp ∨ k = gr) w wr) (fun _ i _ => N - (intOf i).toNat)
    case atStart => exact ⟨0, none, 0, 0, Nat.zero_le _, rfl, rfl, OwnR.empty PlT.len _ _ _, HW1.out, HK2.out⟩
    case round =>
     obtain ⟨k, a, n6, c6, hk, rfl, rfl, ho, hw, hkp⟩ := hrel
     have hcw := hw.cell.2.1
     by_cases hlt : k < N
     ·
      have rd := rdc_ple wr gr gp (rRs rdPlT k s1).2 false hw (Nat.le_trans (rRs_left rdPlT_left k s1) HLEN.out)
      obtain ⟨c, hc⟩ : ∃ c, c = (rdPlT (rRs rdPlT k s1).2).1 := ⟨_, rfl⟩
      rw [← hc, show (rdPlT (rRs rdPlT k s1).2).2 = (rRs rdPlT (k + 1) s1).2 from rfl] at rd
      simp only [PlT.vs] at rd
      have HN1 : Hid ((rRs rdPlT (k + 1) s1).1 = (rRs rdPlT k s1).1 ++ [c]) := by rw [hc]; rfl
      have HO := Lh ho
      have HKP := Lh hkp
      have hlr := rRs_len rdPlT k s1
      have hle : ((rRs rdPlT k s1).1.length + [c].length) * 24 ≤ 140737488355328 := by have := HBIG.out; rw [hlr]; simp; omega
      clear hc ho hw hkp hlr
      go_wp2_with fail
      refine rd.mono ?_
      clear rd hcw
      rintro e w3 ⟨rfl, hw3, hk3⟩
      obtain ⟨hoA, hone, HWA, HKA⟩ := el_row c PlT.len HO HKP hw3 hk3 H
      have hbase := HKA.out.size
      clear hw3 hk3
      go_wp2_with (first
       | (at_builtin; refine wpList_append_rows (v := .slice a n6 c6) rfl (.tmp 34) (.tmp 37) 36 rfl (L := (rRs rdPlT k s1).1) (M := [c]) (base := w.heap.size) elem_ple rfl rfl hoA hone PlT.one hle (by decide) hbase ?_; intro a7 n7 c7 w7 Hn7 ho7 hg7 hat7 hb7)
       | fail)
      exact ⟨⟨k + 1, a7, n7, c7, by omega, by push_cast; rfl, rfl, by rw [HN1.out]; exact ho7, el_app HO HWA HKA hg7 H⟩, by simp [intOf]; omega⟩
     ·
      obtain rfl : k = N := by omega
      have HO := Lh ho
      have HW := Lh hw
      have HKP := Lh hkp
      clear ho hw hkp
      go_wp2_with fail
      go_ret
      have hE : elL rdPlT false s = rRs rdPlT k s1 := by rw [HL.out, HE.out]; simp
      exact ⟨_, _, _, rfl, by rw [hE]; exact HO.out, by rw [hE, ← HN.out, HE.out]; exact HW.out, HKP.out⟩
theorem rdcal_any (w : World) (gr gp : Nat) (s : RS) (wb : Bool) (h : WR w gr gp s wb) (hlen : s.1.length ≤ 70368744177664) : Calls Tryz.prog 89 #[.pointer (some ⟨gr, 0, none⟩)] w fun e w' => e = .returned (.agg (ivs (rIs 4 s).1).toArray) ∧ WR w' gr gp (rIs 4 s).2 wb ∧ Kept (fun k => k = gp) w w' := by
 have hlt := h.lt
 have hpr := h.2.2
 have HH := Lh (⟨hlt, hpr⟩ : _ ∧ _)
 have HLEN := Lh hlen
 obtain ⟨g, hg⟩ : ∃ g, g = w.heap.size := ⟨_, rfl⟩
 have HG0 := Lh hg
 have nx0 := rd_in 108 4 4 h hlen (by decide) (by decide)
 clear hlt hpr h hlen
 clear hg
 go_in
 go_wp2_with fail
 refine nx0.mono ?_
 clear nx0
 rintro e w2 ⟨rfl, hw2, hc2, hk2⟩
 have HSZ1 : Hid (w.heap.size < w2.heap.size) := hc2.lt
 rw [splice_all (by simp [ivs, rIs_len])] at hc2
 have hl := rIs_len 4 s
 obtain ⟨L, hL⟩ : ∃ L, L = (rIs 4 s).1 := ⟨_, rfl⟩
 simp only [Nat.reduceAdd] at hc2 hw2
 rw [← hL] at hc2 hl
 have HG : Hid (w2.heap[w.heap.size]? = some (.cells (ivs L).toArray 108 (0, 0))) := hc2
 have HSZ : Hid ((Tryz.prog.info? 108).map (·.size) = some (ivs L).toArray.size) := by show _ = _; rw [cal_sz]; simp [ivs, hl]
 have HWF := Lh hw2
 have HKF := Lh hk2
 have HL := Lh hL
 clear hc2 hw2 hk2 hl hL
 go_wp2_with (first
  | (refine wpList_load_row rfl 108 (.tmp 2) rfl w.heap.size rfl 108 (ivs L).toArray (0, 0) _ HG.out Tryz.underlying108 rfl HSZ.out ?_)
  | (refine wpList_store_row rfl 108 (.tmp 2) (.tmp 13) rfl w.heap.size (ivs L).toArray rfl rfl 108 (ivs L).toArray HG.out HSZ.out rfl (ivs_one L) ?_)
  | fail)
 refine bodyPost_ret (results_cell_row rfl _ _ w.heap.size 108 (ivs L).toArray (0, 0) _ rfl (setRow_heap _ _ _ _ _ _ HG.out) Tryz.underlying108 rfl HSZ.out) rfl ?_
 have hkr : Kept (fun k => k = w.heap.size) w2 (w2.setRow w.heap.size (ivs L).toArray) := ⟨rfl, rfl, rfl, by simp [World.setRow], fun k _ hn => setRow_other _ _ _ _ hn⟩
 refine ⟨by rw [HL.out], HWF.out.go (HWF.out.2.1.kept hkr (fun k hk e => by have := HH.out; omega)) hkr (fun e => by have := HH.out; omega), ?_⟩
 exact ((HKF.out.trans hkr (fun i hi e => .inr e)).drop).weaken (fun _ h => h)
def rdCaT (s : RS) : CaT × RS := (⟨(rIs 4 s).1.getD 0 0, (rIs 4 s).1.getD 1 0, (rIs 4 s).1.getD 2 0, (rIs 4 s).1.getD 3 0⟩, (rIs 4 s).2)
theorem rdCaT_vs (s : RS) : (ivs (rIs 4 s).1) = (rdCaT s).1.vs := by
 have h := rIs_len 4 s
 unfold rdCaT
 generalize (rIs 4 s).1 = L at h
 match L, h with
 | [a0, a1, a2, a3], _ => rfl
theorem rdCaT_left (s : RS) : (rdCaT s).2.1.length ≤ s.1.length := rIs_left 4 s
theorem rdc_cal (w : World) (gr gp : Nat) (s : RS) (wb : Bool) (h : WR w gr gp s wb) (hlen : s.1.length ≤ 70368744177664) : Calls Tryz.prog 89 #[.pointer (some ⟨gr, 0, none⟩)] w fun e w' => e = .returned (.agg (rdCaT s).1.vs.toArray) ∧ WR w' gr gp (rdCaT s).2 wb ∧ Kept (fun k => k = gp) w w' := by
 rw [← rdCaT_vs]
 exact rdcal_any w gr gp s wb h hlen
def ElCaT (w : World) (gr gp : Nat) (s : RS) (wb : Bool) (e : Ending) (w' : World) : Prop := ∃ a n c, e = .returned (.slice a n c) ∧ OwnR CaT.vs 4 108 w' w.heap.size (.slice a n c) (elL rdCaT wb s).1 ∧ WR w' gr gp (elL rdCaT wb s).2 (elW wb (rI s).1) ∧ Kept (fun k => k = gp ∨ k = gr) w w'
theorem elems_cal (w : World) (gr gp : Nat) (s : RS) (wb : Bool) (h : WR w gr gp s wb) (hlen : s.1.length ≤ 70368744177664) :
  Calls Tryz.prog 88 #[.pointer (some ⟨gr, 0, none⟩), .func (.func 89) #[.pointer (some ⟨gr, 0, none⟩)] #[]] w (ElCaT w gr gp s wb) := by
 have hc0 := h.cell.1
 have ri := RInt_any w gp s h.2.1 hlen
 obtain ⟨n, hn⟩ : ∃ n, n = (rI s).1 := ⟨_, rfl⟩
 obtain ⟨s1, hs1⟩ : ∃ s1, s1 = (rI s).2 := ⟨_, rfl⟩
 rw [← hn, ← hs1] at ri
 have HL : Hid (elL rdCaT wb s = if elW wb n = true then ([], s1) else rRs rdCaT n.toNat s1) := by show _ = _; unfold elL; rw [← hn, ← hs1]
 have HN := Lh hn
 have HLEN : Hid (s1.1.length ≤ 70368744177664) := by show _ ≤ _; rw [hs1]; exact Nat.le_trans (rIs_left 1 s) hlen
 have H := Lh h
 have hgg : gp < gr := h.2.2
 have HGG := Lh hgg
 have hnr : -9223372036854775808 ≤ n ∧ n ≤ 9223372036854775807 := by rw [hn]; exact rI_range s
 clear hn hs1 h hlen hgg
 go_in
 go_wp2_with fail
 refine ri.mono ?_
 clear ri hc0
 rintro e w1 ⟨rfl, hd1, hk1⟩
 have hw1 := H.out.go hd1 hk1 (fun e => by have := HGG.out; omega)
 have HK1 := Lh hk1
 have HW1 := Lh hw1
 have hcw := hw1.cell.2.1
 have hfw := hw1.cell.2.2
 clear hd1 hk1 hw1
 by_cases hneg : n < 0
 ·
  have hd : decide (n < 0) = true := by simpa using hneg
  obtain ⟨HPUT, HK2⟩ := el_bad HW1 HK1 HGG
  have hcp := HPUT.out.cell.2.1
  have HE : Hid (elW wb n = true) := by show _ = _; unfold elW; simp; omega
  go_wp2_with fail
  generalize hw2 : w1.setCell ⟨gr, 1, none⟩ (.bool true) = w2 at *
  clear hw2
  go_loopw [6, 7] (fun v6 v7 wr => v6 = .slice none 0 0 ∧ v7 = .int .i64 0 ∧ wr = w2) (fun _ _ _ => 0)
  case atStart => exact ⟨rfl, rfl, rfl⟩
  case round =>
   obtain ⟨rfl, rfl, rfl⟩ := hrel
   go_wp2_with fail
   all_goals
    go_ret
    exact el_ret CaT.len HL HN HE HPUT HK2
 ·
  have hneg' : 0 ≤ n := by omega
  obtain ⟨N, rfl⟩ : ∃ N : Nat, n = N := ⟨n.toNat, by omega⟩
  clear hneg hneg' hnr
  by_cases hbig : 1024 < N
  ·
   obtain ⟨HPUT, HK2⟩ := el_bad HW1 HK1 HGG
   have hcp := HPUT.out.cell.2.1
   have HE : Hid (elW wb (N : Int) = true) := by show _ = _; unfold elW; simp; omega
   go_wp2_with fail
   generalize hw2 : w1.setCell ⟨gr, 1, none⟩ (.bool true) = w2 at *
   clear hw2
   go_loopw [6, 7] (fun v6 v7 wr => v6 = .slice none 0 0 ∧ v7 = .int .i64 0 ∧ wr = w2) (fun _ _ _ => 0)
   case atStart => exact ⟨rfl, rfl, rfl⟩
   case round =>
    obtain ⟨rfl, rfl, rfl⟩ := hrel
    go_wp2_with fail
    all_goals
     go_ret
     exact el_ret CaT.len HL HN HE HPUT HK2
  ·
   have HE : Hid (elW wb (N : Int) = wb) := by show _ = _; unfold elW; cases wb <;> simp <;> omega
   have HK2 : Hid (Kept (fun k => k = gp ∨ k = gr) w w1) := HK1.out.weaken (T := fun k => k = gp ∨ k = gr) (fun _ h => .inl h)
   cases wb with
   | true =>
    have HPUT := HW1
    have hcp := hcw
    obtain ⟨w2, hw2⟩ : ∃ w2, w2 = w1 := ⟨_, rfl⟩
    subst hw2
    clear hcw
    go_wp2_with fail
    go_loopw [6, 7] (fun v6 v7 wr => v6 = .slice none 0 0 ∧ v7 = .int .i64 0 ∧ wr = w2) (fun _ _ _ => 0)
    case atStart => exact ⟨rfl, rfl, rfl⟩
    case round =>
     obtain ⟨rfl, rfl, rfl⟩ := hrel
     go_wp2_with fail
     all_goals
      go_ret
      exact el_ret CaT.len HL HN HE HPUT HK2
   | false =>
    have HBIG := Lh hbig
    clear hcw hfw
    go_wp2_with fail
    go_loopw [6, 7] (fun v6 v7 wr => ∃ (k : Nat) (a : Option Addr) (n6 c6 : Nat), k ≤ N ∧ v7 = .int .i64 k ∧ v6 = .slice a n6 c6 ∧ OwnR CaT.vs 4 108 wr w.heap.size (.slice a n6 c6) (rRs rdCaT k s1).1 ∧ WR wr gr gp (rRs rdCaT k s1).2 false ∧ Kept (fun k => k = gp ∨ k = gr) w wr) (fun _ i _ => N - (intOf i).toNat)
    case atStart => exact ⟨0, none, 0, 0, Nat.zero_le _, rfl, rfl, OwnR.empty CaT.len _ _ _, HW1.out, HK2.out⟩
    case round =>
     obtain ⟨k, a, n6, c6, hk, rfl, rfl, ho, hw, hkp⟩ := hrel
     have hcw := hw.cell.2.1
     by_cases hlt : k < N
     ·
      have rd := rdc_cal wr gr gp (rRs rdCaT k s1).2 false hw (Nat.le_trans (rRs_left rdCaT_left k s1) HLEN.out)
      obtain ⟨c, hc⟩ : ∃ c, c = (rdCaT (rRs rdCaT k s1).2).1 := ⟨_, rfl⟩
      rw [← hc, show (rdCaT (rRs rdCaT k s1).2).2 = (rRs rdCaT (k + 1) s1).2 from rfl] at rd
      simp only [CaT.vs] at rd
      have HN1 : Hid ((rRs rdCaT (k + 1) s1).1 = (rRs rdCaT k s1).1 ++ [c]) := by rw [hc]; rfl
      have HO := Lh ho
      have HKP := Lh hkp
      have hlr := rRs_len rdCaT k s1
      have hle : ((rRs rdCaT k s1).1.length + [c].length) * 32 ≤ 140737488355328 := by have := HBIG.out; rw [hlr]; simp; omega
      clear hc ho hw hkp hlr
      go_wp2_with fail
      refine rd.mono ?_
      clear rd hcw
      rintro e w3 ⟨rfl, hw3, hk3⟩
      obtain ⟨hoA, hone, HWA, HKA⟩ := el_row c CaT.len HO HKP hw3 hk3 H
      have hbase := HKA.out.size
      clear hw3 hk3
      go_wp2_with (first
       | (at_builtin; refine wpList_append_rows (v := .slice a n6 c6) rfl (.tmp 34) (.tmp 37) 37 rfl (L := (rRs rdCaT k s1).1) (M := [c]) (base := w.heap.size) elem_cal rfl rfl hoA hone CaT.one hle (by decide) hbase ?_; intro a7 n7 c7 w7 Hn7 ho7 hg7 hat7 hb7)
       | fail)
      exact ⟨⟨k + 1, a7, n7, c7, by omega, by push_cast; rfl, rfl, by rw [HN1.out]; exact ho7, el_app HO HWA HKA hg7 H⟩, by simp [intOf]; omega⟩
     ·
      obtain rfl : k = N := by omega
      have HO := Lh ho
      have HW := Lh hw
      have HKP := Lh hkp
      clear ho hw hkp
      go_wp2_with fail
      go_ret
      have hE : elL rdCaT false s = rRs rdCaT k s1 := by rw [HL.out, HE.out]; simp
      exact ⟨_, _, _, rfl, by rw [hE]; exact HO.out, by rw [hE, ← HN.out, HE.out]; exact HW.out, HKP.out⟩
theorem rdbid_any (w : World) (gr gp : Nat) (s : RS) (wb : Bool) (h : WR w gr gp s wb) (hlen : s.1.length ≤ 70368744177664) : Calls Tryz.prog 91 #[.pointer (some ⟨gr, 0, none⟩)] w fun e w' => e = .returned (.agg (ivs (rIs 5 s).1).toArray) ∧ WR w' gr gp (rIs 5 s).2 wb ∧ Kept (fun k => k = gp) w w' := by
 have hlt := h.lt
 have hpr := h.2.2
 have HH := Lh (⟨hlt, hpr⟩ : _ ∧ _)
 have HLEN := Lh hlen
 obtain ⟨g, hg⟩ : ∃ g, g = w.heap.size := ⟨_, rfl⟩
 have HG0 := Lh hg
 have nx0 := rd_in 110 5 5 h hlen (by decide) (by decide)
 clear hlt hpr h hlen
 clear hg
 go_in
 go_wp2_with fail
 refine nx0.mono ?_
 clear nx0
 rintro e w2 ⟨rfl, hw2, hc2, hk2⟩
 have HSZ1 : Hid (w.heap.size < w2.heap.size) := hc2.lt
 rw [splice_all (by simp [ivs, rIs_len])] at hc2
 have hl := rIs_len 5 s
 obtain ⟨L, hL⟩ : ∃ L, L = (rIs 5 s).1 := ⟨_, rfl⟩
 simp only [Nat.reduceAdd] at hc2 hw2
 rw [← hL] at hc2 hl
 have HG : Hid (w2.heap[w.heap.size]? = some (.cells (ivs L).toArray 110 (0, 0))) := hc2
 have HSZ : Hid ((Tryz.prog.info? 110).map (·.size) = some (ivs L).toArray.size) := by show _ = _; rw [bid_sz]; simp [ivs, hl]
 have HWF := Lh hw2
 have HKF := Lh hk2
 have HL := Lh hL
 clear hc2 hw2 hk2 hl hL
 go_wp2_with (first
  | (refine wpList_load_row rfl 110 (.tmp 2) rfl w.heap.size rfl 110 (ivs L).toArray (0, 0) _ HG.out Tryz.underlying110 rfl HSZ.out ?_)
  | (refine wpList_store_row rfl 110 (.tmp 2) (.tmp 13) rfl w.heap.size (ivs L).toArray rfl rfl 110 (ivs L).toArray HG.out HSZ.out rfl (ivs_one L) ?_)
  | fail)
 refine bodyPost_ret (results_cell_row rfl _ _ w.heap.size 110 (ivs L).toArray (0, 0) _ rfl (setRow_heap _ _ _ _ _ _ HG.out) Tryz.underlying110 rfl HSZ.out) rfl ?_
 have hkr : Kept (fun k => k = w.heap.size) w2 (w2.setRow w.heap.size (ivs L).toArray) := ⟨rfl, rfl, rfl, by simp [World.setRow], fun k _ hn => setRow_other _ _ _ _ hn⟩
 refine ⟨by rw [HL.out], HWF.out.go (HWF.out.2.1.kept hkr (fun k hk e => by have := HH.out; omega)) hkr (fun e => by have := HH.out; omega), ?_⟩
 exact ((HKF.out.trans hkr (fun i hi e => .inr e)).drop).weaken (fun _ h => h)
def rdBiT (s : RS) : BiT × RS := (⟨(rIs 5 s).1.getD 0 0, (rIs 5 s).1.getD 1 0, (rIs 5 s).1.getD 2 0, (rIs 5 s).1.getD 3 0, (rIs 5 s).1.getD 4 0⟩, (rIs 5 s).2)
theorem rdBiT_vs (s : RS) : (ivs (rIs 5 s).1) = (rdBiT s).1.vs := by
 have h := rIs_len 5 s
 unfold rdBiT
 generalize (rIs 5 s).1 = L at h
 match L, h with
 | [a0, a1, a2, a3, a4], _ => rfl
theorem rdBiT_left (s : RS) : (rdBiT s).2.1.length ≤ s.1.length := rIs_left 5 s
theorem rdc_bid (w : World) (gr gp : Nat) (s : RS) (wb : Bool) (h : WR w gr gp s wb) (hlen : s.1.length ≤ 70368744177664) : Calls Tryz.prog 91 #[.pointer (some ⟨gr, 0, none⟩)] w fun e w' => e = .returned (.agg (rdBiT s).1.vs.toArray) ∧ WR w' gr gp (rdBiT s).2 wb ∧ Kept (fun k => k = gp) w w' := by
 rw [← rdBiT_vs]
 exact rdbid_any w gr gp s wb h hlen
def ElBiT (w : World) (gr gp : Nat) (s : RS) (wb : Bool) (e : Ending) (w' : World) : Prop := ∃ a n c, e = .returned (.slice a n c) ∧ OwnR BiT.vs 5 110 w' w.heap.size (.slice a n c) (elL rdBiT wb s).1 ∧ WR w' gr gp (elL rdBiT wb s).2 (elW wb (rI s).1) ∧ Kept (fun k => k = gp ∨ k = gr) w w'
theorem elems_bid (w : World) (gr gp : Nat) (s : RS) (wb : Bool) (h : WR w gr gp s wb) (hlen : s.1.length ≤ 70368744177664) :
  Calls Tryz.prog 90 #[.pointer (some ⟨gr, 0, none⟩), .func (.func 91) #[.pointer (some ⟨gr, 0, none⟩)] #[]] w (ElBiT w gr gp s wb) := by
 have hc0 := h.cell.1
 have ri := RInt_any w gp s h.2.1 hlen
 obtain ⟨n, hn⟩ : ∃ n, n = (rI s).1 := ⟨_, rfl⟩
 obtain ⟨s1, hs1⟩ : ∃ s1, s1 = (rI s).2 := ⟨_, rfl⟩
 rw [← hn, ← hs1] at ri
 have HL : Hid (elL rdBiT wb s = if elW wb n = true then ([], s1) else rRs rdBiT n.toNat s1) := by show _ = _; unfold elL; rw [← hn, ← hs1]
 have HN := Lh hn
 have HLEN : Hid (s1.1.length ≤ 70368744177664) := by show _ ≤ _; rw [hs1]; exact Nat.le_trans (rIs_left 1 s) hlen
 have H := Lh h
 have hgg : gp < gr := h.2.2
 have HGG := Lh hgg
 have hnr : -9223372036854775808 ≤ n ∧ n ≤ 9223372036854775807 := by rw [hn]; exact rI_range s
 clear hn hs1 h hlen hgg
 go_in
 go_wp2_with fail
 refine ri.mono ?_
 clear ri hc0
 rintro e w1 ⟨rfl, hd1, hk1⟩
 have hw1 := H.out.go hd1 hk1 (fun e => by have := HGG.out; omega)
 have HK1 := Lh hk1
 have HW1 := Lh hw1
 have hcw := hw1.cell.2.1
 have hfw := hw1.cell.2.2
 clear hd1 hk1 hw1
 by_cases hneg : n < 0
 ·
  have hd : decide (n < 0) = true := by simpa using hneg
  obtain ⟨HPUT, HK2⟩ := el_bad HW1 HK1 HGG
  have hcp := HPUT.out.cell.2.1
  have HE : Hid (elW wb n = true) := by show _ = _; unfold elW; simp; omega
  go_wp2_with fail
  generalize hw2 : w1.setCell ⟨gr, 1, none⟩ (.bool true) = w2 at *
  clear hw2
  go_loopw [6, 7] (fun v6 v7 wr => v6 = .slice none 0 0 ∧ v7 = .int .i64 0 ∧ wr = w2) (fun _ _ _ => 0)
  case atStart => exact ⟨rfl, rfl, rfl⟩
  case round =>
   obtain ⟨rfl, rfl, rfl⟩ := hrel
   go_wp2_with fail
   all_goals
    go_ret
    exact el_ret BiT.len HL HN HE HPUT HK2
 ·
  have hneg' : 0 ≤ n := by omega
  obtain ⟨N, rfl⟩ : ∃ N : Nat, n = N := ⟨n.toNat, by omega⟩
  clear hneg hneg' hnr
  by_cases hbig : 1024 < N
  ·
   obtain ⟨HPUT, HK2⟩ := el_bad HW1 HK1 HGG
   have hcp := HPUT.out.cell.2.1
   have HE : Hid (elW wb (N : Int) = true) := by show _ = _; unfold elW; simp; omega
   go_wp2_with fail
   generalize hw2 : w1.setCell ⟨gr, 1, none⟩ (.bool true) = w2 at *
   clear hw2
   go_loopw [6, 7] (fun v6 v7 wr => v6 = .slice none 0 0 ∧ v7 = .int .i64 0 ∧ wr = w2) (fun _ _ _ => 0)
   case atStart => exact ⟨rfl, rfl, rfl⟩
   case round =>
    obtain ⟨rfl, rfl, rfl⟩ := hrel
    go_wp2_with fail
    all_goals
     go_ret
     exact el_ret BiT.len HL HN HE HPUT HK2
  ·
   have HE : Hid (elW wb (N : Int) = wb) := by show _ = _; unfold elW; cases wb <;> simp <;> omega
   have HK2 : Hid (Kept (fun k => k = gp ∨ k = gr) w w1) := HK1.out.weaken (T := fun k => k = gp ∨ k = gr) (fun _ h => .inl h)
   cases wb with
   | true =>
    have HPUT := HW1
    have hcp := hcw
    obtain ⟨w2, hw2⟩ : ∃ w2, w2 = w1 := ⟨_, rfl⟩
    subst hw2
    clear hcw
    go_wp2_with fail
    go_loopw [6, 7] (fun v6 v7 wr => v6 = .slice none 0 0 ∧ v7 = .int .i64 0 ∧ wr = w2) (fun _ _ _ => 0)
    case atStart => exact ⟨rfl, rfl, rfl⟩
    case round =>
     obtain ⟨rfl, rfl, rfl⟩ := hrel
     go_wp2_with fail
     all_goals
      go_ret
      exact el_ret BiT.len HL HN HE HPUT HK2
   | false =>
    have HBIG := Lh hbig
    clear hcw hfw
    go_wp2_with fail
    go_loopw [6, 7] (fun v6 v7 wr => ∃ (k : Nat) (a : Option Addr) (n6 c6 : Nat), k ≤ N ∧ v7 = .int .i64 k ∧ v6 = .slice a n6 c6 ∧ OwnR BiT.vs 5 110 wr w.heap.size (.slice a n6 c6) (rRs rdBiT k s1).1 ∧ WR wr gr gp (rRs rdBiT k s1).2 false ∧ Kept (fun k => k = gp ∨ k = gr) w wr) (fun _ i _ => N - (intOf i).toNat)
    case atStart => exact ⟨0, none, 0, 0, Nat.zero_le _, rfl, rfl, OwnR.empty BiT.len _ _ _, HW1.out, HK2.out⟩
    case round =>
     obtain ⟨k, a, n6, c6, hk, rfl, rfl, ho, hw, hkp⟩ := hrel
     have hcw := hw.cell.2.1
     by_cases hlt : k < N
     ·
      have rd := rdc_bid wr gr gp (rRs rdBiT k s1).2 false hw (Nat.le_trans (rRs_left rdBiT_left k s1) HLEN.out)
      obtain ⟨c, hc⟩ : ∃ c, c = (rdBiT (rRs rdBiT k s1).2).1 := ⟨_, rfl⟩
      rw [← hc, show (rdBiT (rRs rdBiT k s1).2).2 = (rRs rdBiT (k + 1) s1).2 from rfl] at rd
      simp only [BiT.vs] at rd
      have HN1 : Hid ((rRs rdBiT (k + 1) s1).1 = (rRs rdBiT k s1).1 ++ [c]) := by rw [hc]; rfl
      have HO := Lh ho
      have HKP := Lh hkp
      have hlr := rRs_len rdBiT k s1
      have hle : ((rRs rdBiT k s1).1.length + [c].length) * 40 ≤ 140737488355328 := by have := HBIG.out; rw [hlr]; simp; omega
      clear hc ho hw hkp hlr
      go_wp2_with fail
      refine rd.mono ?_
      clear rd hcw
      rintro e w3 ⟨rfl, hw3, hk3⟩
      obtain ⟨hoA, hone, HWA, HKA⟩ := el_row c BiT.len HO HKP hw3 hk3 H
      have hbase := HKA.out.size
      clear hw3 hk3
      go_wp2_with (first
       | (at_builtin; refine wpList_append_rows (v := .slice a n6 c6) rfl (.tmp 34) (.tmp 37) 38 rfl (L := (rRs rdBiT k s1).1) (M := [c]) (base := w.heap.size) elem_bid rfl rfl hoA hone BiT.one hle (by decide) hbase ?_; intro a7 n7 c7 w7 Hn7 ho7 hg7 hat7 hb7)
       | fail)
      exact ⟨⟨k + 1, a7, n7, c7, by omega, by push_cast; rfl, rfl, by rw [HN1.out]; exact ho7, el_app HO HWA HKA hg7 H⟩, by simp [intOf]; omega⟩
     ·
      obtain rfl : k = N := by omega
      have HO := Lh ho
      have HW := Lh hw
      have HKP := Lh hkp
      clear ho hw hkp
      go_wp2_with fail
      go_ret
      have hE : elL rdBiT false s = rRs rdBiT k s1 := by rw [HL.out, HE.out]; simp
      exact ⟨_, _, _, rfl, by rw [hE]; exact HO.out, by rw [hE, ← HN.out, HE.out]; exact HW.out, HKP.out⟩
end Cam
