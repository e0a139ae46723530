import Derived.Test.YtgeclnjkkjmbaaaWtE
/- wire.reader: the rows of a state; elements over them. -/
namespace Cam
open Go Go.RowKit Go.Proofs

set_option maxRecDepth 100000 in
set_option maxHeartbeats 3200000 in
theorem rdmem_any (w : World) (gr gp : Nat) (s : RS) (wb : Bool) (h : WR w gr gp s wb) (hlen : s.1.length ≤ 70368744177664) : Calls Try.prog 81 #[.pointer (some ⟨gr, 0, none⟩)] w fun e w' => e = .returned (.agg (ivs (rIs 3 s).1).toArray) ∧ WR w' gr gp (rIs 3 s).2 wb ∧ Kept (fun k => k = gp) w w' := by
  have hlt := h.lt
  have hpr := h.2.2
  have hb1 : Below w.heap.size w (w.alloc (.cells #[.int .i64 0, .int .i64 0, .int .i64 0] 167)) := (Below.refl _ _).alloc (Nat.le_refl _) _
  have hc : HT (w.alloc (.cells #[.int .i64 0, .int .i64 0, .int .i64 0] 167)) w.heap.size 167 (splice (ivs (List.replicate 3 0)) 0 (ivs (rIs 0 s).1)) := by
    have := HT.new (w := w) (t := 167) (C := ivs (List.replicate 3 0))
    simpa [splice, rIs] using this
  have h2 : WR (w.alloc (.cells #[.int .i64 0, .int .i64 0, .int .i64 0] 167)) gr gp (rIs 0 s).2 wb := h.below hb1
  have hk : Kept (fun k => k = gp ∨ k = w.heap.size) w (w.alloc (.cells #[.int .i64 0, .int .i64 0, .int .i64 0] 167)) := (Kept.of_below hb1).weaken (fun _ h => h.elim)
  have HH := Lib.hid (⟨hlt, hpr⟩ : _ ∧ _)
  have HLEN := Lib.hid hlen
  have HSZ0 : Hid (w.heap.size < (w.alloc (.cells #[.int .i64 0, .int .i64 0, .int .i64 0] 167)).heap.size) := by show _ < _; simp
  obtain ⟨g, hg⟩ : ∃ g, g = w.heap.size := ⟨_, rfl⟩
  have HG0 := Lib.hid hg
  clear hlt hpr hb1 h hlen
  have hbx0 : Below (w.alloc (.cells #[.int .i64 0, .int .i64 0, .int .i64 0] 167)).heap.size (w.alloc (.cells #[.int .i64 0, .int .i64 0, .int .i64 0] 167)) ((w.alloc (.cells #[.int .i64 0, .int .i64 0, .int .i64 0] 167)).alloc (.cells #[.pointer (some ⟨w.heap.size, 0, none⟩), .pointer (some ⟨w.heap.size, 1, none⟩), .pointer (some ⟨w.heap.size, 2, none⟩)] 120)) := (Below.refl _ _).alloc (Nat.le_refl _) _
  have hs0 : ∀ i, i < 3 → ((w.alloc (.cells #[.int .i64 0, .int .i64 0, .int .i64 0] 167)).alloc (.cells #[.pointer (some ⟨w.heap.size, 0, none⟩), .pointer (some ⟨w.heap.size, 1, none⟩), .pointer (some ⟨w.heap.size, 2, none⟩)] 120)).cell? ⟨(w.alloc (.cells #[.int .i64 0, .int .i64 0, .int .i64 0] 167)).heap.size, i, none⟩ = some (.pointer (some ⟨w.heap.size, 0 + i, none⟩)) := by
    intro i hi
    have hh : ((w.alloc (.cells #[.int .i64 0, .int .i64 0, .int .i64 0] 167)).alloc (.cells #[.pointer (some ⟨w.heap.size, 0, none⟩), .pointer (some ⟨w.heap.size, 1, none⟩), .pointer (some ⟨w.heap.size, 2, none⟩)] 120)).heap[(w.alloc (.cells #[.int .i64 0, .int .i64 0, .int .i64 0] 167)).heap.size]? = some (.cells #[.pointer (some ⟨w.heap.size, 0, none⟩), .pointer (some ⟨w.heap.size, 1, none⟩), .pointer (some ⟨w.heap.size, 2, none⟩)] 120) := heap_alloc_new _ _
    unfold World.cell?
    rw [hh]
    rcases i with _ | _ | _ | i
    all_goals first | rfl | omega
  have nx0 := into_nx ((w.alloc (.cells #[.int .i64 0, .int .i64 0, .int .i64 0] 167)).alloc (.cells #[.pointer (some ⟨w.heap.size, 0, none⟩), .pointer (some ⟨w.heap.size, 1, none⟩), .pointer (some ⟨w.heap.size, 2, none⟩)] 120)) gr gp w.heap.size (w.alloc (.cells #[.int .i64 0, .int .i64 0, .int .i64 0] 167)).heap.size s 0 3 (ivs (List.replicate 3 0)) _ wb (h2.below hbx0) (hc.below hbx0) hs0 (by simp [ivs]) (by have := HH.out; omega) (by have := HH.out; omega) (by have := HSZ0.out; omega) (by omega) HLEN.out
  have hka0 := Lib.hid (hk.alloc (.cells #[.pointer (some ⟨w.heap.size, 0, none⟩), .pointer (some ⟨w.heap.size, 1, none⟩), .pointer (some ⟨w.heap.size, 2, none⟩)] 120))
  clear hbx0 hs0 h2 hc hk
  rw [show (w.alloc (.cells #[.int .i64 0, .int .i64 0, .int .i64 0] 167)).heap.size = w.heap.size + 1 by simp] at nx0
  clear hg
  go_enter Try.func81, Try.ntmps81
  go_wp2_with fail
  refine nx0.mono ?_
  clear nx0
  rintro e w2 ⟨rfl, hw2, hc2, hkk2⟩
  have hk2 := hka0.out.trans hkk2 (fun _ _ h => h)
  clear hkk2
  have HSZ1 : Hid (w.heap.size < w2.heap.size) := hc2.lt
  rw [splice_all (by simp [ivs, rIs_len])] at hc2
  have hl := rIs_len 3 s
  obtain ⟨L, hL⟩ : ∃ L, L = (rIs 3 s).1 := ⟨_, rfl⟩
  simp only [Nat.reduceAdd] at hc2 hw2
  rw [← hL] at hc2 hl
  have HG : Hid (w2.heap[w.heap.size]? = some (.cells (ivs L).toArray 167 (0, 0))) := hc2
  have HSZ : Hid ((Try.prog.info? 167).map (·.size) = some (ivs L).toArray.size) := by show _ = _; rw [mem_sz]; simp [ivs, hl]
  have HWF := Lib.hid hw2
  have HKF := Lib.hid hk2
  have HL := Lib.hid hL
  clear hc2 hw2 hk2 hl hL
  go_wp2_with (first
    | (refine wpList_load_row rfl 167 (.tmp 2) rfl w.heap.size rfl 167 (ivs L).toArray (0, 0) _ HG.out Try.underlying167 rfl HSZ.out ?_)
    | (refine wpList_store_row rfl 167 (.tmp 2) (.tmp 9) rfl w.heap.size (ivs L).toArray rfl rfl 167 (ivs L).toArray HG.out HSZ.out rfl (ivs_one L) ?_)
    | fail)
  refine bodyPost_ret (results_cell_row rfl _ _ w.heap.size 167 (ivs L).toArray (0, 0) _ rfl (setRow_heap _ _ _ _ _ _ HG.out) Try.underlying167 rfl HSZ.out) rfl ?_
  have hkr : Kept (fun k => k = w.heap.size) w2 (w2.setRow w.heap.size (ivs L).toArray) := ⟨rfl, rfl, rfl, by simp [World.setRow], fun k _ hn => setRow_other _ _ _ _ hn⟩
  refine ⟨by rw [HL.out], HWF.out.go (HWF.out.2.1.kept hkr (fun k hk e => by have := HH.out; omega)) hkr (fun e => by have := HH.out; omega), ?_⟩
  exact ((HKF.out.trans hkr (fun i hi e => .inr e)).drop).weaken (fun _ h => h)

def rdMbT (s : RS) : MbT × RS := (⟨(rIs 3 s).1.getD 0 0, (rIs 3 s).1.getD 1 0, (rIs 3 s).1.getD 2 0⟩, (rIs 3 s).2)
theorem rdMbT_vs (s : RS) : (ivs (rIs 3 s).1) = (rdMbT s).1.vs := by
  have h := rIs_len 3 s
  unfold rdMbT
  generalize (rIs 3 s).1 = L at h
  match L, h with
  | [a0, a1, a2], _ => rfl
theorem rdMbT_left (s : RS) : (rdMbT s).2.1.length ≤ s.1.length := rIs_left 3 s
theorem rdc_mem (w : World) (gr gp : Nat) (s : RS) (wb : Bool) (h : WR w gr gp s wb) (hlen : s.1.length ≤ 70368744177664) : Calls Try.prog 81 #[.pointer (some ⟨gr, 0, none⟩)] w fun e w' => e = .returned (.agg (rdMbT s).1.vs.toArray) ∧ WR w' gr gp (rdMbT s).2 wb ∧ Kept (fun k => k = gp) w w' := by
  rw [← rdMbT_vs]
  exact rdmem_any w gr gp s wb h hlen
def ElMbT (w : World) (gr gp : Nat) (s : RS) (wb : Bool) (e : Ending) (w' : World) : Prop := ∃ a n c, e = .returned (.slice a n c) ∧ OwnR MbT.vs 3 167 w' w.heap.size (.slice a n c) (elL rdMbT wb s).1 ∧ WR w' gr gp (elL rdMbT wb s).2 (elW wb (rI s).1) ∧ Kept (fun k => k = gp ∨ k = gr) w w'
set_option maxRecDepth 100000 in
set_option maxHeartbeats 3200000 in
theorem elems_mem (w : World) (gr gp : Nat) (s : RS) (wb : Bool) (h : WR w gr gp s wb) (hlen : s.1.length ≤ 70368744177664) :
    Calls Try.prog 80 #[.pointer (some ⟨gr, 0, none⟩), .func (.func 81) #[.pointer (some ⟨gr, 0, none⟩)] #[]] w (ElMbT w gr gp s wb) := by
  have hc0 := h.cell.1
  have ri := RInt_any w gp s h.2.1 hlen
  obtain ⟨n, hn⟩ : ∃ n, n = (rI s).1 := ⟨_, rfl⟩
  obtain ⟨s1, hs1⟩ : ∃ s1, s1 = (rI s).2 := ⟨_, rfl⟩
  rw [← hn, ← hs1] at ri
  have HL : Hid (elL rdMbT wb s = if elW wb n = true then ([], s1) else rRs rdMbT n.toNat s1) := by show _ = _; unfold elL; rw [← hn, ← hs1]
  have HN := Lib.hid hn
  have HLEN : Hid (s1.1.length ≤ 70368744177664) := by show _ ≤ _; rw [hs1]; exact Nat.le_trans (rIs_left 1 s) hlen
  have H := Lib.hid h
  have hgg : gp < gr := h.2.2
  have HGG := Lib.hid hgg
  have hnr : -9223372036854775808 ≤ n ∧ n ≤ 9223372036854775807 := by rw [hn]; exact rI_range s
  clear hn hs1 h hlen hgg
  go_enter Try.func80, Try.ntmps80
  go_wp2_with fail
  refine ri.mono ?_
  clear ri hc0
  rintro e w1 ⟨rfl, hd1, hk1⟩
  have hw1 := H.out.go hd1 hk1 (fun e => by have := HGG.out; omega)
  have HK1 := Lib.hid hk1
  have HW1 := Lib.hid hw1
  have hcw := hw1.cell.2.1
  have hfw := hw1.cell.2.2
  clear hd1 hk1 hw1
  by_cases hneg : n < 0
  · have hd : decide (n < 0) = true := by simpa using hneg
    have hput : WR (w1.setCell ⟨gr, 1, none⟩ (.bool true)) gr gp s1 true := ⟨HT.put (C := [.pointer (some ⟨gp, 0, none⟩), .bool wb]) HW1.out.1 1 (.bool true), HW1.out.2.1.kept ((Kept.refl (fun k => k = gr) w1).setCell _ _ rfl) (fun k hk (e : k = gr) => by have := HGG.out; omega), HW1.out.2.2⟩
    have hcp := hput.cell.2.1
    have HPUT := Lib.hid hput
    have HK2 : Hid (Kept (fun k => k = gp ∨ k = gr) w (w1.setCell ⟨gr, 1, none⟩ (.bool true))) := (HK1.out.weaken (T := fun k => k = gp ∨ k = gr) (fun _ h => .inl h)).trans ((Kept.refl (fun k => k = gr) w1).setCell _ _ rfl) (fun _ _ h => .inr h)
    have HE : Hid (elW wb n = true) := by show _ = _; unfold elW; simp; omega
    clear hput
    go_wp2_with fail
    generalize hw2 : w1.setCell ⟨gr, 1, none⟩ (.bool true) = w2 at *
    clear hw2
    go_loopw [6, 7] (fun v6 v7 wr => v6 = .slice none 0 0 ∧ v7 = .int .i64 0 ∧ wr = w2) (fun _ _ _ => 0)
    case atStart => exact ⟨rfl, rfl, rfl⟩
    case round =>
      obtain ⟨rfl, rfl, rfl⟩ := hrel
      go_wp2_with fail
      all_goals
        go_ret
        have hE : elL rdMbT wb s = ([], s1) := by rw [HL.out, if_pos HE.out]
        exact ⟨none, 0, 0, rfl, by rw [hE]; exact OwnR.empty MbT.len _ _ _, by rw [hE, ← HN.out, HE.out]; exact HPUT.out, HK2.out⟩
  · have hneg' : 0 ≤ n := by omega
    obtain ⟨N, rfl⟩ : ∃ N : Nat, n = N := ⟨n.toNat, by omega⟩
    clear hneg hneg' hnr
    by_cases hbig : 1024 < N
    · have hput : WR (w1.setCell ⟨gr, 1, none⟩ (.bool true)) gr gp s1 true := ⟨HT.put (C := [.pointer (some ⟨gp, 0, none⟩), .bool wb]) HW1.out.1 1 (.bool true), HW1.out.2.1.kept ((Kept.refl (fun k => k = gr) w1).setCell _ _ rfl) (fun k hk (e : k = gr) => by have := HGG.out; omega), HW1.out.2.2⟩
      have hcp := hput.cell.2.1
      have HPUT := Lib.hid hput
      have HK2 : Hid (Kept (fun k => k = gp ∨ k = gr) w (w1.setCell ⟨gr, 1, none⟩ (.bool true))) := (HK1.out.weaken (T := fun k => k = gp ∨ k = gr) (fun _ h => .inl h)).trans ((Kept.refl (fun k => k = gr) w1).setCell _ _ rfl) (fun _ _ h => .inr h)
      have HE : Hid (elW wb (N : Int) = true) := by show _ = _; unfold elW; simp; omega
      clear hput
      go_wp2_with fail
      generalize hw2 : w1.setCell ⟨gr, 1, none⟩ (.bool true) = w2 at *
      clear hw2
      go_loopw [6, 7] (fun v6 v7 wr => v6 = .slice none 0 0 ∧ v7 = .int .i64 0 ∧ wr = w2) (fun _ _ _ => 0)
      case atStart => exact ⟨rfl, rfl, rfl⟩
      case round =>
        obtain ⟨rfl, rfl, rfl⟩ := hrel
        go_wp2_with fail
        all_goals
          go_ret
          have hE : elL rdMbT wb s = ([], s1) := by rw [HL.out, if_pos HE.out]
          exact ⟨none, 0, 0, rfl, by rw [hE]; exact OwnR.empty MbT.len _ _ _, by rw [hE, ← HN.out, HE.out]; exact HPUT.out, HK2.out⟩
    · have HE : Hid (elW wb (N : Int) = wb) := by show _ = _; unfold elW; cases wb <;> simp <;> omega
      have HK2 : Hid (Kept (fun k => k = gp ∨ k = gr) w w1) := HK1.out.weaken (T := fun k => k = gp ∨ k = gr) (fun _ h => .inl h)
      cases wb with
      | true =>
        have HPUT := HW1
        have hcp := hcw
        obtain ⟨w2, hw2⟩ : ∃ w2, w2 = w1 := ⟨_, rfl⟩
        subst hw2
        clear hcw
        go_wp2_with fail
        go_loopw [6, 7] (fun v6 v7 wr => v6 = .slice none 0 0 ∧ v7 = .int .i64 0 ∧ wr = w2) (fun _ _ _ => 0)
        case atStart => exact ⟨rfl, rfl, rfl⟩
        case round =>
          obtain ⟨rfl, rfl, rfl⟩ := hrel
          go_wp2_with fail
          all_goals
            go_ret
            have hE : elL rdMbT true s = ([], s1) := by rw [HL.out, if_pos HE.out]
            exact ⟨none, 0, 0, rfl, by rw [hE]; exact OwnR.empty MbT.len _ _ _, by rw [hE, ← HN.out, HE.out]; exact HPUT.out, HK2.out⟩
      | false =>
        have HBIG := Lib.hid hbig
        clear hcw hfw
        go_wp2_with fail
        go_loopw [6, 7] (fun v6 v7 wr => ∃ (k : Nat) (a : Option Addr) (n6 c6 : Nat), k ≤ N ∧ v7 = .int .i64 k ∧ v6 = .slice a n6 c6 ∧ OwnR MbT.vs 3 167 wr w.heap.size (.slice a n6 c6) (rRs rdMbT k s1).1 ∧ WR wr gr gp (rRs rdMbT k s1).2 false ∧ Kept (fun k => k = gp ∨ k = gr) w wr) (fun _ i _ => N - (intOf i).toNat)
        case atStart => exact ⟨0, none, 0, 0, Nat.zero_le _, rfl, rfl, OwnR.empty MbT.len _ _ _, HW1.out, HK2.out⟩
        case round =>
          obtain ⟨k, a, n6, c6, hk, rfl, rfl, ho, hw, hkp⟩ := hrel
          have hcw := hw.cell.2.1
          by_cases hlt : k < N
          · have rd := rdc_mem wr gr gp (rRs rdMbT k s1).2 false hw (Nat.le_trans (rRs_left rdMbT_left k s1) HLEN.out)
            obtain ⟨c, hc⟩ : ∃ c, c = (rdMbT (rRs rdMbT k s1).2).1 := ⟨_, rfl⟩
            rw [← hc, show (rdMbT (rRs rdMbT k s1).2).2 = (rRs rdMbT (k + 1) s1).2 from rfl] at rd
            simp only [MbT.vs] at rd
            have HN1 : Hid ((rRs rdMbT (k + 1) s1).1 = (rRs rdMbT k s1).1 ++ [c]) := by rw [hc]; rfl
            have HO := Lib.hid ho
            have HKP := Lib.hid hkp
            have hlr := rRs_len rdMbT k s1
            have hle : ((rRs rdMbT k s1).1.length + [c].length) * 24 ≤ 140737488355328 := by have := HBIG.out; rw [hlr]; simp; omega
            clear hc ho hw hkp hlr
            go_wp2_with fail
            refine rd.mono ?_
            clear rd hcw
            rintro e w3 ⟨rfl, hw3, hk3⟩
            have hbx : Below w3.heap.size w3 (w3.alloc (.cells #[.int .i64 c.no, .int .i64 c.state, .int .i64 c.need] 167)) := (Below.refl _ _).alloc (Nat.le_refl _) _
            have hoA : OwnR MbT.vs 3 167 (w3.alloc (.cells #[.int .i64 c.no, .int .i64 c.state, .int .i64 c.need] 167)) w.heap.size (.slice a n6 c6) (rRs rdMbT k s1).1 := (OwnR.keptS HO.out hk3 (fun j hj (e : j = gp) => by have := OwnR.ge HO.out j hj; have := H.out.lt; have := HGG.out; omega)).alloc _
            have hone : Rs MbT.vs 3 (w3.alloc (.cells #[.int .i64 c.no, .int .i64 c.state, .int .i64 c.need] 167)) (.slice (some ⟨w3.heap.size, 0, none⟩) 1 1) [c] := Rs.one MbT.len w3 c 167
            have HWA := Lib.hid (hw3.below hbx)
            have HKA : Hid (Kept (fun k => k = gp ∨ k = gr) w (w3.alloc (.cells #[.int .i64 c.no, .int .i64 c.state, .int .i64 c.need] 167))) := (HKP.out.trans hk3 (fun _ _ h => .inl h)).alloc _
            have hbase : w.heap.size ≤ (w3.alloc (.cells #[.int .i64 c.no, .int .i64 c.state, .int .i64 c.need] 167)).heap.size := HKA.out.size
            clear hbx hw3 hk3
            go_wp2_with (first
              | (at_builtin; refine wpList_append_rows (v := .slice a n6 c6) rfl (.tmp 34) (.tmp 37) 55 rfl (L := (rRs rdMbT k s1).1) (M := [c]) (base := w.heap.size) elem_mem rfl rfl hoA hone MbT.one hle (by decide) hbase ?_; intro a7 n7 c7 w7 Hn7 ho7 hg7 hat7 hb7)
              | fail)
            have hge : ∀ j, (Value.slice a n6 c6).ownBlock = some j → w.heap.size ≤ j := OwnR.ge HO.out
            have hkg := Kept.of_grown hg7
            refine ⟨⟨k + 1, a7, n7, c7, by omega, by push_cast; rfl, rfl, by rw [HN1.out]; exact ho7, HWA.out.go (HWA.out.2.1.kept hkg (fun j hj e => by have := hge j e; have := H.out.lt; have := HGG.out; omega)) hkg (fun e => by have := hge gr e; have := H.out.lt; omega), HKA.out.trans hkg (fun j hj e => by have := hge j e; omega)⟩, by simp [intOf]; omega⟩
          · obtain rfl : k = N := by omega
            have HO := Lib.hid ho
            have HW := Lib.hid hw
            have HKP := Lib.hid hkp
            clear ho hw hkp
            go_wp2_with fail
            go_ret
            have hE : elL rdMbT false s = rRs rdMbT k s1 := by rw [HL.out, HE.out]; simp
            exact ⟨_, _, _, rfl, by rw [hE]; exact HO.out, by rw [hE, ← HN.out, HE.out]; exact HW.out, HKP.out⟩

set_option maxRecDepth 100000 in
set_option maxHeartbeats 3200000 in
theorem rdins_any (w : World) (gr gp : Nat) (s : RS) (wb : Bool) (h : WR w gr gp s wb) (hlen : s.1.length ≤ 70368744177664) : Calls Try.prog 83 #[.pointer (some ⟨gr, 0, none⟩)] w fun e w' => e = .returned (.agg (ivs (rIs 12 s).1).toArray) ∧ WR w' gr gp (rIs 12 s).2 wb ∧ Kept (fun k => k = gp) w w' := by
  have hlt := h.lt
  have hpr := h.2.2
  have hb1 : Below w.heap.size w (w.alloc (.cells #[.int .i64 0, .int .i64 0, .int .i64 0, .int .i64 0, .int .i64 0, .int .i64 0, .int .i64 0, .int .i64 0, .int .i64 0, .int .i64 0, .int .i64 0, .int .i64 0] 171)) := (Below.refl _ _).alloc (Nat.le_refl _) _
  have hc : HT (w.alloc (.cells #[.int .i64 0, .int .i64 0, .int .i64 0, .int .i64 0, .int .i64 0, .int .i64 0, .int .i64 0, .int .i64 0, .int .i64 0, .int .i64 0, .int .i64 0, .int .i64 0] 171)) w.heap.size 171 (splice (ivs (List.replicate 12 0)) 0 (ivs (rIs 0 s).1)) := by
    have := HT.new (w := w) (t := 171) (C := ivs (List.replicate 12 0))
    simpa [splice, rIs] using this
  have h2 : WR (w.alloc (.cells #[.int .i64 0, .int .i64 0, .int .i64 0, .int .i64 0, .int .i64 0, .int .i64 0, .int .i64 0, .int .i64 0, .int .i64 0, .int .i64 0, .int .i64 0, .int .i64 0] 171)) gr gp (rIs 0 s).2 wb := h.below hb1
  have hk : Kept (fun k => k = gp ∨ k = w.heap.size) w (w.alloc (.cells #[.int .i64 0, .int .i64 0, .int .i64 0, .int .i64 0, .int .i64 0, .int .i64 0, .int .i64 0, .int .i64 0, .int .i64 0, .int .i64 0, .int .i64 0, .int .i64 0] 171)) := (Kept.of_below hb1).weaken (fun _ h => h.elim)
  have HH := Lib.hid (⟨hlt, hpr⟩ : _ ∧ _)
  have HLEN := Lib.hid hlen
  have HSZ0 : Hid (w.heap.size < (w.alloc (.cells #[.int .i64 0, .int .i64 0, .int .i64 0, .int .i64 0, .int .i64 0, .int .i64 0, .int .i64 0, .int .i64 0, .int .i64 0, .int .i64 0, .int .i64 0, .int .i64 0] 171)).heap.size) := by show _ < _; simp
  obtain ⟨g, hg⟩ : ∃ g, g = w.heap.size := ⟨_, rfl⟩
  have HG0 := Lib.hid hg
  clear hlt hpr hb1 h hlen
  have hbx0 : Below (w.alloc (.cells #[.int .i64 0, .int .i64 0, .int .i64 0, .int .i64 0, .int .i64 0, .int .i64 0, .int .i64 0, .int .i64 0, .int .i64 0, .int .i64 0, .int .i64 0, .int .i64 0] 171)).heap.size (w.alloc (.cells #[.int .i64 0, .int .i64 0, .int .i64 0, .int .i64 0, .int .i64 0, .int .i64 0, .int .i64 0, .int .i64 0, .int .i64 0, .int .i64 0, .int .i64 0, .int .i64 0] 171)) ((w.alloc (.cells #[.int .i64 0, .int .i64 0, .int .i64 0, .int .i64 0, .int .i64 0, .int .i64 0, .int .i64 0, .int .i64 0, .int .i64 0, .int .i64 0, .int .i64 0, .int .i64 0] 171)).alloc (.cells #[.pointer (some ⟨w.heap.size, 0, none⟩), .pointer (some ⟨w.heap.size, 1, none⟩), .pointer (some ⟨w.heap.size, 2, none⟩), .pointer (some ⟨w.heap.size, 3, none⟩), .pointer (some ⟨w.heap.size, 4, none⟩), .pointer (some ⟨w.heap.size, 5, none⟩)] 120)) := (Below.refl _ _).alloc (Nat.le_refl _) _
  have hs0 : ∀ i, i < 6 → ((w.alloc (.cells #[.int .i64 0, .int .i64 0, .int .i64 0, .int .i64 0, .int .i64 0, .int .i64 0, .int .i64 0, .int .i64 0, .int .i64 0, .int .i64 0, .int .i64 0, .int .i64 0] 171)).alloc (.cells #[.pointer (some ⟨w.heap.size, 0, none⟩), .pointer (some ⟨w.heap.size, 1, none⟩), .pointer (some ⟨w.heap.size, 2, none⟩), .pointer (some ⟨w.heap.size, 3, none⟩), .pointer (some ⟨w.heap.size, 4, none⟩), .pointer (some ⟨w.heap.size, 5, none⟩)] 120)).cell? ⟨(w.alloc (.cells #[.int .i64 0, .int .i64 0, .int .i64 0, .int .i64 0, .int .i64 0, .int .i64 0, .int .i64 0, .int .i64 0, .int .i64 0, .int .i64 0, .int .i64 0, .int .i64 0] 171)).heap.size, i, none⟩ = some (.pointer (some ⟨w.heap.size, 0 + i, none⟩)) := by
    intro i hi
    have hh : ((w.alloc (.cells #[.int .i64 0, .int .i64 0, .int .i64 0, .int .i64 0, .int .i64 0, .int .i64 0, .int .i64 0, .int .i64 0, .int .i64 0, .int .i64 0, .int .i64 0, .int .i64 0] 171)).alloc (.cells #[.pointer (some ⟨w.heap.size, 0, none⟩), .pointer (some ⟨w.heap.size, 1, none⟩), .pointer (some ⟨w.heap.size, 2, none⟩), .pointer (some ⟨w.heap.size, 3, none⟩), .pointer (some ⟨w.heap.size, 4, none⟩), .pointer (some ⟨w.heap.size, 5, none⟩)] 120)).heap[(w.alloc (.cells #[.int .i64 0, .int .i64 0, .int .i64 0, .int .i64 0, .int .i64 0, .int .i64 0, .int .i64 0, .int .i64 0, .int .i64 0, .int .i64 0, .int .i64 0, .int .i64 0] 171)).heap.size]? = some (.cells #[.pointer (some ⟨w.heap.size, 0, none⟩), .pointer (some ⟨w.heap.size, 1, none⟩), .pointer (some ⟨w.heap.size, 2, none⟩), .pointer (some ⟨w.heap.size, 3, none⟩), .pointer (some ⟨w.heap.size, 4, none⟩), .pointer (some ⟨w.heap.size, 5, none⟩)] 120) := heap_alloc_new _ _
    unfold World.cell?
    rw [hh]
    rcases i with _ | _ | _ | _ | _ | _ | i
    all_goals first | rfl | omega
  have nx0 := into_nx ((w.alloc (.cells #[.int .i64 0, .int .i64 0, .int .i64 0, .int .i64 0, .int .i64 0, .int .i64 0, .int .i64 0, .int .i64 0, .int .i64 0, .int .i64 0, .int .i64 0, .int .i64 0] 171)).alloc (.cells #[.pointer (some ⟨w.heap.size, 0, none⟩), .pointer (some ⟨w.heap.size, 1, none⟩), .pointer (some ⟨w.heap.size, 2, none⟩), .pointer (some ⟨w.heap.size, 3, none⟩), .pointer (some ⟨w.heap.size, 4, none⟩), .pointer (some ⟨w.heap.size, 5, none⟩)] 120)) gr gp w.heap.size (w.alloc (.cells #[.int .i64 0, .int .i64 0, .int .i64 0, .int .i64 0, .int .i64 0, .int .i64 0, .int .i64 0, .int .i64 0, .int .i64 0, .int .i64 0, .int .i64 0, .int .i64 0] 171)).heap.size s 0 6 (ivs (List.replicate 12 0)) _ wb (h2.below hbx0) (hc.below hbx0) hs0 (by simp [ivs]) (by have := HH.out; omega) (by have := HH.out; omega) (by have := HSZ0.out; omega) (by omega) HLEN.out
  have hka0 := Lib.hid (hk.alloc (.cells #[.pointer (some ⟨w.heap.size, 0, none⟩), .pointer (some ⟨w.heap.size, 1, none⟩), .pointer (some ⟨w.heap.size, 2, none⟩), .pointer (some ⟨w.heap.size, 3, none⟩), .pointer (some ⟨w.heap.size, 4, none⟩), .pointer (some ⟨w.heap.size, 5, none⟩)] 120))
  clear hbx0 hs0 h2 hc hk
  rw [show (w.alloc (.cells #[.int .i64 0, .int .i64 0, .int .i64 0, .int .i64 0, .int .i64 0, .int .i64 0, .int .i64 0, .int .i64 0, .int .i64 0, .int .i64 0, .int .i64 0, .int .i64 0] 171)).heap.size = w.heap.size + 1 by simp] at nx0
  clear hg
  go_enter Try.func83, Try.ntmps83
  go_wp2_with fail
  refine nx0.mono ?_
  clear nx0
  rintro e w2 ⟨rfl, hw2, hc2, hkk2⟩
  have hk2 := hka0.out.trans hkk2 (fun _ _ h => h)
  clear hkk2
  have HSZ1 : Hid (w.heap.size < w2.heap.size) := hc2.lt
  have nx1 := table_nx w2 gr gp w.heap.size s 6 6 (ivs (List.replicate 12 0)) _ wb hw2 hc2 (by simp [ivs]) (by have := HH.out; omega) (by have := HH.out; omega) (by omega) HLEN.out
  have hka1 := Lib.hid hk2
  clear hw2 hc2 hk2
  go_wp2_with fail
  refine nx1.mono ?_
  clear nx1
  rintro e w3 ⟨rfl, hw3, hc3, hkk3⟩
  have hk3 := hka1.out.trans hkk3 (fun _ _ h => h)
  clear hkk3
  have HSZ2 : Hid (w.heap.size < w3.heap.size) := hc3.lt
  rw [splice_all (by simp [ivs, rIs_len])] at hc3
  have hl := rIs_len 12 s
  obtain ⟨L, hL⟩ : ∃ L, L = (rIs 12 s).1 := ⟨_, rfl⟩
  simp only [Nat.reduceAdd] at hc3 hw3
  rw [← hL] at hc3 hl
  have HG : Hid (w3.heap[w.heap.size]? = some (.cells (ivs L).toArray 171 (0, 0))) := hc3
  have HSZ : Hid ((Try.prog.info? 171).map (·.size) = some (ivs L).toArray.size) := by show _ = _; rw [ins_sz]; simp [ivs, hl]
  have HWF := Lib.hid hw3
  have HKF := Lib.hid hk3
  have HL := Lib.hid hL
  clear hc3 hw3 hk3 hl hL
  go_wp2_with (first
    | (refine wpList_load_row rfl 171 (.tmp 2) rfl w.heap.size rfl 171 (ivs L).toArray (0, 0) _ HG.out Try.underlying171 rfl HSZ.out ?_)
    | (refine wpList_store_row rfl 171 (.tmp 2) (.tmp 16) rfl w.heap.size (ivs L).toArray rfl rfl 171 (ivs L).toArray HG.out HSZ.out rfl (ivs_one L) ?_)
    | fail)
  refine bodyPost_ret (results_cell_row rfl _ _ w.heap.size 171 (ivs L).toArray (0, 0) _ rfl (setRow_heap _ _ _ _ _ _ HG.out) Try.underlying171 rfl HSZ.out) rfl ?_
  have hkr : Kept (fun k => k = w.heap.size) w3 (w3.setRow w.heap.size (ivs L).toArray) := ⟨rfl, rfl, rfl, by simp [World.setRow], fun k _ hn => setRow_other _ _ _ _ hn⟩
  refine ⟨by rw [HL.out], HWF.out.go (HWF.out.2.1.kept hkr (fun k hk e => by have := HH.out; omega)) hkr (fun e => by have := HH.out; omega), ?_⟩
  exact ((HKF.out.trans hkr (fun i hi e => .inr e)).drop).weaken (fun _ h => h)

def rdInT (s : RS) : InT × RS := (⟨(rIs 12 s).1.getD 0 0, (rIs 12 s).1.getD 1 0, (rIs 12 s).1.getD 2 0, (rIs 12 s).1.getD 3 0, (rIs 12 s).1.getD 4 0, (rIs 12 s).1.getD 5 0, (rIs 12 s).1.getD 6 0, (rIs 12 s).1.getD 7 0, (rIs 12 s).1.getD 8 0, (rIs 12 s).1.getD 9 0, (rIs 12 s).1.getD 10 0, (rIs 12 s).1.getD 11 0⟩, (rIs 12 s).2)
theorem rdInT_vs (s : RS) : (ivs (rIs 12 s).1) = (rdInT s).1.vs := by
  have h := rIs_len 12 s
  unfold rdInT
  generalize (rIs 12 s).1 = L at h
  match L, h with
  | [a0, a1, a2, a3, a4, a5, a6, a7, a8, a9, a10, a11], _ => rfl
theorem rdInT_left (s : RS) : (rdInT s).2.1.length ≤ s.1.length := rIs_left 12 s
theorem rdc_ins (w : World) (gr gp : Nat) (s : RS) (wb : Bool) (h : WR w gr gp s wb) (hlen : s.1.length ≤ 70368744177664) : Calls Try.prog 83 #[.pointer (some ⟨gr, 0, none⟩)] w fun e w' => e = .returned (.agg (rdInT s).1.vs.toArray) ∧ WR w' gr gp (rdInT s).2 wb ∧ Kept (fun k => k = gp) w w' := by
  rw [← rdInT_vs]
  exact rdins_any w gr gp s wb h hlen
def ElInT (w : World) (gr gp : Nat) (s : RS) (wb : Bool) (e : Ending) (w' : World) : Prop := ∃ a n c, e = .returned (.slice a n c) ∧ OwnR InT.vs 12 171 w' w.heap.size (.slice a n c) (elL rdInT wb s).1 ∧ WR w' gr gp (elL rdInT wb s).2 (elW wb (rI s).1) ∧ Kept (fun k => k = gp ∨ k = gr) w w'
set_option maxRecDepth 100000 in
set_option maxHeartbeats 3200000 in
theorem elems_ins (w : World) (gr gp : Nat) (s : RS) (wb : Bool) (h : WR w gr gp s wb) (hlen : s.1.length ≤ 70368744177664) :
    Calls Try.prog 82 #[.pointer (some ⟨gr, 0, none⟩), .func (.func 83) #[.pointer (some ⟨gr, 0, none⟩)] #[]] w (ElInT w gr gp s wb) := by
  have hc0 := h.cell.1
  have ri := RInt_any w gp s h.2.1 hlen
  obtain ⟨n, hn⟩ : ∃ n, n = (rI s).1 := ⟨_, rfl⟩
  obtain ⟨s1, hs1⟩ : ∃ s1, s1 = (rI s).2 := ⟨_, rfl⟩
  rw [← hn, ← hs1] at ri
  have HL : Hid (elL rdInT wb s = if elW wb n = true then ([], s1) else rRs rdInT n.toNat s1) := by show _ = _; unfold elL; rw [← hn, ← hs1]
  have HN := Lib.hid hn
  have HLEN : Hid (s1.1.length ≤ 70368744177664) := by show _ ≤ _; rw [hs1]; exact Nat.le_trans (rIs_left 1 s) hlen
  have H := Lib.hid h
  have hgg : gp < gr := h.2.2
  have HGG := Lib.hid hgg
  have hnr : -9223372036854775808 ≤ n ∧ n ≤ 9223372036854775807 := by rw [hn]; exact rI_range s
  clear hn hs1 h hlen hgg
  go_enter Try.func82, Try.ntmps82
  go_wp2_with fail
  refine ri.mono ?_
  clear ri hc0
  rintro e w1 ⟨rfl, hd1, hk1⟩
  have hw1 := H.out.go hd1 hk1 (fun e => by have := HGG.out; omega)
  have HK1 := Lib.hid hk1
  have HW1 := Lib.hid hw1
  have hcw := hw1.cell.2.1
  have hfw := hw1.cell.2.2
  clear hd1 hk1 hw1
  by_cases hneg : n < 0
  · have hd : decide (n < 0) = true := by simpa using hneg
    have hput : WR (w1.setCell ⟨gr, 1, none⟩ (.bool true)) gr gp s1 true := ⟨HT.put (C := [.pointer (some ⟨gp, 0, none⟩), .bool wb]) HW1.out.1 1 (.bool true), HW1.out.2.1.kept ((Kept.refl (fun k => k = gr) w1).setCell _ _ rfl) (fun k hk (e : k = gr) => by have := HGG.out; omega), HW1.out.2.2⟩
    have hcp := hput.cell.2.1
    have HPUT := Lib.hid hput
    have HK2 : Hid (Kept (fun k => k = gp ∨ k = gr) w (w1.setCell ⟨gr, 1, none⟩ (.bool true))) := (HK1.out.weaken (T := fun k => k = gp ∨ k = gr) (fun _ h => .inl h)).trans ((Kept.refl (fun k => k = gr) w1).setCell _ _ rfl) (fun _ _ h => .inr h)
    have HE : Hid (elW wb n = true) := by show _ = _; unfold elW; simp; omega
    clear hput
    go_wp2_with fail
    generalize hw2 : w1.setCell ⟨gr, 1, none⟩ (.bool true) = w2 at *
    clear hw2
    go_loopw [6, 7] (fun v6 v7 wr => v6 = .slice none 0 0 ∧ v7 = .int .i64 0 ∧ wr = w2) (fun _ _ _ => 0)
    case atStart => exact ⟨rfl, rfl, rfl⟩
    case round =>
      obtain ⟨rfl, rfl, rfl⟩ := hrel
      go_wp2_with fail
      all_goals
        go_ret
        have hE : elL rdInT wb s = ([], s1) := by rw [HL.out, if_pos HE.out]
        exact ⟨none, 0, 0, rfl, by rw [hE]; exact OwnR.empty InT.len _ _ _, by rw [hE, ← HN.out, HE.out]; exact HPUT.out, HK2.out⟩
  · have hneg' : 0 ≤ n := by omega
    obtain ⟨N, rfl⟩ : ∃ N : Nat, n = N := ⟨n.toNat, by omega⟩
    clear hneg hneg' hnr
    by_cases hbig : 1024 < N
    · have hput : WR (w1.setCell ⟨gr, 1, none⟩ (.bool true)) gr gp s1 true := ⟨HT.put (C := [.pointer (some ⟨gp, 0, none⟩), .bool wb]) HW1.out.1 1 (.bool true), HW1.out.2.1.kept ((Kept.refl (fun k => k = gr) w1).setCell _ _ rfl) (fun k hk (e : k = gr) => by have := HGG.out; omega), HW1.out.2.2⟩
      have hcp := hput.cell.2.1
      have HPUT := Lib.hid hput
      have HK2 : Hid (Kept (fun k => k = gp ∨ k = gr) w (w1.setCell ⟨gr, 1, none⟩ (.bool true))) := (HK1.out.weaken (T := fun k => k = gp ∨ k = gr) (fun _ h => .inl h)).trans ((Kept.refl (fun k => k = gr) w1).setCell _ _ rfl) (fun _ _ h => .inr h)
      have HE : Hid (elW wb (N : Int) = true) := by show _ = _; unfold elW; simp; omega
      clear hput
      go_wp2_with fail
      generalize hw2 : w1.setCell ⟨gr, 1, none⟩ (.bool true) = w2 at *
      clear hw2
      go_loopw [6, 7] (fun v6 v7 wr => v6 = .slice none 0 0 ∧ v7 = .int .i64 0 ∧ wr = w2) (fun _ _ _ => 0)
      case atStart => exact ⟨rfl, rfl, rfl⟩
      case round =>
        obtain ⟨rfl, rfl, rfl⟩ := hrel
        go_wp2_with fail
        all_goals
          go_ret
          have hE : elL rdInT wb s = ([], s1) := by rw [HL.out, if_pos HE.out]
          exact ⟨none, 0, 0, rfl, by rw [hE]; exact OwnR.empty InT.len _ _ _, by rw [hE, ← HN.out, HE.out]; exact HPUT.out, HK2.out⟩
    · have HE : Hid (elW wb (N : Int) = wb) := by show _ = _; unfold elW; cases wb <;> simp <;> omega
      have HK2 : Hid (Kept (fun k => k = gp ∨ k = gr) w w1) := HK1.out.weaken (T := fun k => k = gp ∨ k = gr) (fun _ h => .inl h)
      cases wb with
      | true =>
        have HPUT := HW1
        have hcp := hcw
        obtain ⟨w2, hw2⟩ : ∃ w2, w2 = w1 := ⟨_, rfl⟩
        subst hw2
        clear hcw
        go_wp2_with fail
        go_loopw [6, 7] (fun v6 v7 wr => v6 = .slice none 0 0 ∧ v7 = .int .i64 0 ∧ wr = w2) (fun _ _ _ => 0)
        case atStart => exact ⟨rfl, rfl, rfl⟩
        case round =>
          obtain ⟨rfl, rfl, rfl⟩ := hrel
          go_wp2_with fail
          all_goals
            go_ret
            have hE : elL rdInT true s = ([], s1) := by rw [HL.out, if_pos HE.out]
            exact ⟨none, 0, 0, rfl, by rw [hE]; exact OwnR.empty InT.len _ _ _, by rw [hE, ← HN.out, HE.out]; exact HPUT.out, HK2.out⟩
      | false =>
        have HBIG := Lib.hid hbig
        clear hcw hfw
        go_wp2_with fail
        go_loopw [6, 7] (fun v6 v7 wr => ∃ (k : Nat) (a : Option Addr) (n6 c6 : Nat), k ≤ N ∧ v7 = .int .i64 k ∧ v6 = .slice a n6 c6 ∧ OwnR InT.vs 12 171 wr w.heap.size (.slice a n6 c6) (rRs rdInT k s1).1 ∧ WR wr gr gp (rRs rdInT k s1).2 false ∧ Kept (fun k => k = gp ∨ k = gr) w wr) (fun _ i _ => N - (intOf i).toNat)
        case atStart => exact ⟨0, none, 0, 0, Nat.zero_le _, rfl, rfl, OwnR.empty InT.len _ _ _, HW1.out, HK2.out⟩
        case round =>
          obtain ⟨k, a, n6, c6, hk, rfl, rfl, ho, hw, hkp⟩ := hrel
          have hcw := hw.cell.2.1
          by_cases hlt : k < N
          · have rd := rdc_ins wr gr gp (rRs rdInT k s1).2 false hw (Nat.le_trans (rRs_left rdInT_left k s1) HLEN.out)
            obtain ⟨c, hc⟩ : ∃ c, c = (rdInT (rRs rdInT k s1).2).1 := ⟨_, rfl⟩
            rw [← hc, show (rdInT (rRs rdInT k s1).2).2 = (rRs rdInT (k + 1) s1).2 from rfl] at rd
            simp only [InT.vs] at rd
            have HN1 : Hid ((rRs rdInT (k + 1) s1).1 = (rRs rdInT k s1).1 ++ [c]) := by rw [hc]; rfl
            have HO := Lib.hid ho
            have HKP := Lib.hid hkp
            have hlr := rRs_len rdInT k s1
            have hle : ((rRs rdInT k s1).1.length + [c].length) * 96 ≤ 140737488355328 := by have := HBIG.out; rw [hlr]; simp; omega
            clear hc ho hw hkp hlr
            go_wp2_with fail
            refine rd.mono ?_
            clear rd hcw
            rintro e w3 ⟨rfl, hw3, hk3⟩
            have hbx : Below w3.heap.size w3 (w3.alloc (.cells #[.int .i64 c.no, .int .i64 c.cur, .int .i64 c.mult, .int .i64 c.add, .int .i64 c.set, .int .i64 c.price, .int .i64 c.h0, .int .i64 c.h1, .int .i64 c.h2, .int .i64 c.h3, .int .i64 c.h4, .int .i64 c.h5] 171)) := (Below.refl _ _).alloc (Nat.le_refl _) _
            have hoA : OwnR InT.vs 12 171 (w3.alloc (.cells #[.int .i64 c.no, .int .i64 c.cur, .int .i64 c.mult, .int .i64 c.add, .int .i64 c.set, .int .i64 c.price, .int .i64 c.h0, .int .i64 c.h1, .int .i64 c.h2, .int .i64 c.h3, .int .i64 c.h4, .int .i64 c.h5] 171)) w.heap.size (.slice a n6 c6) (rRs rdInT k s1).1 := (OwnR.keptS HO.out hk3 (fun j hj (e : j = gp) => by have := OwnR.ge HO.out j hj; have := H.out.lt; have := HGG.out; omega)).alloc _
            have hone : Rs InT.vs 12 (w3.alloc (.cells #[.int .i64 c.no, .int .i64 c.cur, .int .i64 c.mult, .int .i64 c.add, .int .i64 c.set, .int .i64 c.price, .int .i64 c.h0, .int .i64 c.h1, .int .i64 c.h2, .int .i64 c.h3, .int .i64 c.h4, .int .i64 c.h5] 171)) (.slice (some ⟨w3.heap.size, 0, none⟩) 1 1) [c] := Rs.one InT.len w3 c 171
            have HWA := Lib.hid (hw3.below hbx)
            have HKA : Hid (Kept (fun k => k = gp ∨ k = gr) w (w3.alloc (.cells #[.int .i64 c.no, .int .i64 c.cur, .int .i64 c.mult, .int .i64 c.add, .int .i64 c.set, .int .i64 c.price, .int .i64 c.h0, .int .i64 c.h1, .int .i64 c.h2, .int .i64 c.h3, .int .i64 c.h4, .int .i64 c.h5] 171))) := (HKP.out.trans hk3 (fun _ _ h => .inl h)).alloc _
            have hbase : w.heap.size ≤ (w3.alloc (.cells #[.int .i64 c.no, .int .i64 c.cur, .int .i64 c.mult, .int .i64 c.add, .int .i64 c.set, .int .i64 c.price, .int .i64 c.h0, .int .i64 c.h1, .int .i64 c.h2, .int .i64 c.h3, .int .i64 c.h4, .int .i64 c.h5] 171)).heap.size := HKA.out.size
            clear hbx hw3 hk3
            go_wp2_with (first
              | (at_builtin; refine wpList_append_rows (v := .slice a n6 c6) rfl (.tmp 34) (.tmp 37) 56 rfl (L := (rRs rdInT k s1).1) (M := [c]) (base := w.heap.size) elem_ins rfl rfl hoA hone InT.one hle (by decide) hbase ?_; intro a7 n7 c7 w7 Hn7 ho7 hg7 hat7 hb7)
              | fail)
            have hge : ∀ j, (Value.slice a n6 c6).ownBlock = some j → w.heap.size ≤ j := OwnR.ge HO.out
            have hkg := Kept.of_grown hg7
            refine ⟨⟨k + 1, a7, n7, c7, by omega, by push_cast; rfl, rfl, by rw [HN1.out]; exact ho7, HWA.out.go (HWA.out.2.1.kept hkg (fun j hj e => by have := hge j e; have := H.out.lt; have := HGG.out; omega)) hkg (fun e => by have := hge gr e; have := H.out.lt; omega), HKA.out.trans hkg (fun j hj e => by have := hge j e; omega)⟩, by simp [intOf]; omega⟩
          · obtain rfl : k = N := by omega
            have HO := Lib.hid ho
            have HW := Lib.hid hw
            have HKP := Lib.hid hkp
            clear ho hw hkp
            go_wp2_with fail
            go_ret
            have hE : elL rdInT false s = rRs rdInT k s1 := by rw [HL.out, HE.out]; simp
            exact ⟨_, _, _, rfl, by rw [hE]; exact HO.out, by rw [hE, ← HN.out, HE.out]; exact HW.out, HKP.out⟩

set_option maxRecDepth 100000 in
set_option maxHeartbeats 3200000 in
theorem rdass_any (w : World) (gr gp : Nat) (s : RS) (wb : Bool) (h : WR w gr gp s wb) (hlen : s.1.length ≤ 70368744177664) : Calls Try.prog 85 #[.pointer (some ⟨gr, 0, none⟩)] w fun e w' => e = .returned (.agg (ivs (rIs 4 s).1).toArray) ∧ WR w' gr gp (rIs 4 s).2 wb ∧ Kept (fun k => k = gp) w w' := by
  have hlt := h.lt
  have hpr := h.2.2
  have hb1 : Below w.heap.size w (w.alloc (.cells #[.int .i64 0, .int .i64 0, .int .i64 0, .int .i64 0] 175)) := (Below.refl _ _).alloc (Nat.le_refl _) _
  have hc : HT (w.alloc (.cells #[.int .i64 0, .int .i64 0, .int .i64 0, .int .i64 0] 175)) w.heap.size 175 (splice (ivs (List.replicate 4 0)) 0 (ivs (rIs 0 s).1)) := by
    have := HT.new (w := w) (t := 175) (C := ivs (List.replicate 4 0))
    simpa [splice, rIs] using this
  have h2 : WR (w.alloc (.cells #[.int .i64 0, .int .i64 0, .int .i64 0, .int .i64 0] 175)) gr gp (rIs 0 s).2 wb := h.below hb1
  have hk : Kept (fun k => k = gp ∨ k = w.heap.size) w (w.alloc (.cells #[.int .i64 0, .int .i64 0, .int .i64 0, .int .i64 0] 175)) := (Kept.of_below hb1).weaken (fun _ h => h.elim)
  have HH := Lib.hid (⟨hlt, hpr⟩ : _ ∧ _)
  have HLEN := Lib.hid hlen
  have HSZ0 : Hid (w.heap.size < (w.alloc (.cells #[.int .i64 0, .int .i64 0, .int .i64 0, .int .i64 0] 175)).heap.size) := by show _ < _; simp
  obtain ⟨g, hg⟩ : ∃ g, g = w.heap.size := ⟨_, rfl⟩
  have HG0 := Lib.hid hg
  clear hlt hpr hb1 h hlen
  have hbx0 : Below (w.alloc (.cells #[.int .i64 0, .int .i64 0, .int .i64 0, .int .i64 0] 175)).heap.size (w.alloc (.cells #[.int .i64 0, .int .i64 0, .int .i64 0, .int .i64 0] 175)) ((w.alloc (.cells #[.int .i64 0, .int .i64 0, .int .i64 0, .int .i64 0] 175)).alloc (.cells #[.pointer (some ⟨w.heap.size, 0, none⟩), .pointer (some ⟨w.heap.size, 1, none⟩), .pointer (some ⟨w.heap.size, 2, none⟩), .pointer (some ⟨w.heap.size, 3, none⟩)] 120)) := (Below.refl _ _).alloc (Nat.le_refl _) _
  have hs0 : ∀ i, i < 4 → ((w.alloc (.cells #[.int .i64 0, .int .i64 0, .int .i64 0, .int .i64 0] 175)).alloc (.cells #[.pointer (some ⟨w.heap.size, 0, none⟩), .pointer (some ⟨w.heap.size, 1, none⟩), .pointer (some ⟨w.heap.size, 2, none⟩), .pointer (some ⟨w.heap.size, 3, none⟩)] 120)).cell? ⟨(w.alloc (.cells #[.int .i64 0, .int .i64 0, .int .i64 0, .int .i64 0] 175)).heap.size, i, none⟩ = some (.pointer (some ⟨w.heap.size, 0 + i, none⟩)) := by
    intro i hi
    have hh : ((w.alloc (.cells #[.int .i64 0, .int .i64 0, .int .i64 0, .int .i64 0] 175)).alloc (.cells #[.pointer (some ⟨w.heap.size, 0, none⟩), .pointer (some ⟨w.heap.size, 1, none⟩), .pointer (some ⟨w.heap.size, 2, none⟩), .pointer (some ⟨w.heap.size, 3, none⟩)] 120)).heap[(w.alloc (.cells #[.int .i64 0, .int .i64 0, .int .i64 0, .int .i64 0] 175)).heap.size]? = some (.cells #[.pointer (some ⟨w.heap.size, 0, none⟩), .pointer (some ⟨w.heap.size, 1, none⟩), .pointer (some ⟨w.heap.size, 2, none⟩), .pointer (some ⟨w.heap.size, 3, none⟩)] 120) := heap_alloc_new _ _
    unfold World.cell?
    rw [hh]
    rcases i with _ | _ | _ | _ | i
    all_goals first | rfl | omega
  have nx0 := into_nx ((w.alloc (.cells #[.int .i64 0, .int .i64 0, .int .i64 0, .int .i64 0] 175)).alloc (.cells #[.pointer (some ⟨w.heap.size, 0, none⟩), .pointer (some ⟨w.heap.size, 1, none⟩), .pointer (some ⟨w.heap.size, 2, none⟩), .pointer (some ⟨w.heap.size, 3, none⟩)] 120)) gr gp w.heap.size (w.alloc (.cells #[.int .i64 0, .int .i64 0, .int .i64 0, .int .i64 0] 175)).heap.size s 0 4 (ivs (List.replicate 4 0)) _ wb (h2.below hbx0) (hc.below hbx0) hs0 (by simp [ivs]) (by have := HH.out; omega) (by have := HH.out; omega) (by have := HSZ0.out; omega) (by omega) HLEN.out
  have hka0 := Lib.hid (hk.alloc (.cells #[.pointer (some ⟨w.heap.size, 0, none⟩), .pointer (some ⟨w.heap.size, 1, none⟩), .pointer (some ⟨w.heap.size, 2, none⟩), .pointer (some ⟨w.heap.size, 3, none⟩)] 120))
  clear hbx0 hs0 h2 hc hk
  rw [show (w.alloc (.cells #[.int .i64 0, .int .i64 0, .int .i64 0, .int .i64 0] 175)).heap.size = w.heap.size + 1 by simp] at nx0
  clear hg
  go_enter Try.func85, Try.ntmps85
  go_wp2_with fail
  refine nx0.mono ?_
  clear nx0
  rintro e w2 ⟨rfl, hw2, hc2, hkk2⟩
  have hk2 := hka0.out.trans hkk2 (fun _ _ h => h)
  clear hkk2
  have HSZ1 : Hid (w.heap.size < w2.heap.size) := hc2.lt
  rw [splice_all (by simp [ivs, rIs_len])] at hc2
  have hl := rIs_len 4 s
  obtain ⟨L, hL⟩ : ∃ L, L = (rIs 4 s).1 := ⟨_, rfl⟩
  simp only [Nat.reduceAdd] at hc2 hw2
  rw [← hL] at hc2 hl
  have HG : Hid (w2.heap[w.heap.size]? = some (.cells (ivs L).toArray 175 (0, 0))) := hc2
  have HSZ : Hid ((Try.prog.info? 175).map (·.size) = some (ivs L).toArray.size) := by show _ = _; rw [ass_sz]; simp [ivs, hl]
  have HWF := Lib.hid hw2
  have HKF := Lib.hid hk2
  have HL := Lib.hid hL
  clear hc2 hw2 hk2 hl hL
  go_wp2_with (first
    | (refine wpList_load_row rfl 175 (.tmp 2) rfl w.heap.size rfl 175 (ivs L).toArray (0, 0) _ HG.out Try.underlying175 rfl HSZ.out ?_)
    | (refine wpList_store_row rfl 175 (.tmp 2) (.tmp 10) rfl w.heap.size (ivs L).toArray rfl rfl 175 (ivs L).toArray HG.out HSZ.out rfl (ivs_one L) ?_)
    | fail)
  refine bodyPost_ret (results_cell_row rfl _ _ w.heap.size 175 (ivs L).toArray (0, 0) _ rfl (setRow_heap _ _ _ _ _ _ HG.out) Try.underlying175 rfl HSZ.out) rfl ?_
  have hkr : Kept (fun k => k = w.heap.size) w2 (w2.setRow w.heap.size (ivs L).toArray) := ⟨rfl, rfl, rfl, by simp [World.setRow], fun k _ hn => setRow_other _ _ _ _ hn⟩
  refine ⟨by rw [HL.out], HWF.out.go (HWF.out.2.1.kept hkr (fun k hk e => by have := HH.out; omega)) hkr (fun e => by have := HH.out; omega), ?_⟩
  exact ((HKF.out.trans hkr (fun i hi e => .inr e)).drop).weaken (fun _ h => h)

def rdAsT (s : RS) : AsT × RS := (⟨(rIs 4 s).1.getD 0 0, (rIs 4 s).1.getD 1 0, (rIs 4 s).1.getD 2 0, (rIs 4 s).1.getD 3 0⟩, (rIs 4 s).2)
theorem rdAsT_vs (s : RS) : (ivs (rIs 4 s).1) = (rdAsT s).1.vs := by
  have h := rIs_len 4 s
  unfold rdAsT
  generalize (rIs 4 s).1 = L at h
  match L, h with
  | [a0, a1, a2, a3], _ => rfl
theorem rdAsT_left (s : RS) : (rdAsT s).2.1.length ≤ s.1.length := rIs_left 4 s
theorem rdc_ass (w : World) (gr gp : Nat) (s : RS) (wb : Bool) (h : WR w gr gp s wb) (hlen : s.1.length ≤ 70368744177664) : Calls Try.prog 85 #[.pointer (some ⟨gr, 0, none⟩)] w fun e w' => e = .returned (.agg (rdAsT s).1.vs.toArray) ∧ WR w' gr gp (rdAsT s).2 wb ∧ Kept (fun k => k = gp) w w' := by
  rw [← rdAsT_vs]
  exact rdass_any w gr gp s wb h hlen
def ElAsT (w : World) (gr gp : Nat) (s : RS) (wb : Bool) (e : Ending) (w' : World) : Prop := ∃ a n c, e = .returned (.slice a n c) ∧ OwnR AsT.vs 4 175 w' w.heap.size (.slice a n c) (elL rdAsT wb s).1 ∧ WR w' gr gp (elL rdAsT wb s).2 (elW wb (rI s).1) ∧ Kept (fun k => k = gp ∨ k = gr) w w'
set_option maxRecDepth 100000 in
set_option maxHeartbeats 3200000 in
theorem elems_ass (w : World) (gr gp : Nat) (s : RS) (wb : Bool) (h : WR w gr gp s wb) (hlen : s.1.length ≤ 70368744177664) :
    Calls Try.prog 84 #[.pointer (some ⟨gr, 0, none⟩), .func (.func 85) #[.pointer (some ⟨gr, 0, none⟩)] #[]] w (ElAsT w gr gp s wb) := by
  have hc0 := h.cell.1
  have ri := RInt_any w gp s h.2.1 hlen
  obtain ⟨n, hn⟩ : ∃ n, n = (rI s).1 := ⟨_, rfl⟩
  obtain ⟨s1, hs1⟩ : ∃ s1, s1 = (rI s).2 := ⟨_, rfl⟩
  rw [← hn, ← hs1] at ri
  have HL : Hid (elL rdAsT wb s = if elW wb n = true then ([], s1) else rRs rdAsT n.toNat s1) := by show _ = _; unfold elL; rw [← hn, ← hs1]
  have HN := Lib.hid hn
  have HLEN : Hid (s1.1.length ≤ 70368744177664) := by show _ ≤ _; rw [hs1]; exact Nat.le_trans (rIs_left 1 s) hlen
  have H := Lib.hid h
  have hgg : gp < gr := h.2.2
  have HGG := Lib.hid hgg
  have hnr : -9223372036854775808 ≤ n ∧ n ≤ 9223372036854775807 := by rw [hn]; exact rI_range s
  clear hn hs1 h hlen hgg
  go_enter Try.func84, Try.ntmps84
  go_wp2_with fail
  refine ri.mono ?_
  clear ri hc0
  rintro e w1 ⟨rfl, hd1, hk1⟩
  have hw1 := H.out.go hd1 hk1 (fun e => by have := HGG.out; omega)
  have HK1 := Lib.hid hk1
  have HW1 := Lib.hid hw1
  have hcw := hw1.cell.2.1
  have hfw := hw1.cell.2.2
  clear hd1 hk1 hw1
  by_cases hneg : n < 0
  · have hd : decide (n < 0) = true := by simpa using hneg
    have hput : WR (w1.setCell ⟨gr, 1, none⟩ (.bool true)) gr gp s1 true := ⟨HT.put (C := [.pointer (some ⟨gp, 0, none⟩), .bool wb]) HW1.out.1 1 (.bool true), HW1.out.2.1.kept ((Kept.refl (fun k => k = gr) w1).setCell _ _ rfl) (fun k hk (e : k = gr) => by have := HGG.out; omega), HW1.out.2.2⟩
    have hcp := hput.cell.2.1
    have HPUT := Lib.hid hput
    have HK2 : Hid (Kept (fun k => k = gp ∨ k = gr) w (w1.setCell ⟨gr, 1, none⟩ (.bool true))) := (HK1.out.weaken (T := fun k => k = gp ∨ k = gr) (fun _ h => .inl h)).trans ((Kept.refl (fun k => k = gr) w1).setCell _ _ rfl) (fun _ _ h => .inr h)
    have HE : Hid (elW wb n = true) := by show _ = _; unfold elW; simp; omega
    clear hput
    go_wp2_with fail
    generalize hw2 : w1.setCell ⟨gr, 1, none⟩ (.bool true) = w2 at *
    clear hw2
    go_loopw [6, 7] (fun v6 v7 wr => v6 = .slice none 0 0 ∧ v7 = .int .i64 0 ∧ wr = w2) (fun _ _ _ => 0)
    case atStart => exact ⟨rfl, rfl, rfl⟩
    case round =>
      obtain ⟨rfl, rfl, rfl⟩ := hrel
      go_wp2_with fail
      all_goals
        go_ret
        have hE : elL rdAsT wb s = ([], s1) := by rw [HL.out, if_pos HE.out]
        exact ⟨none, 0, 0, rfl, by rw [hE]; exact OwnR.empty AsT.len _ _ _, by rw [hE, ← HN.out, HE.out]; exact HPUT.out, HK2.out⟩
  · have hneg' : 0 ≤ n := by omega
    obtain ⟨N, rfl⟩ : ∃ N : Nat, n = N := ⟨n.toNat, by omega⟩
    clear hneg hneg' hnr
    by_cases hbig : 1024 < N
    · have hput : WR (w1.setCell ⟨gr, 1, none⟩ (.bool true)) gr gp s1 true := ⟨HT.put (C := [.pointer (some ⟨gp, 0, none⟩), .bool wb]) HW1.out.1 1 (.bool true), HW1.out.2.1.kept ((Kept.refl (fun k => k = gr) w1).setCell _ _ rfl) (fun k hk (e : k = gr) => by have := HGG.out; omega), HW1.out.2.2⟩
      have hcp := hput.cell.2.1
      have HPUT := Lib.hid hput
      have HK2 : Hid (Kept (fun k => k = gp ∨ k = gr) w (w1.setCell ⟨gr, 1, none⟩ (.bool true))) := (HK1.out.weaken (T := fun k => k = gp ∨ k = gr) (fun _ h => .inl h)).trans ((Kept.refl (fun k => k = gr) w1).setCell _ _ rfl) (fun _ _ h => .inr h)
      have HE : Hid (elW wb (N : Int) = true) := by show _ = _; unfold elW; simp; omega
      clear hput
      go_wp2_with fail
      generalize hw2 : w1.setCell ⟨gr, 1, none⟩ (.bool true) = w2 at *
      clear hw2
      go_loopw [6, 7] (fun v6 v7 wr => v6 = .slice none 0 0 ∧ v7 = .int .i64 0 ∧ wr = w2) (fun _ _ _ => 0)
      case atStart => exact ⟨rfl, rfl, rfl⟩
      case round =>
        obtain ⟨rfl, rfl, rfl⟩ := hrel
        go_wp2_with fail
        all_goals
          go_ret
          have hE : elL rdAsT wb s = ([], s1) := by rw [HL.out, if_pos HE.out]
          exact ⟨none, 0, 0, rfl, by rw [hE]; exact OwnR.empty AsT.len _ _ _, by rw [hE, ← HN.out, HE.out]; exact HPUT.out, HK2.out⟩
    · have HE : Hid (elW wb (N : Int) = wb) := by show _ = _; unfold elW; cases wb <;> simp <;> omega
      have HK2 : Hid (Kept (fun k => k = gp ∨ k = gr) w w1) := HK1.out.weaken (T := fun k => k = gp ∨ k = gr) (fun _ h => .inl h)
      cases wb with
      | true =>
        have HPUT := HW1
        have hcp := hcw
        obtain ⟨w2, hw2⟩ : ∃ w2, w2 = w1 := ⟨_, rfl⟩
        subst hw2
        clear hcw
        go_wp2_with fail
        go_loopw [6, 7] (fun v6 v7 wr => v6 = .slice none 0 0 ∧ v7 = .int .i64 0 ∧ wr = w2) (fun _ _ _ => 0)
        case atStart => exact ⟨rfl, rfl, rfl⟩
        case round =>
          obtain ⟨rfl, rfl, rfl⟩ := hrel
          go_wp2_with fail
          all_goals
            go_ret
            have hE : elL rdAsT true s = ([], s1) := by rw [HL.out, if_pos HE.out]
            exact ⟨none, 0, 0, rfl, by rw [hE]; exact OwnR.empty AsT.len _ _ _, by rw [hE, ← HN.out, HE.out]; exact HPUT.out, HK2.out⟩
      | false =>
        have HBIG := Lib.hid hbig
        clear hcw hfw
        go_wp2_with fail
        go_loopw [6, 7] (fun v6 v7 wr => ∃ (k : Nat) (a : Option Addr) (n6 c6 : Nat), k ≤ N ∧ v7 = .int .i64 k ∧ v6 = .slice a n6 c6 ∧ OwnR AsT.vs 4 175 wr w.heap.size (.slice a n6 c6) (rRs rdAsT k s1).1 ∧ WR wr gr gp (rRs rdAsT k s1).2 false ∧ Kept (fun k => k = gp ∨ k = gr) w wr) (fun _ i _ => N - (intOf i).toNat)
        case atStart => exact ⟨0, none, 0, 0, Nat.zero_le _, rfl, rfl, OwnR.empty AsT.len _ _ _, HW1.out, HK2.out⟩
        case round =>
          obtain ⟨k, a, n6, c6, hk, rfl, rfl, ho, hw, hkp⟩ := hrel
          have hcw := hw.cell.2.1
          by_cases hlt : k < N
          · have rd := rdc_ass wr gr gp (rRs rdAsT k s1).2 false hw (Nat.le_trans (rRs_left rdAsT_left k s1) HLEN.out)
            obtain ⟨c, hc⟩ : ∃ c, c = (rdAsT (rRs rdAsT k s1).2).1 := ⟨_, rfl⟩
            rw [← hc, show (rdAsT (rRs rdAsT k s1).2).2 = (rRs rdAsT (k + 1) s1).2 from rfl] at rd
            simp only [AsT.vs] at rd
            have HN1 : Hid ((rRs rdAsT (k + 1) s1).1 = (rRs rdAsT k s1).1 ++ [c]) := by rw [hc]; rfl
            have HO := Lib.hid ho
            have HKP := Lib.hid hkp
            have hlr := rRs_len rdAsT k s1
            have hle : ((rRs rdAsT k s1).1.length + [c].length) * 32 ≤ 140737488355328 := by have := HBIG.out; rw [hlr]; simp; omega
            clear hc ho hw hkp hlr
            go_wp2_with fail
            refine rd.mono ?_
            clear rd hcw
            rintro e w3 ⟨rfl, hw3, hk3⟩
            have hbx : Below w3.heap.size w3 (w3.alloc (.cells #[.int .i64 c.no, .int .i64 c.cur, .int .i64 c.price, .int .i64 c.cut] 175)) := (Below.refl _ _).alloc (Nat.le_refl _) _
            have hoA : OwnR AsT.vs 4 175 (w3.alloc (.cells #[.int .i64 c.no, .int .i64 c.cur, .int .i64 c.price, .int .i64 c.cut] 175)) w.heap.size (.slice a n6 c6) (rRs rdAsT k s1).1 := (OwnR.keptS HO.out hk3 (fun j hj (e : j = gp) => by have := OwnR.ge HO.out j hj; have := H.out.lt; have := HGG.out; omega)).alloc _
            have hone : Rs AsT.vs 4 (w3.alloc (.cells #[.int .i64 c.no, .int .i64 c.cur, .int .i64 c.price, .int .i64 c.cut] 175)) (.slice (some ⟨w3.heap.size, 0, none⟩) 1 1) [c] := Rs.one AsT.len w3 c 175
            have HWA := Lib.hid (hw3.below hbx)
            have HKA : Hid (Kept (fun k => k = gp ∨ k = gr) w (w3.alloc (.cells #[.int .i64 c.no, .int .i64 c.cur, .int .i64 c.price, .int .i64 c.cut] 175))) := (HKP.out.trans hk3 (fun _ _ h => .inl h)).alloc _
            have hbase : w.heap.size ≤ (w3.alloc (.cells #[.int .i64 c.no, .int .i64 c.cur, .int .i64 c.price, .int .i64 c.cut] 175)).heap.size := HKA.out.size
            clear hbx hw3 hk3
            go_wp2_with (first
              | (at_builtin; refine wpList_append_rows (v := .slice a n6 c6) rfl (.tmp 34) (.tmp 37) 57 rfl (L := (rRs rdAsT k s1).1) (M := [c]) (base := w.heap.size) elem_ass rfl rfl hoA hone AsT.one hle (by decide) hbase ?_; intro a7 n7 c7 w7 Hn7 ho7 hg7 hat7 hb7)
              | fail)
            have hge : ∀ j, (Value.slice a n6 c6).ownBlock = some j → w.heap.size ≤ j := OwnR.ge HO.out
            have hkg := Kept.of_grown hg7
            refine ⟨⟨k + 1, a7, n7, c7, by omega, by push_cast; rfl, rfl, by rw [HN1.out]; exact ho7, HWA.out.go (HWA.out.2.1.kept hkg (fun j hj e => by have := hge j e; have := H.out.lt; have := HGG.out; omega)) hkg (fun e => by have := hge gr e; have := H.out.lt; omega), HKA.out.trans hkg (fun j hj e => by have := hge j e; omega)⟩, by simp [intOf]; omega⟩
          · obtain rfl : k = N := by omega
            have HO := Lib.hid ho
            have HW := Lib.hid hw
            have HKP := Lib.hid hkp
            clear ho hw hkp
            go_wp2_with fail
            go_ret
            have hE : elL rdAsT false s = rRs rdAsT k s1 := by rw [HL.out, HE.out]; simp
            exact ⟨_, _, _, rfl, by rw [hE]; exact HO.out, by rw [hE, ← HN.out, HE.out]; exact HW.out, HKP.out⟩

def rdTrT (s : RS) : TrT × RS := (⟨(rIs 6 s).1.getD 0 0, (rIs 6 s).1.getD 1 0, (rIs 6 s).1.getD 2 0, (rIs 6 s).1.getD 3 0, (rIs 6 s).1.getD 4 0, (rIs 6 s).1.getD 5 0, (rM (rIs 6 s).2).1⟩, (rM (rIs 6 s).2).2)
theorem rdTrT_left (s : RS) : (rdTrT s).2.1.length ≤ s.1.length := Nat.le_trans (rM_len _) (rIs_left 6 s)
set_option maxRecDepth 100000 in
set_option maxHeartbeats 3200000 in
theorem rdc_trd (w : World) (gr gp : Nat) (s : RS) (wb : Bool) (h : WR w gr gp s wb) (hlen : s.1.length ≤ 70368744177664) : Calls Try.prog 87 #[.pointer (some ⟨gr, 0, none⟩)] w fun e w' => e = .returned (.agg (rdTrT s).1.vs.toArray) ∧ WR w' gr gp (rdTrT s).2 wb ∧ Kept (fun k => k = gp) w w' := by
  have hlt := h.lt
  have hpr := h.2.2
  have hb1 : Below w.heap.size w (w.alloc (.cells #[.int .i64 0, .int .i64 0, .int .i64 0, .int .i64 0, .int .i64 0, .int .i64 0, .bool false] 179)) := (Below.refl _ _).alloc (Nat.le_refl _) _
  have hc : HT (w.alloc (.cells #[.int .i64 0, .int .i64 0, .int .i64 0, .int .i64 0, .int .i64 0, .int .i64 0, .bool false] 179)) w.heap.size 179 (splice [.int .i64 0, .int .i64 0, .int .i64 0, .int .i64 0, .int .i64 0, .int .i64 0, .bool false] 0 (ivs (rIs 0 s).1)) := by
    have := HT.new (w := w) (t := 179) (C := [.int .i64 0, .int .i64 0, .int .i64 0, .int .i64 0, .int .i64 0, .int .i64 0, .bool false])
    simpa [splice, rIs] using this
  have h2 : WR (w.alloc (.cells #[.int .i64 0, .int .i64 0, .int .i64 0, .int .i64 0, .int .i64 0, .int .i64 0, .bool false] 179)) gr gp (rIs 0 s).2 wb := h.below hb1
  have hk : Kept (fun k => k = gp ∨ k = w.heap.size) w (w.alloc (.cells #[.int .i64 0, .int .i64 0, .int .i64 0, .int .i64 0, .int .i64 0, .int .i64 0, .bool false] 179)) := (Kept.of_below hb1).weaken (fun _ h => h.elim)
  have HH := Lib.hid (⟨hlt, hpr⟩ : _ ∧ _)
  have HLEN := Lib.hid hlen
  have HSZ0 : Hid (w.heap.size < (w.alloc (.cells #[.int .i64 0, .int .i64 0, .int .i64 0, .int .i64 0, .int .i64 0, .int .i64 0, .bool false] 179)).heap.size) := by show _ < _; simp
  obtain ⟨g, hg⟩ : ∃ g, g = w.heap.size := ⟨_, rfl⟩
  have HG0 := Lib.hid hg
  clear hlt hpr hb1 h hlen
  have hbx0 : Below (w.alloc (.cells #[.int .i64 0, .int .i64 0, .int .i64 0, .int .i64 0, .int .i64 0, .int .i64 0, .bool false] 179)).heap.size (w.alloc (.cells #[.int .i64 0, .int .i64 0, .int .i64 0, .int .i64 0, .int .i64 0, .int .i64 0, .bool false] 179)) ((w.alloc (.cells #[.int .i64 0, .int .i64 0, .int .i64 0, .int .i64 0, .int .i64 0, .int .i64 0, .bool false] 179)).alloc (.cells #[.pointer (some ⟨w.heap.size, 0, none⟩), .pointer (some ⟨w.heap.size, 1, none⟩), .pointer (some ⟨w.heap.size, 2, none⟩), .pointer (some ⟨w.heap.size, 3, none⟩), .pointer (some ⟨w.heap.size, 4, none⟩), .pointer (some ⟨w.heap.size, 5, none⟩)] 120)) := (Below.refl _ _).alloc (Nat.le_refl _) _
  have hs0 : ∀ i, i < 6 → ((w.alloc (.cells #[.int .i64 0, .int .i64 0, .int .i64 0, .int .i64 0, .int .i64 0, .int .i64 0, .bool false] 179)).alloc (.cells #[.pointer (some ⟨w.heap.size, 0, none⟩), .pointer (some ⟨w.heap.size, 1, none⟩), .pointer (some ⟨w.heap.size, 2, none⟩), .pointer (some ⟨w.heap.size, 3, none⟩), .pointer (some ⟨w.heap.size, 4, none⟩), .pointer (some ⟨w.heap.size, 5, none⟩)] 120)).cell? ⟨(w.alloc (.cells #[.int .i64 0, .int .i64 0, .int .i64 0, .int .i64 0, .int .i64 0, .int .i64 0, .bool false] 179)).heap.size, i, none⟩ = some (.pointer (some ⟨w.heap.size, 0 + i, none⟩)) := by
    intro i hi
    have hh : ((w.alloc (.cells #[.int .i64 0, .int .i64 0, .int .i64 0, .int .i64 0, .int .i64 0, .int .i64 0, .bool false] 179)).alloc (.cells #[.pointer (some ⟨w.heap.size, 0, none⟩), .pointer (some ⟨w.heap.size, 1, none⟩), .pointer (some ⟨w.heap.size, 2, none⟩), .pointer (some ⟨w.heap.size, 3, none⟩), .pointer (some ⟨w.heap.size, 4, none⟩), .pointer (some ⟨w.heap.size, 5, none⟩)] 120)).heap[(w.alloc (.cells #[.int .i64 0, .int .i64 0, .int .i64 0, .int .i64 0, .int .i64 0, .int .i64 0, .bool false] 179)).heap.size]? = some (.cells #[.pointer (some ⟨w.heap.size, 0, none⟩), .pointer (some ⟨w.heap.size, 1, none⟩), .pointer (some ⟨w.heap.size, 2, none⟩), .pointer (some ⟨w.heap.size, 3, none⟩), .pointer (some ⟨w.heap.size, 4, none⟩), .pointer (some ⟨w.heap.size, 5, none⟩)] 120) := heap_alloc_new _ _
    unfold World.cell?
    rw [hh]
    rcases i with _ | _ | _ | _ | _ | _ | i
    all_goals first | rfl | omega
  have nx0 := into_nx ((w.alloc (.cells #[.int .i64 0, .int .i64 0, .int .i64 0, .int .i64 0, .int .i64 0, .int .i64 0, .bool false] 179)).alloc (.cells #[.pointer (some ⟨w.heap.size, 0, none⟩), .pointer (some ⟨w.heap.size, 1, none⟩), .pointer (some ⟨w.heap.size, 2, none⟩), .pointer (some ⟨w.heap.size, 3, none⟩), .pointer (some ⟨w.heap.size, 4, none⟩), .pointer (some ⟨w.heap.size, 5, none⟩)] 120)) gr gp w.heap.size (w.alloc (.cells #[.int .i64 0, .int .i64 0, .int .i64 0, .int .i64 0, .int .i64 0, .int .i64 0, .bool false] 179)).heap.size s 0 6 [.int .i64 0, .int .i64 0, .int .i64 0, .int .i64 0, .int .i64 0, .int .i64 0, .bool false] _ wb (h2.below hbx0) (hc.below hbx0) hs0 (by simp) (by have := HH.out; omega) (by have := HH.out; omega) (by have := HSZ0.out; omega) (by omega) HLEN.out
  have hka0 := Lib.hid (hk.alloc (.cells #[.pointer (some ⟨w.heap.size, 0, none⟩), .pointer (some ⟨w.heap.size, 1, none⟩), .pointer (some ⟨w.heap.size, 2, none⟩), .pointer (some ⟨w.heap.size, 3, none⟩), .pointer (some ⟨w.heap.size, 4, none⟩), .pointer (some ⟨w.heap.size, 5, none⟩)] 120))
  clear hbx0 hs0 h2 hc hk
  rw [show (w.alloc (.cells #[.int .i64 0, .int .i64 0, .int .i64 0, .int .i64 0, .int .i64 0, .int .i64 0, .bool false] 179)).heap.size = w.heap.size + 1 by simp] at nx0
  clear hg
  go_enter Try.func87, Try.ntmps87
  go_wp2_with fail
  refine nx0.mono ?_
  clear nx0
  rintro e w2 ⟨rfl, hw2, hc2, hkk2⟩
  have hk2 := hka0.out.trans hkk2 (fun _ _ h => h)
  clear hkk2
  have HSZ1 : Hid (w.heap.size < w2.heap.size) := hc2.lt
  simp only [Nat.reduceAdd] at hc2 hw2
  have hl := rIs_len 6 s
  obtain ⟨s6, hs6⟩ : ∃ x, x = (rIs 6 s).2 := ⟨_, rfl⟩
  obtain ⟨y0, y1, y2, y3, y4, y5, hy⟩ : ∃ y0 y1 y2 y3 y4 y5, (rIs 6 s).1 = [y0, y1, y2, y3, y4, y5] := by
    generalize (rIs 6 s).1 = L at hl
    match L, hl with
    | [a, b, c, d, e, f], _ => exact ⟨a, b, c, d, e, f, rfl⟩
  rw [hy] at hc2
  rw [← hs6] at hw2
  have hc3 : HT w2 w.heap.size 179 [.int .i64 y0, .int .i64 y1, .int .i64 y2, .int .i64 y3, .int .i64 y4, .int .i64 y5, .bool false] := hc2
  have rm := RMark_any w2 gp s6 hw2.2.1
  obtain ⟨b, hb⟩ : ∃ b, b = (rM s6).1 := ⟨_, rfl⟩
  obtain ⟨s7, hs7⟩ : ∃ x, x = (rM s6).2 := ⟨_, rfl⟩
  rw [← hb, ← hs7] at rm
  have HR : Hid ((rdTrT s).1.vs = [.int .i64 y0, .int .i64 y1, .int .i64 y2, .int .i64 y3, .int .i64 y4, .int .i64 y5, .bool b] ∧ (rdTrT s).2 = s7) := by
    show _ ∧ _
    unfold rdTrT TrT.vs
    rw [hy, ← hs6, ← hb, ← hs7]
    exact ⟨rfl, rfl⟩
  have hcr := hw2.cell.1
  have HW2 := Lib.hid hw2
  have HC3 := Lib.hid hc3
  have HK2 := Lib.hid hk2
  clear hc2 hl hs6 hy hb hs7 hw2 hc3 hk2
  go_wp2_with fail
  refine rm.mono ?_
  clear rm hcr
  rintro e w3 ⟨rfl, hd3, hk3⟩
  have hw3 := HW2.out.go hd3 hk3 (fun e => by have := HH.out; omega)
  have hc4 := HC3.out.keptH hk3 (fun e => by have := HH.out; omega)
  have hcell := hc4.cell (j := 6) rfl
  have hfr := hc4.frozen 6
  have hw5 := hw3.set 6 (.bool b) HH.out.1
  have hc5 : HT (w3.setCell ⟨w.heap.size, 6, none⟩ (.bool b)) w.heap.size 179 [.int .i64 y0, .int .i64 y1, .int .i64 y2, .int .i64 y3, .int .i64 y4, .int .i64 y5, .bool b] := hc4.put' 6 _ rfl
  have hk5 : Kept (fun k => k = gp ∨ k = w.heap.size) w (w3.setCell ⟨w.heap.size, 6, none⟩ (.bool b)) := (HK2.out.trans hk3 (fun _ _ h => .inl h)).setCell _ _ (.inr rfl)
  have HG : Hid ((w3.setCell ⟨w.heap.size, 6, none⟩ (.bool b)).heap[w.heap.size]? = some (.cells #[.int .i64 y0, .int .i64 y1, .int .i64 y2, .int .i64 y3, .int .i64 y4, .int .i64 y5, .bool b] 179 (0, 0))) := hc5
  have HSZ : Hid ((Try.prog.info? 179).map (·.size) = some (#[.int .i64 y0, .int .i64 y1, .int .i64 y2, .int .i64 y3, .int .i64 y4, .int .i64 y5, .bool b] : Array Value).size) := by show _ = _; rw [trd_sz]; rfl
  have HONE : Hid ((#[.int .i64 y0, .int .i64 y1, .int .i64 y2, .int .i64 y3, .int .i64 y4, .int .i64 y5, .bool b] : Array Value).all (·.oneCell') = true) := by show _ = true; simp [Value.oneCell']
  have HWF := Lib.hid hw5
  have HKF := Lib.hid hk5
  clear hd3 hk3 hw3 hc4 hw5 hc5 hk5
  go_wp2_with (first
    | (refine wpList_load_row rfl 179 (.tmp 2) rfl w.heap.size rfl 179 #[.int .i64 y0, .int .i64 y1, .int .i64 y2, .int .i64 y3, .int .i64 y4, .int .i64 y5, .bool b] (0, 0) _ HG.out Try.underlying179 rfl HSZ.out ?_)
    | (refine wpList_store_row rfl 179 (.tmp 2) (.tmp 18) rfl w.heap.size #[.int .i64 y0, .int .i64 y1, .int .i64 y2, .int .i64 y3, .int .i64 y4, .int .i64 y5, .bool b] rfl rfl 179 #[.int .i64 y0, .int .i64 y1, .int .i64 y2, .int .i64 y3, .int .i64 y4, .int .i64 y5, .bool b] HG.out HSZ.out rfl HONE.out ?_)
    | fail)
  refine bodyPost_ret (results_cell_row rfl _ _ w.heap.size 179 #[.int .i64 y0, .int .i64 y1, .int .i64 y2, .int .i64 y3, .int .i64 y4, .int .i64 y5, .bool b] (0, 0) _ rfl (setRow_heap _ _ _ _ _ _ HG.out) Try.underlying179 rfl HSZ.out) rfl ?_
  generalize w3.setCell ⟨w.heap.size, 6, none⟩ (.bool b) = w9 at *
  have hkr : Kept (fun k => k = w.heap.size) w9 (w9.setRow w.heap.size #[.int .i64 y0, .int .i64 y1, .int .i64 y2, .int .i64 y3, .int .i64 y4, .int .i64 y5, .bool b]) := ⟨rfl, rfl, rfl, by simp [World.setRow], fun k _ hn => setRow_other _ _ _ _ hn⟩
  refine ⟨by rw [HR.out.1], by rw [HR.out.2]; exact HWF.out.go (HWF.out.2.1.kept hkr (fun k hk e => by have := HH.out; omega)) hkr (fun e => by have := HH.out; omega), ?_⟩
  exact ((HKF.out.trans hkr (fun i hi e => .inr e)).drop).weaken (fun _ h => h)
def ElTrT (w : World) (gr gp : Nat) (s : RS) (wb : Bool) (e : Ending) (w' : World) : Prop := ∃ a n c, e = .returned (.slice a n c) ∧ OwnR TrT.vs 7 179 w' w.heap.size (.slice a n c) (elL rdTrT wb s).1 ∧ WR w' gr gp (elL rdTrT wb s).2 (elW wb (rI s).1) ∧ Kept (fun k => k = gp ∨ k = gr) w w'
set_option maxRecDepth 100000 in
set_option maxHeartbeats 3200000 in
theorem elems_trd (w : World) (gr gp : Nat) (s : RS) (wb : Bool) (h : WR w gr gp s wb) (hlen : s.1.length ≤ 70368744177664) :
    Calls Try.prog 86 #[.pointer (some ⟨gr, 0, none⟩), .func (.func 87) #[.pointer (some ⟨gr, 0, none⟩)] #[]] w (ElTrT w gr gp s wb) := by
  have hc0 := h.cell.1
  have ri := RInt_any w gp s h.2.1 hlen
  obtain ⟨n, hn⟩ : ∃ n, n = (rI s).1 := ⟨_, rfl⟩
  obtain ⟨s1, hs1⟩ : ∃ s1, s1 = (rI s).2 := ⟨_, rfl⟩
  rw [← hn, ← hs1] at ri
  have HL : Hid (elL rdTrT wb s = if elW wb n = true then ([], s1) else rRs rdTrT n.toNat s1) := by show _ = _; unfold elL; rw [← hn, ← hs1]
  have HN := Lib.hid hn
  have HLEN : Hid (s1.1.length ≤ 70368744177664) := by show _ ≤ _; rw [hs1]; exact Nat.le_trans (rIs_left 1 s) hlen
  have H := Lib.hid h
  have hgg : gp < gr := h.2.2
  have HGG := Lib.hid hgg
  have hnr : -9223372036854775808 ≤ n ∧ n ≤ 9223372036854775807 := by rw [hn]; exact rI_range s
  clear hn hs1 h hlen hgg
  go_enter Try.func86, Try.ntmps86
  go_wp2_with fail
  refine ri.mono ?_
  clear ri hc0
  rintro e w1 ⟨rfl, hd1, hk1⟩
  have hw1 := H.out.go hd1 hk1 (fun e => by have := HGG.out; omega)
  have HK1 := Lib.hid hk1
  have HW1 := Lib.hid hw1
  have hcw := hw1.cell.2.1
  have hfw := hw1.cell.2.2
  clear hd1 hk1 hw1
  by_cases hneg : n < 0
  · have hd : decide (n < 0) = true := by simpa using hneg
    have hput : WR (w1.setCell ⟨gr, 1, none⟩ (.bool true)) gr gp s1 true := ⟨HT.put (C := [.pointer (some ⟨gp, 0, none⟩), .bool wb]) HW1.out.1 1 (.bool true), HW1.out.2.1.kept ((Kept.refl (fun k => k = gr) w1).setCell _ _ rfl) (fun k hk (e : k = gr) => by have := HGG.out; omega), HW1.out.2.2⟩
    have hcp := hput.cell.2.1
    have HPUT := Lib.hid hput
    have HK2 : Hid (Kept (fun k => k = gp ∨ k = gr) w (w1.setCell ⟨gr, 1, none⟩ (.bool true))) := (HK1.out.weaken (T := fun k => k = gp ∨ k = gr) (fun _ h => .inl h)).trans ((Kept.refl (fun k => k = gr) w1).setCell _ _ rfl) (fun _ _ h => .inr h)
    have HE : Hid (elW wb n = true) := by show _ = _; unfold elW; simp; omega
    clear hput
    go_wp2_with fail
    generalize hw2 : w1.setCell ⟨gr, 1, none⟩ (.bool true) = w2 at *
    clear hw2
    go_loopw [6, 7] (fun v6 v7 wr => v6 = .slice none 0 0 ∧ v7 = .int .i64 0 ∧ wr = w2) (fun _ _ _ => 0)
    case atStart => exact ⟨rfl, rfl, rfl⟩
    case round =>
      obtain ⟨rfl, rfl, rfl⟩ := hrel
      go_wp2_with fail
      all_goals
        go_ret
        have hE : elL rdTrT wb s = ([], s1) := by rw [HL.out, if_pos HE.out]
        exact ⟨none, 0, 0, rfl, by rw [hE]; exact OwnR.empty TrT.len _ _ _, by rw [hE, ← HN.out, HE.out]; exact HPUT.out, HK2.out⟩
  · have hneg' : 0 ≤ n := by omega
    obtain ⟨N, rfl⟩ : ∃ N : Nat, n = N := ⟨n.toNat, by omega⟩
    clear hneg hneg' hnr
    by_cases hbig : 1024 < N
    · have hput : WR (w1.setCell ⟨gr, 1, none⟩ (.bool true)) gr gp s1 true := ⟨HT.put (C := [.pointer (some ⟨gp, 0, none⟩), .bool wb]) HW1.out.1 1 (.bool true), HW1.out.2.1.kept ((Kept.refl (fun k => k = gr) w1).setCell _ _ rfl) (fun k hk (e : k = gr) => by have := HGG.out; omega), HW1.out.2.2⟩
      have hcp := hput.cell.2.1
      have HPUT := Lib.hid hput
      have HK2 : Hid (Kept (fun k => k = gp ∨ k = gr) w (w1.setCell ⟨gr, 1, none⟩ (.bool true))) := (HK1.out.weaken (T := fun k => k = gp ∨ k = gr) (fun _ h => .inl h)).trans ((Kept.refl (fun k => k = gr) w1).setCell _ _ rfl) (fun _ _ h => .inr h)
      have HE : Hid (elW wb (N : Int) = true) := by show _ = _; unfold elW; simp; omega
      clear hput
      go_wp2_with fail
      generalize hw2 : w1.setCell ⟨gr, 1, none⟩ (.bool true) = w2 at *
      clear hw2
      go_loopw [6, 7] (fun v6 v7 wr => v6 = .slice none 0 0 ∧ v7 = .int .i64 0 ∧ wr = w2) (fun _ _ _ => 0)
      case atStart => exact ⟨rfl, rfl, rfl⟩
      case round =>
        obtain ⟨rfl, rfl, rfl⟩ := hrel
        go_wp2_with fail
        all_goals
          go_ret
          have hE : elL rdTrT wb s = ([], s1) := by rw [HL.out, if_pos HE.out]
          exact ⟨none, 0, 0, rfl, by rw [hE]; exact OwnR.empty TrT.len _ _ _, by rw [hE, ← HN.out, HE.out]; exact HPUT.out, HK2.out⟩
    · have HE : Hid (elW wb (N : Int) = wb) := by show _ = _; unfold elW; cases wb <;> simp <;> omega
      have HK2 : Hid (Kept (fun k => k = gp ∨ k = gr) w w1) := HK1.out.weaken (T := fun k => k = gp ∨ k = gr) (fun _ h => .inl h)
      cases wb with
      | true =>
        have HPUT := HW1
        have hcp := hcw
        obtain ⟨w2, hw2⟩ : ∃ w2, w2 = w1 := ⟨_, rfl⟩
        subst hw2
        clear hcw
        go_wp2_with fail
        go_loopw [6, 7] (fun v6 v7 wr => v6 = .slice none 0 0 ∧ v7 = .int .i64 0 ∧ wr = w2) (fun _ _ _ => 0)
        case atStart => exact ⟨rfl, rfl, rfl⟩
        case round =>
          obtain ⟨rfl, rfl, rfl⟩ := hrel
          go_wp2_with fail
          all_goals
            go_ret
            have hE : elL rdTrT true s = ([], s1) := by rw [HL.out, if_pos HE.out]
            exact ⟨none, 0, 0, rfl, by rw [hE]; exact OwnR.empty TrT.len _ _ _, by rw [hE, ← HN.out, HE.out]; exact HPUT.out, HK2.out⟩
      | false =>
        have HBIG := Lib.hid hbig
        clear hcw hfw
        go_wp2_with fail
        go_loopw [6, 7] (fun v6 v7 wr => ∃ (k : Nat) (a : Option Addr) (n6 c6 : Nat), k ≤ N ∧ v7 = .int .i64 k ∧ v6 = .slice a n6 c6 ∧ OwnR TrT.vs 7 179 wr w.heap.size (.slice a n6 c6) (rRs rdTrT k s1).1 ∧ WR wr gr gp (rRs rdTrT k s1).2 false ∧ Kept (fun k => k = gp ∨ k = gr) w wr) (fun _ i _ => N - (intOf i).toNat)
        case atStart => exact ⟨0, none, 0, 0, Nat.zero_le _, rfl, rfl, OwnR.empty TrT.len _ _ _, HW1.out, HK2.out⟩
        case round =>
          obtain ⟨k, a, n6, c6, hk, rfl, rfl, ho, hw, hkp⟩ := hrel
          have hcw := hw.cell.2.1
          by_cases hlt : k < N
          · have rd := rdc_trd wr gr gp (rRs rdTrT k s1).2 false hw (Nat.le_trans (rRs_left rdTrT_left k s1) HLEN.out)
            obtain ⟨c, hc⟩ : ∃ c, c = (rdTrT (rRs rdTrT k s1).2).1 := ⟨_, rfl⟩
            rw [← hc, show (rdTrT (rRs rdTrT k s1).2).2 = (rRs rdTrT (k + 1) s1).2 from rfl] at rd
            simp only [TrT.vs] at rd
            have HN1 : Hid ((rRs rdTrT (k + 1) s1).1 = (rRs rdTrT k s1).1 ++ [c]) := by rw [hc]; rfl
            have HO := Lib.hid ho
            have HKP := Lib.hid hkp
            have hlr := rRs_len rdTrT k s1
            have hle : ((rRs rdTrT k s1).1.length + [c].length) * 56 ≤ 140737488355328 := by have := HBIG.out; rw [hlr]; simp; omega
            clear hc ho hw hkp hlr
            go_wp2_with fail
            refine rd.mono ?_
            clear rd hcw
            rintro e w3 ⟨rfl, hw3, hk3⟩
            have hbx : Below w3.heap.size w3 (w3.alloc (.cells #[.int .i64 c.no, .int .i64 c.buyer, .int .i64 c.seller, .int .i64 c.inst, .int .i64 c.qty, .int .i64 c.price, .bool c.off] 179)) := (Below.refl _ _).alloc (Nat.le_refl _) _
            have hoA : OwnR TrT.vs 7 179 (w3.alloc (.cells #[.int .i64 c.no, .int .i64 c.buyer, .int .i64 c.seller, .int .i64 c.inst, .int .i64 c.qty, .int .i64 c.price, .bool c.off] 179)) w.heap.size (.slice a n6 c6) (rRs rdTrT k s1).1 := (OwnR.keptS HO.out hk3 (fun j hj (e : j = gp) => by have := OwnR.ge HO.out j hj; have := H.out.lt; have := HGG.out; omega)).alloc _
            have hone : Rs TrT.vs 7 (w3.alloc (.cells #[.int .i64 c.no, .int .i64 c.buyer, .int .i64 c.seller, .int .i64 c.inst, .int .i64 c.qty, .int .i64 c.price, .bool c.off] 179)) (.slice (some ⟨w3.heap.size, 0, none⟩) 1 1) [c] := Rs.one TrT.len w3 c 179
            have HWA := Lib.hid (hw3.below hbx)
            have HKA : Hid (Kept (fun k => k = gp ∨ k = gr) w (w3.alloc (.cells #[.int .i64 c.no, .int .i64 c.buyer, .int .i64 c.seller, .int .i64 c.inst, .int .i64 c.qty, .int .i64 c.price, .bool c.off] 179))) := (HKP.out.trans hk3 (fun _ _ h => .inl h)).alloc _
            have hbase : w.heap.size ≤ (w3.alloc (.cells #[.int .i64 c.no, .int .i64 c.buyer, .int .i64 c.seller, .int .i64 c.inst, .int .i64 c.qty, .int .i64 c.price, .bool c.off] 179)).heap.size := HKA.out.size
            clear hbx hw3 hk3
            go_wp2_with (first
              | (at_builtin; refine wpList_append_rows (v := .slice a n6 c6) rfl (.tmp 34) (.tmp 37) 60 rfl (L := (rRs rdTrT k s1).1) (M := [c]) (base := w.heap.size) elem_trd rfl rfl hoA hone TrT.one hle (by decide) hbase ?_; intro a7 n7 c7 w7 Hn7 ho7 hg7 hat7 hb7)
              | fail)
            have hge : ∀ j, (Value.slice a n6 c6).ownBlock = some j → w.heap.size ≤ j := OwnR.ge HO.out
            have hkg := Kept.of_grown hg7
            refine ⟨⟨k + 1, a7, n7, c7, by omega, by push_cast; rfl, rfl, by rw [HN1.out]; exact ho7, HWA.out.go (HWA.out.2.1.kept hkg (fun j hj e => by have := hge j e; have := H.out.lt; have := HGG.out; omega)) hkg (fun e => by have := hge gr e; have := H.out.lt; omega), HKA.out.trans hkg (fun j hj e => by have := hge j e; omega)⟩, by simp [intOf]; omega⟩
          · obtain rfl : k = N := by omega
            have HO := Lib.hid ho
            have HW := Lib.hid hw
            have HKP := Lib.hid hkp
            clear ho hw hkp
            go_wp2_with fail
            go_ret
            have hE : elL rdTrT false s = rRs rdTrT k s1 := by rw [HL.out, HE.out]; simp
            exact ⟨_, _, _, rfl, by rw [hE]; exact HO.out, by rw [hE, ← HN.out, HE.out]; exact HW.out, HKP.out⟩

set_option maxRecDepth 100000 in
set_option maxHeartbeats 3200000 in
theorem rdpos_any (w : World) (gr gp : Nat) (s : RS) (wb : Bool) (h : WR w gr gp s wb) (hlen : s.1.length ≤ 70368744177664) : Calls Try.prog 89 #[.pointer (some ⟨gr, 0, none⟩)] w fun e w' => e = .returned (.agg (ivs (rIs 4 s).1).toArray) ∧ WR w' gr gp (rIs 4 s).2 wb ∧ Kept (fun k => k = gp) w w' := by
  have hlt := h.lt
  have hpr := h.2.2
  have hb1 : Below w.heap.size w (w.alloc (.cells #[.int .i64 0, .int .i64 0, .int .i64 0, .int .i64 0] 183)) := (Below.refl _ _).alloc (Nat.le_refl _) _
  have hc : HT (w.alloc (.cells #[.int .i64 0, .int .i64 0, .int .i64 0, .int .i64 0] 183)) w.heap.size 183 (splice (ivs (List.replicate 4 0)) 0 (ivs (rIs 0 s).1)) := by
    have := HT.new (w := w) (t := 183) (C := ivs (List.replicate 4 0))
    simpa [splice, rIs] using this
  have h2 : WR (w.alloc (.cells #[.int .i64 0, .int .i64 0, .int .i64 0, .int .i64 0] 183)) gr gp (rIs 0 s).2 wb := h.below hb1
  have hk : Kept (fun k => k = gp ∨ k = w.heap.size) w (w.alloc (.cells #[.int .i64 0, .int .i64 0, .int .i64 0, .int .i64 0] 183)) := (Kept.of_below hb1).weaken (fun _ h => h.elim)
  have HH := Lib.hid (⟨hlt, hpr⟩ : _ ∧ _)
  have HLEN := Lib.hid hlen
  have HSZ0 : Hid (w.heap.size < (w.alloc (.cells #[.int .i64 0, .int .i64 0, .int .i64 0, .int .i64 0] 183)).heap.size) := by show _ < _; simp
  obtain ⟨g, hg⟩ : ∃ g, g = w.heap.size := ⟨_, rfl⟩
  have HG0 := Lib.hid hg
  clear hlt hpr hb1 h hlen
  have hbx0 : Below (w.alloc (.cells #[.int .i64 0, .int .i64 0, .int .i64 0, .int .i64 0] 183)).heap.size (w.alloc (.cells #[.int .i64 0, .int .i64 0, .int .i64 0, .int .i64 0] 183)) ((w.alloc (.cells #[.int .i64 0, .int .i64 0, .int .i64 0, .int .i64 0] 183)).alloc (.cells #[.pointer (some ⟨w.heap.size, 0, none⟩), .pointer (some ⟨w.heap.size, 1, none⟩), .pointer (some ⟨w.heap.size, 2, none⟩), .pointer (some ⟨w.heap.size, 3, none⟩)] 120)) := (Below.refl _ _).alloc (Nat.le_refl _) _
  have hs0 : ∀ i, i < 4 → ((w.alloc (.cells #[.int .i64 0, .int .i64 0, .int .i64 0, .int .i64 0] 183)).alloc (.cells #[.pointer (some ⟨w.heap.size, 0, none⟩), .pointer (some ⟨w.heap.size, 1, none⟩), .pointer (some ⟨w.heap.size, 2, none⟩), .pointer (some ⟨w.heap.size, 3, none⟩)] 120)).cell? ⟨(w.alloc (.cells #[.int .i64 0, .int .i64 0, .int .i64 0, .int .i64 0] 183)).heap.size, i, none⟩ = some (.pointer (some ⟨w.heap.size, 0 + i, none⟩)) := by
    intro i hi
    have hh : ((w.alloc (.cells #[.int .i64 0, .int .i64 0, .int .i64 0, .int .i64 0] 183)).alloc (.cells #[.pointer (some ⟨w.heap.size, 0, none⟩), .pointer (some ⟨w.heap.size, 1, none⟩), .pointer (some ⟨w.heap.size, 2, none⟩), .pointer (some ⟨w.heap.size, 3, none⟩)] 120)).heap[(w.alloc (.cells #[.int .i64 0, .int .i64 0, .int .i64 0, .int .i64 0] 183)).heap.size]? = some (.cells #[.pointer (some ⟨w.heap.size, 0, none⟩), .pointer (some ⟨w.heap.size, 1, none⟩), .pointer (some ⟨w.heap.size, 2, none⟩), .pointer (some ⟨w.heap.size, 3, none⟩)] 120) := heap_alloc_new _ _
    unfold World.cell?
    rw [hh]
    rcases i with _ | _ | _ | _ | i
    all_goals first | rfl | omega
  have nx0 := into_nx ((w.alloc (.cells #[.int .i64 0, .int .i64 0, .int .i64 0, .int .i64 0] 183)).alloc (.cells #[.pointer (some ⟨w.heap.size, 0, none⟩), .pointer (some ⟨w.heap.size, 1, none⟩), .pointer (some ⟨w.heap.size, 2, none⟩), .pointer (some ⟨w.heap.size, 3, none⟩)] 120)) gr gp w.heap.size (w.alloc (.cells #[.int .i64 0, .int .i64 0, .int .i64 0, .int .i64 0] 183)).heap.size s 0 4 (ivs (List.replicate 4 0)) _ wb (h2.below hbx0) (hc.below hbx0) hs0 (by simp [ivs]) (by have := HH.out; omega) (by have := HH.out; omega) (by have := HSZ0.out; omega) (by omega) HLEN.out
  have hka0 := Lib.hid (hk.alloc (.cells #[.pointer (some ⟨w.heap.size, 0, none⟩), .pointer (some ⟨w.heap.size, 1, none⟩), .pointer (some ⟨w.heap.size, 2, none⟩), .pointer (some ⟨w.heap.size, 3, none⟩)] 120))
  clear hbx0 hs0 h2 hc hk
  rw [show (w.alloc (.cells #[.int .i64 0, .int .i64 0, .int .i64 0, .int .i64 0] 183)).heap.size = w.heap.size + 1 by simp] at nx0
  clear hg
  go_enter Try.func89, Try.ntmps89
  go_wp2_with fail
  refine nx0.mono ?_
  clear nx0
  rintro e w2 ⟨rfl, hw2, hc2, hkk2⟩
  have hk2 := hka0.out.trans hkk2 (fun _ _ h => h)
  clear hkk2
  have HSZ1 : Hid (w.heap.size < w2.heap.size) := hc2.lt
  rw [splice_all (by simp [ivs, rIs_len])] at hc2
  have hl := rIs_len 4 s
  obtain ⟨L, hL⟩ : ∃ L, L = (rIs 4 s).1 := ⟨_, rfl⟩
  simp only [Nat.reduceAdd] at hc2 hw2
  rw [← hL] at hc2 hl
  have HG : Hid (w2.heap[w.heap.size]? = some (.cells (ivs L).toArray 183 (0, 0))) := hc2
  have HSZ : Hid ((Try.prog.info? 183).map (·.size) = some (ivs L).toArray.size) := by show _ = _; rw [pos_sz]; simp [ivs, hl]
  have HWF := Lib.hid hw2
  have HKF := Lib.hid hk2
  have HL := Lib.hid hL
  clear hc2 hw2 hk2 hl hL
  go_wp2_with (first
    | (refine wpList_load_row rfl 183 (.tmp 2) rfl w.heap.size rfl 183 (ivs L).toArray (0, 0) _ HG.out Try.underlying183 rfl HSZ.out ?_)
    | (refine wpList_store_row rfl 183 (.tmp 2) (.tmp 12) rfl w.heap.size (ivs L).toArray rfl rfl 183 (ivs L).toArray HG.out HSZ.out rfl (ivs_one L) ?_)
    | fail)
  refine bodyPost_ret (results_cell_row rfl _ _ w.heap.size 183 (ivs L).toArray (0, 0) _ rfl (setRow_heap _ _ _ _ _ _ HG.out) Try.underlying183 rfl HSZ.out) rfl ?_
  have hkr : Kept (fun k => k = w.heap.size) w2 (w2.setRow w.heap.size (ivs L).toArray) := ⟨rfl, rfl, rfl, by simp [World.setRow], fun k _ hn => setRow_other _ _ _ _ hn⟩
  refine ⟨by rw [HL.out], HWF.out.go (HWF.out.2.1.kept hkr (fun k hk e => by have := HH.out; omega)) hkr (fun e => by have := HH.out; omega), ?_⟩
  exact ((HKF.out.trans hkr (fun i hi e => .inr e)).drop).weaken (fun _ h => h)

def rdPoT (s : RS) : PoT × RS := (⟨(rIs 4 s).1.getD 0 0, (rIs 4 s).1.getD 1 0, (rIs 4 s).1.getD 2 0, (rIs 4 s).1.getD 3 0⟩, (rIs 4 s).2)
theorem rdPoT_vs (s : RS) : (ivs (rIs 4 s).1) = (rdPoT s).1.vs := by
  have h := rIs_len 4 s
  unfold rdPoT
  generalize (rIs 4 s).1 = L at h
  match L, h with
  | [a0, a1, a2, a3], _ => rfl
theorem rdPoT_left (s : RS) : (rdPoT s).2.1.length ≤ s.1.length := rIs_left 4 s
theorem rdc_pos (w : World) (gr gp : Nat) (s : RS) (wb : Bool) (h : WR w gr gp s wb) (hlen : s.1.length ≤ 70368744177664) : Calls Try.prog 89 #[.pointer (some ⟨gr, 0, none⟩)] w fun e w' => e = .returned (.agg (rdPoT s).1.vs.toArray) ∧ WR w' gr gp (rdPoT s).2 wb ∧ Kept (fun k => k = gp) w w' := by
  rw [← rdPoT_vs]
  exact rdpos_any w gr gp s wb h hlen
def ElPoT (w : World) (gr gp : Nat) (s : RS) (wb : Bool) (e : Ending) (w' : World) : Prop := ∃ a n c, e = .returned (.slice a n c) ∧ OwnR PoT.vs 4 183 w' w.heap.size (.slice a n c) (elL rdPoT wb s).1 ∧ WR w' gr gp (elL rdPoT wb s).2 (elW wb (rI s).1) ∧ Kept (fun k => k = gp ∨ k = gr) w w'
set_option maxRecDepth 100000 in
set_option maxHeartbeats 3200000 in
theorem elems_pos (w : World) (gr gp : Nat) (s : RS) (wb : Bool) (h : WR w gr gp s wb) (hlen : s.1.length ≤ 70368744177664) :
    Calls Try.prog 88 #[.pointer (some ⟨gr, 0, none⟩), .func (.func 89) #[.pointer (some ⟨gr, 0, none⟩)] #[]] w (ElPoT w gr gp s wb) := by
  have hc0 := h.cell.1
  have ri := RInt_any w gp s h.2.1 hlen
  obtain ⟨n, hn⟩ : ∃ n, n = (rI s).1 := ⟨_, rfl⟩
  obtain ⟨s1, hs1⟩ : ∃ s1, s1 = (rI s).2 := ⟨_, rfl⟩
  rw [← hn, ← hs1] at ri
  have HL : Hid (elL rdPoT wb s = if elW wb n = true then ([], s1) else rRs rdPoT n.toNat s1) := by show _ = _; unfold elL; rw [← hn, ← hs1]
  have HN := Lib.hid hn
  have HLEN : Hid (s1.1.length ≤ 70368744177664) := by show _ ≤ _; rw [hs1]; exact Nat.le_trans (rIs_left 1 s) hlen
  have H := Lib.hid h
  have hgg : gp < gr := h.2.2
  have HGG := Lib.hid hgg
  have hnr : -9223372036854775808 ≤ n ∧ n ≤ 9223372036854775807 := by rw [hn]; exact rI_range s
  clear hn hs1 h hlen hgg
  go_enter Try.func88, Try.ntmps88
  go_wp2_with fail
  refine ri.mono ?_
  clear ri hc0
  rintro e w1 ⟨rfl, hd1, hk1⟩
  have hw1 := H.out.go hd1 hk1 (fun e => by have := HGG.out; omega)
  have HK1 := Lib.hid hk1
  have HW1 := Lib.hid hw1
  have hcw := hw1.cell.2.1
  have hfw := hw1.cell.2.2
  clear hd1 hk1 hw1
  by_cases hneg : n < 0
  · have hd : decide (n < 0) = true := by simpa using hneg
    have hput : WR (w1.setCell ⟨gr, 1, none⟩ (.bool true)) gr gp s1 true := ⟨HT.put (C := [.pointer (some ⟨gp, 0, none⟩), .bool wb]) HW1.out.1 1 (.bool true), HW1.out.2.1.kept ((Kept.refl (fun k => k = gr) w1).setCell _ _ rfl) (fun k hk (e : k = gr) => by have := HGG.out; omega), HW1.out.2.2⟩
    have hcp := hput.cell.2.1
    have HPUT := Lib.hid hput
    have HK2 : Hid (Kept (fun k => k = gp ∨ k = gr) w (w1.setCell ⟨gr, 1, none⟩ (.bool true))) := (HK1.out.weaken (T := fun k => k = gp ∨ k = gr) (fun _ h => .inl h)).trans ((Kept.refl (fun k => k = gr) w1).setCell _ _ rfl) (fun _ _ h => .inr h)
    have HE : Hid (elW wb n = true) := by show _ = _; unfold elW; simp; omega
    clear hput
    go_wp2_with fail
    generalize hw2 : w1.setCell ⟨gr, 1, none⟩ (.bool true) = w2 at *
    clear hw2
    go_loopw [6, 7] (fun v6 v7 wr => v6 = .slice none 0 0 ∧ v7 = .int .i64 0 ∧ wr = w2) (fun _ _ _ => 0)
    case atStart => exact ⟨rfl, rfl, rfl⟩
    case round =>
      obtain ⟨rfl, rfl, rfl⟩ := hrel
      go_wp2_with fail
      all_goals
        go_ret
        have hE : elL rdPoT wb s = ([], s1) := by rw [HL.out, if_pos HE.out]
        exact ⟨none, 0, 0, rfl, by rw [hE]; exact OwnR.empty PoT.len _ _ _, by rw [hE, ← HN.out, HE.out]; exact HPUT.out, HK2.out⟩
  · have hneg' : 0 ≤ n := by omega
    obtain ⟨N, rfl⟩ : ∃ N : Nat, n = N := ⟨n.toNat, by omega⟩
    clear hneg hneg' hnr
    by_cases hbig : 1024 < N
    · have hput : WR (w1.setCell ⟨gr, 1, none⟩ (.bool true)) gr gp s1 true := ⟨HT.put (C := [.pointer (some ⟨gp, 0, none⟩), .bool wb]) HW1.out.1 1 (.bool true), HW1.out.2.1.kept ((Kept.refl (fun k => k = gr) w1).setCell _ _ rfl) (fun k hk (e : k = gr) => by have := HGG.out; omega), HW1.out.2.2⟩
      have hcp := hput.cell.2.1
      have HPUT := Lib.hid hput
      have HK2 : Hid (Kept (fun k => k = gp ∨ k = gr) w (w1.setCell ⟨gr, 1, none⟩ (.bool true))) := (HK1.out.weaken (T := fun k => k = gp ∨ k = gr) (fun _ h => .inl h)).trans ((Kept.refl (fun k => k = gr) w1).setCell _ _ rfl) (fun _ _ h => .inr h)
      have HE : Hid (elW wb (N : Int) = true) := by show _ = _; unfold elW; simp; omega
      clear hput
      go_wp2_with fail
      generalize hw2 : w1.setCell ⟨gr, 1, none⟩ (.bool true) = w2 at *
      clear hw2
      go_loopw [6, 7] (fun v6 v7 wr => v6 = .slice none 0 0 ∧ v7 = .int .i64 0 ∧ wr = w2) (fun _ _ _ => 0)
      case atStart => exact ⟨rfl, rfl, rfl⟩
      case round =>
        obtain ⟨rfl, rfl, rfl⟩ := hrel
        go_wp2_with fail
        all_goals
          go_ret
          have hE : elL rdPoT wb s = ([], s1) := by rw [HL.out, if_pos HE.out]
          exact ⟨none, 0, 0, rfl, by rw [hE]; exact OwnR.empty PoT.len _ _ _, by rw [hE, ← HN.out, HE.out]; exact HPUT.out, HK2.out⟩
    · have HE : Hid (elW wb (N : Int) = wb) := by show _ = _; unfold elW; cases wb <;> simp <;> omega
      have HK2 : Hid (Kept (fun k => k = gp ∨ k = gr) w w1) := HK1.out.weaken (T := fun k => k = gp ∨ k = gr) (fun _ h => .inl h)
      cases wb with
      | true =>
        have HPUT := HW1
        have hcp := hcw
        obtain ⟨w2, hw2⟩ : ∃ w2, w2 = w1 := ⟨_, rfl⟩
        subst hw2
        clear hcw
        go_wp2_with fail
        go_loopw [6, 7] (fun v6 v7 wr => v6 = .slice none 0 0 ∧ v7 = .int .i64 0 ∧ wr = w2) (fun _ _ _ => 0)
        case atStart => exact ⟨rfl, rfl, rfl⟩
        case round =>
          obtain ⟨rfl, rfl, rfl⟩ := hrel
          go_wp2_with fail
          all_goals
            go_ret
            have hE : elL rdPoT true s = ([], s1) := by rw [HL.out, if_pos HE.out]
            exact ⟨none, 0, 0, rfl, by rw [hE]; exact OwnR.empty PoT.len _ _ _, by rw [hE, ← HN.out, HE.out]; exact HPUT.out, HK2.out⟩
      | false =>
        have HBIG := Lib.hid hbig
        clear hcw hfw
        go_wp2_with fail
        go_loopw [6, 7] (fun v6 v7 wr => ∃ (k : Nat) (a : Option Addr) (n6 c6 : Nat), k ≤ N ∧ v7 = .int .i64 k ∧ v6 = .slice a n6 c6 ∧ OwnR PoT.vs 4 183 wr w.heap.size (.slice a n6 c6) (rRs rdPoT k s1).1 ∧ WR wr gr gp (rRs rdPoT k s1).2 false ∧ Kept (fun k => k = gp ∨ k = gr) w wr) (fun _ i _ => N - (intOf i).toNat)
        case atStart => exact ⟨0, none, 0, 0, Nat.zero_le _, rfl, rfl, OwnR.empty PoT.len _ _ _, HW1.out, HK2.out⟩
        case round =>
          obtain ⟨k, a, n6, c6, hk, rfl, rfl, ho, hw, hkp⟩ := hrel
          have hcw := hw.cell.2.1
          by_cases hlt : k < N
          · have rd := rdc_pos wr gr gp (rRs rdPoT k s1).2 false hw (Nat.le_trans (rRs_left rdPoT_left k s1) HLEN.out)
            obtain ⟨c, hc⟩ : ∃ c, c = (rdPoT (rRs rdPoT k s1).2).1 := ⟨_, rfl⟩
            rw [← hc, show (rdPoT (rRs rdPoT k s1).2).2 = (rRs rdPoT (k + 1) s1).2 from rfl] at rd
            simp only [PoT.vs] at rd
            have HN1 : Hid ((rRs rdPoT (k + 1) s1).1 = (rRs rdPoT k s1).1 ++ [c]) := by rw [hc]; rfl
            have HO := Lib.hid ho
            have HKP := Lib.hid hkp
            have hlr := rRs_len rdPoT k s1
            have hle : ((rRs rdPoT k s1).1.length + [c].length) * 32 ≤ 140737488355328 := by have := HBIG.out; rw [hlr]; simp; omega
            clear hc ho hw hkp hlr
            go_wp2_with fail
            refine rd.mono ?_
            clear rd hcw
            rintro e w3 ⟨rfl, hw3, hk3⟩
            have hbx : Below w3.heap.size w3 (w3.alloc (.cells #[.int .i64 c.who, .int .i64 c.inst, .int .i64 c.qty, .int .i64 c.cost] 183)) := (Below.refl _ _).alloc (Nat.le_refl _) _
            have hoA : OwnR PoT.vs 4 183 (w3.alloc (.cells #[.int .i64 c.who, .int .i64 c.inst, .int .i64 c.qty, .int .i64 c.cost] 183)) w.heap.size (.slice a n6 c6) (rRs rdPoT k s1).1 := (OwnR.keptS HO.out hk3 (fun j hj (e : j = gp) => by have := OwnR.ge HO.out j hj; have := H.out.lt; have := HGG.out; omega)).alloc _
            have hone : Rs PoT.vs 4 (w3.alloc (.cells #[.int .i64 c.who, .int .i64 c.inst, .int .i64 c.qty, .int .i64 c.cost] 183)) (.slice (some ⟨w3.heap.size, 0, none⟩) 1 1) [c] := Rs.one PoT.len w3 c 183
            have HWA := Lib.hid (hw3.below hbx)
            have HKA : Hid (Kept (fun k => k = gp ∨ k = gr) w (w3.alloc (.cells #[.int .i64 c.who, .int .i64 c.inst, .int .i64 c.qty, .int .i64 c.cost] 183))) := (HKP.out.trans hk3 (fun _ _ h => .inl h)).alloc _
            have hbase : w.heap.size ≤ (w3.alloc (.cells #[.int .i64 c.who, .int .i64 c.inst, .int .i64 c.qty, .int .i64 c.cost] 183)).heap.size := HKA.out.size
            clear hbx hw3 hk3
            go_wp2_with (first
              | (at_builtin; refine wpList_append_rows (v := .slice a n6 c6) rfl (.tmp 34) (.tmp 37) 61 rfl (L := (rRs rdPoT k s1).1) (M := [c]) (base := w.heap.size) elem_pos rfl rfl hoA hone PoT.one hle (by decide) hbase ?_; intro a7 n7 c7 w7 Hn7 ho7 hg7 hat7 hb7)
              | fail)
            have hge : ∀ j, (Value.slice a n6 c6).ownBlock = some j → w.heap.size ≤ j := OwnR.ge HO.out
            have hkg := Kept.of_grown hg7
            refine ⟨⟨k + 1, a7, n7, c7, by omega, by push_cast; rfl, rfl, by rw [HN1.out]; exact ho7, HWA.out.go (HWA.out.2.1.kept hkg (fun j hj e => by have := hge j e; have := H.out.lt; have := HGG.out; omega)) hkg (fun e => by have := hge gr e; have := H.out.lt; omega), HKA.out.trans hkg (fun j hj e => by have := hge j e; omega)⟩, by simp [intOf]; omega⟩
          · obtain rfl : k = N := by omega
            have HO := Lib.hid ho
            have HW := Lib.hid hw
            have HKP := Lib.hid hkp
            clear ho hw hkp
            go_wp2_with fail
            go_ret
            have hE : elL rdPoT false s = rRs rdPoT k s1 := by rw [HL.out, HE.out]; simp
            exact ⟨_, _, _, rfl, by rw [hE]; exact HO.out, by rw [hE, ← HN.out, HE.out]; exact HW.out, HKP.out⟩

set_option maxRecDepth 100000 in
set_option maxHeartbeats 3200000 in
theorem rdbal_any (w : World) (gr gp : Nat) (s : RS) (wb : Bool) (h : WR w gr gp s wb) (hlen : s.1.length ≤ 70368744177664) : Calls Try.prog 91 #[.pointer (some ⟨gr, 0, none⟩)] w fun e w' => e = .returned (.agg (ivs (rIs 4 s).1).toArray) ∧ WR w' gr gp (rIs 4 s).2 wb ∧ Kept (fun k => k = gp) w w' := by
  have hlt := h.lt
  have hpr := h.2.2
  have hb1 : Below w.heap.size w (w.alloc (.cells #[.int .i64 0, .int .i64 0, .int .i64 0, .int .i64 0] 147)) := (Below.refl _ _).alloc (Nat.le_refl _) _
  have hc : HT (w.alloc (.cells #[.int .i64 0, .int .i64 0, .int .i64 0, .int .i64 0] 147)) w.heap.size 147 (splice (ivs (List.replicate 4 0)) 0 (ivs (rIs 0 s).1)) := by
    have := HT.new (w := w) (t := 147) (C := ivs (List.replicate 4 0))
    simpa [splice, rIs] using this
  have h2 : WR (w.alloc (.cells #[.int .i64 0, .int .i64 0, .int .i64 0, .int .i64 0] 147)) gr gp (rIs 0 s).2 wb := h.below hb1
  have hk : Kept (fun k => k = gp ∨ k = w.heap.size) w (w.alloc (.cells #[.int .i64 0, .int .i64 0, .int .i64 0, .int .i64 0] 147)) := (Kept.of_below hb1).weaken (fun _ h => h.elim)
  have HH := Lib.hid (⟨hlt, hpr⟩ : _ ∧ _)
  have HLEN := Lib.hid hlen
  have HSZ0 : Hid (w.heap.size < (w.alloc (.cells #[.int .i64 0, .int .i64 0, .int .i64 0, .int .i64 0] 147)).heap.size) := by show _ < _; simp
  obtain ⟨g, hg⟩ : ∃ g, g = w.heap.size := ⟨_, rfl⟩
  have HG0 := Lib.hid hg
  clear hlt hpr hb1 h hlen
  have hbx0 : Below (w.alloc (.cells #[.int .i64 0, .int .i64 0, .int .i64 0, .int .i64 0] 147)).heap.size (w.alloc (.cells #[.int .i64 0, .int .i64 0, .int .i64 0, .int .i64 0] 147)) ((w.alloc (.cells #[.int .i64 0, .int .i64 0, .int .i64 0, .int .i64 0] 147)).alloc (.cells #[.pointer (some ⟨w.heap.size, 0, none⟩), .pointer (some ⟨w.heap.size, 1, none⟩), .pointer (some ⟨w.heap.size, 2, none⟩), .pointer (some ⟨w.heap.size, 3, none⟩)] 120)) := (Below.refl _ _).alloc (Nat.le_refl _) _
  have hs0 : ∀ i, i < 4 → ((w.alloc (.cells #[.int .i64 0, .int .i64 0, .int .i64 0, .int .i64 0] 147)).alloc (.cells #[.pointer (some ⟨w.heap.size, 0, none⟩), .pointer (some ⟨w.heap.size, 1, none⟩), .pointer (some ⟨w.heap.size, 2, none⟩), .pointer (some ⟨w.heap.size, 3, none⟩)] 120)).cell? ⟨(w.alloc (.cells #[.int .i64 0, .int .i64 0, .int .i64 0, .int .i64 0] 147)).heap.size, i, none⟩ = some (.pointer (some ⟨w.heap.size, 0 + i, none⟩)) := by
    intro i hi
    have hh : ((w.alloc (.cells #[.int .i64 0, .int .i64 0, .int .i64 0, .int .i64 0] 147)).alloc (.cells #[.pointer (some ⟨w.heap.size, 0, none⟩), .pointer (some ⟨w.heap.size, 1, none⟩), .pointer (some ⟨w.heap.size, 2, none⟩), .pointer (some ⟨w.heap.size, 3, none⟩)] 120)).heap[(w.alloc (.cells #[.int .i64 0, .int .i64 0, .int .i64 0, .int .i64 0] 147)).heap.size]? = some (.cells #[.pointer (some ⟨w.heap.size, 0, none⟩), .pointer (some ⟨w.heap.size, 1, none⟩), .pointer (some ⟨w.heap.size, 2, none⟩), .pointer (some ⟨w.heap.size, 3, none⟩)] 120) := heap_alloc_new _ _
    unfold World.cell?
    rw [hh]
    rcases i with _ | _ | _ | _ | i
    all_goals first | rfl | omega
  have nx0 := into_nx ((w.alloc (.cells #[.int .i64 0, .int .i64 0, .int .i64 0, .int .i64 0] 147)).alloc (.cells #[.pointer (some ⟨w.heap.size, 0, none⟩), .pointer (some ⟨w.heap.size, 1, none⟩), .pointer (some ⟨w.heap.size, 2, none⟩), .pointer (some ⟨w.heap.size, 3, none⟩)] 120)) gr gp w.heap.size (w.alloc (.cells #[.int .i64 0, .int .i64 0, .int .i64 0, .int .i64 0] 147)).heap.size s 0 4 (ivs (List.replicate 4 0)) _ wb (h2.below hbx0) (hc.below hbx0) hs0 (by simp [ivs]) (by have := HH.out; omega) (by have := HH.out; omega) (by have := HSZ0.out; omega) (by omega) HLEN.out
  have hka0 := Lib.hid (hk.alloc (.cells #[.pointer (some ⟨w.heap.size, 0, none⟩), .pointer (some ⟨w.heap.size, 1, none⟩), .pointer (some ⟨w.heap.size, 2, none⟩), .pointer (some ⟨w.heap.size, 3, none⟩)] 120))
  clear hbx0 hs0 h2 hc hk
  rw [show (w.alloc (.cells #[.int .i64 0, .int .i64 0, .int .i64 0, .int .i64 0] 147)).heap.size = w.heap.size + 1 by simp] at nx0
  clear hg
  go_enter Try.func91, Try.ntmps91
  go_wp2_with fail
  refine nx0.mono ?_
  clear nx0
  rintro e w2 ⟨rfl, hw2, hc2, hkk2⟩
  have hk2 := hka0.out.trans hkk2 (fun _ _ h => h)
  clear hkk2
  have HSZ1 : Hid (w.heap.size < w2.heap.size) := hc2.lt
  rw [splice_all (by simp [ivs, rIs_len])] at hc2
  have hl := rIs_len 4 s
  obtain ⟨L, hL⟩ : ∃ L, L = (rIs 4 s).1 := ⟨_, rfl⟩
  simp only [Nat.reduceAdd] at hc2 hw2
  rw [← hL] at hc2 hl
  have HG : Hid (w2.heap[w.heap.size]? = some (.cells (ivs L).toArray 147 (0, 0))) := hc2
  have HSZ : Hid ((Try.prog.info? 147).map (·.size) = some (ivs L).toArray.size) := by show _ = _; rw [bal_sz]; simp [ivs, hl]
  have HWF := Lib.hid hw2
  have HKF := Lib.hid hk2
  have HL := Lib.hid hL
  clear hc2 hw2 hk2 hl hL
  go_wp2_with (first
    | (refine wpList_load_row rfl 147 (.tmp 2) rfl w.heap.size rfl 147 (ivs L).toArray (0, 0) _ HG.out Try.underlying147 rfl HSZ.out ?_)
    | (refine wpList_store_row rfl 147 (.tmp 2) (.tmp 13) rfl w.heap.size (ivs L).toArray rfl rfl 147 (ivs L).toArray HG.out HSZ.out rfl (ivs_one L) ?_)
    | fail)
  refine bodyPost_ret (results_cell_row rfl _ _ w.heap.size 147 (ivs L).toArray (0, 0) _ rfl (setRow_heap _ _ _ _ _ _ HG.out) Try.underlying147 rfl HSZ.out) rfl ?_
  have hkr : Kept (fun k => k = w.heap.size) w2 (w2.setRow w.heap.size (ivs L).toArray) := ⟨rfl, rfl, rfl, by simp [World.setRow], fun k _ hn => setRow_other _ _ _ _ hn⟩
  refine ⟨by rw [HL.out], HWF.out.go (HWF.out.2.1.kept hkr (fun k hk e => by have := HH.out; omega)) hkr (fun e => by have := HH.out; omega), ?_⟩
  exact ((HKF.out.trans hkr (fun i hi e => .inr e)).drop).weaken (fun _ h => h)

def rdBaT (s : RS) : BaT × RS := (⟨(rIs 4 s).1.getD 0 0, (rIs 4 s).1.getD 1 0, (rIs 4 s).1.getD 2 0, (rIs 4 s).1.getD 3 0⟩, (rIs 4 s).2)
theorem rdBaT_vs (s : RS) : (ivs (rIs 4 s).1) = (rdBaT s).1.vs := by
  have h := rIs_len 4 s
  unfold rdBaT
  generalize (rIs 4 s).1 = L at h
  match L, h with
  | [a0, a1, a2, a3], _ => rfl
theorem rdBaT_left (s : RS) : (rdBaT s).2.1.length ≤ s.1.length := rIs_left 4 s
theorem rdc_bal (w : World) (gr gp : Nat) (s : RS) (wb : Bool) (h : WR w gr gp s wb) (hlen : s.1.length ≤ 70368744177664) : Calls Try.prog 91 #[.pointer (some ⟨gr, 0, none⟩)] w fun e w' => e = .returned (.agg (rdBaT s).1.vs.toArray) ∧ WR w' gr gp (rdBaT s).2 wb ∧ Kept (fun k => k = gp) w w' := by
  rw [← rdBaT_vs]
  exact rdbal_any w gr gp s wb h hlen
def ElBaT (w : World) (gr gp : Nat) (s : RS) (wb : Bool) (e : Ending) (w' : World) : Prop := ∃ a n c, e = .returned (.slice a n c) ∧ OwnR BaT.vs 4 147 w' w.heap.size (.slice a n c) (elL rdBaT wb s).1 ∧ WR w' gr gp (elL rdBaT wb s).2 (elW wb (rI s).1) ∧ Kept (fun k => k = gp ∨ k = gr) w w'
set_option maxRecDepth 100000 in
set_option maxHeartbeats 3200000 in
theorem elems_bal (w : World) (gr gp : Nat) (s : RS) (wb : Bool) (h : WR w gr gp s wb) (hlen : s.1.length ≤ 70368744177664) :
    Calls Try.prog 90 #[.pointer (some ⟨gr, 0, none⟩), .func (.func 91) #[.pointer (some ⟨gr, 0, none⟩)] #[]] w (ElBaT w gr gp s wb) := by
  have hc0 := h.cell.1
  have ri := RInt_any w gp s h.2.1 hlen
  obtain ⟨n, hn⟩ : ∃ n, n = (rI s).1 := ⟨_, rfl⟩
  obtain ⟨s1, hs1⟩ : ∃ s1, s1 = (rI s).2 := ⟨_, rfl⟩
  rw [← hn, ← hs1] at ri
  have HL : Hid (elL rdBaT wb s = if elW wb n = true then ([], s1) else rRs rdBaT n.toNat s1) := by show _ = _; unfold elL; rw [← hn, ← hs1]
  have HN := Lib.hid hn
  have HLEN : Hid (s1.1.length ≤ 70368744177664) := by show _ ≤ _; rw [hs1]; exact Nat.le_trans (rIs_left 1 s) hlen
  have H := Lib.hid h
  have hgg : gp < gr := h.2.2
  have HGG := Lib.hid hgg
  have hnr : -9223372036854775808 ≤ n ∧ n ≤ 9223372036854775807 := by rw [hn]; exact rI_range s
  clear hn hs1 h hlen hgg
  go_enter Try.func90, Try.ntmps90
  go_wp2_with fail
  refine ri.mono ?_
  clear ri hc0
  rintro e w1 ⟨rfl, hd1, hk1⟩
  have hw1 := H.out.go hd1 hk1 (fun e => by have := HGG.out; omega)
  have HK1 := Lib.hid hk1
  have HW1 := Lib.hid hw1
  have hcw := hw1.cell.2.1
  have hfw := hw1.cell.2.2
  clear hd1 hk1 hw1
  by_cases hneg : n < 0
  · have hd : decide (n < 0) = true := by simpa using hneg
    have hput : WR (w1.setCell ⟨gr, 1, none⟩ (.bool true)) gr gp s1 true := ⟨HT.put (C := [.pointer (some ⟨gp, 0, none⟩), .bool wb]) HW1.out.1 1 (.bool true), HW1.out.2.1.kept ((Kept.refl (fun k => k = gr) w1).setCell _ _ rfl) (fun k hk (e : k = gr) => by have := HGG.out; omega), HW1.out.2.2⟩
    have hcp := hput.cell.2.1
    have HPUT := Lib.hid hput
    have HK2 : Hid (Kept (fun k => k = gp ∨ k = gr) w (w1.setCell ⟨gr, 1, none⟩ (.bool true))) := (HK1.out.weaken (T := fun k => k = gp ∨ k = gr) (fun _ h => .inl h)).trans ((Kept.refl (fun k => k = gr) w1).setCell _ _ rfl) (fun _ _ h => .inr h)
    have HE : Hid (elW wb n = true) := by show _ = _; unfold elW; simp; omega
    clear hput
    go_wp2_with fail
    generalize hw2 : w1.setCell ⟨gr, 1, none⟩ (.bool true) = w2 at *
    clear hw2
    go_loopw [6, 7] (fun v6 v7 wr => v6 = .slice none 0 0 ∧ v7 = .int .i64 0 ∧ wr = w2) (fun _ _ _ => 0)
    case atStart => exact ⟨rfl, rfl, rfl⟩
    case round =>
      obtain ⟨rfl, rfl, rfl⟩ := hrel
      go_wp2_with fail
      all_goals
        go_ret
        have hE : elL rdBaT wb s = ([], s1) := by rw [HL.out, if_pos HE.out]
        exact ⟨none, 0, 0, rfl, by rw [hE]; exact OwnR.empty BaT.len _ _ _, by rw [hE, ← HN.out, HE.out]; exact HPUT.out, HK2.out⟩
  · have hneg' : 0 ≤ n := by omega
    obtain ⟨N, rfl⟩ : ∃ N : Nat, n = N := ⟨n.toNat, by omega⟩
    clear hneg hneg' hnr
    by_cases hbig : 1024 < N
    · have hput : WR (w1.setCell ⟨gr, 1, none⟩ (.bool true)) gr gp s1 true := ⟨HT.put (C := [.pointer (some ⟨gp, 0, none⟩), .bool wb]) HW1.out.1 1 (.bool true), HW1.out.2.1.kept ((Kept.refl (fun k => k = gr) w1).setCell _ _ rfl) (fun k hk (e : k = gr) => by have := HGG.out; omega), HW1.out.2.2⟩
      have hcp := hput.cell.2.1
      have HPUT := Lib.hid hput
      have HK2 : Hid (Kept (fun k => k = gp ∨ k = gr) w (w1.setCell ⟨gr, 1, none⟩ (.bool true))) := (HK1.out.weaken (T := fun k => k = gp ∨ k = gr) (fun _ h => .inl h)).trans ((Kept.refl (fun k => k = gr) w1).setCell _ _ rfl) (fun _ _ h => .inr h)
      have HE : Hid (elW wb (N : Int) = true) := by show _ = _; unfold elW; simp; omega
      clear hput
      go_wp2_with fail
      generalize hw2 : w1.setCell ⟨gr, 1, none⟩ (.bool true) = w2 at *
      clear hw2
      go_loopw [6, 7] (fun v6 v7 wr => v6 = .slice none 0 0 ∧ v7 = .int .i64 0 ∧ wr = w2) (fun _ _ _ => 0)
      case atStart => exact ⟨rfl, rfl, rfl⟩
      case round =>
        obtain ⟨rfl, rfl, rfl⟩ := hrel
        go_wp2_with fail
        all_goals
          go_ret
          have hE : elL rdBaT wb s = ([], s1) := by rw [HL.out, if_pos HE.out]
          exact ⟨none, 0, 0, rfl, by rw [hE]; exact OwnR.empty BaT.len _ _ _, by rw [hE, ← HN.out, HE.out]; exact HPUT.out, HK2.out⟩
    · have HE : Hid (elW wb (N : Int) = wb) := by show _ = _; unfold elW; cases wb <;> simp <;> omega
      have HK2 : Hid (Kept (fun k => k = gp ∨ k = gr) w w1) := HK1.out.weaken (T := fun k => k = gp ∨ k = gr) (fun _ h => .inl h)
      cases wb with
      | true =>
        have HPUT := HW1
        have hcp := hcw
        obtain ⟨w2, hw2⟩ : ∃ w2, w2 = w1 := ⟨_, rfl⟩
        subst hw2
        clear hcw
        go_wp2_with fail
        go_loopw [6, 7] (fun v6 v7 wr => v6 = .slice none 0 0 ∧ v7 = .int .i64 0 ∧ wr = w2) (fun _ _ _ => 0)
        case atStart => exact ⟨rfl, rfl, rfl⟩
        case round =>
          obtain ⟨rfl, rfl, rfl⟩ := hrel
          go_wp2_with fail
          all_goals
            go_ret
            have hE : elL rdBaT true s = ([], s1) := by rw [HL.out, if_pos HE.out]
            exact ⟨none, 0, 0, rfl, by rw [hE]; exact OwnR.empty BaT.len _ _ _, by rw [hE, ← HN.out, HE.out]; exact HPUT.out, HK2.out⟩
      | false =>
        have HBIG := Lib.hid hbig
        clear hcw hfw
        go_wp2_with fail
        go_loopw [6, 7] (fun v6 v7 wr => ∃ (k : Nat) (a : Option Addr) (n6 c6 : Nat), k ≤ N ∧ v7 = .int .i64 k ∧ v6 = .slice a n6 c6 ∧ OwnR BaT.vs 4 147 wr w.heap.size (.slice a n6 c6) (rRs rdBaT k s1).1 ∧ WR wr gr gp (rRs rdBaT k s1).2 false ∧ Kept (fun k => k = gp ∨ k = gr) w wr) (fun _ i _ => N - (intOf i).toNat)
        case atStart => exact ⟨0, none, 0, 0, Nat.zero_le _, rfl, rfl, OwnR.empty BaT.len _ _ _, HW1.out, HK2.out⟩
        case round =>
          obtain ⟨k, a, n6, c6, hk, rfl, rfl, ho, hw, hkp⟩ := hrel
          have hcw := hw.cell.2.1
          by_cases hlt : k < N
          · have rd := rdc_bal wr gr gp (rRs rdBaT k s1).2 false hw (Nat.le_trans (rRs_left rdBaT_left k s1) HLEN.out)
            obtain ⟨c, hc⟩ : ∃ c, c = (rdBaT (rRs rdBaT k s1).2).1 := ⟨_, rfl⟩
            rw [← hc, show (rdBaT (rRs rdBaT k s1).2).2 = (rRs rdBaT (k + 1) s1).2 from rfl] at rd
            simp only [BaT.vs] at rd
            have HN1 : Hid ((rRs rdBaT (k + 1) s1).1 = (rRs rdBaT k s1).1 ++ [c]) := by rw [hc]; rfl
            have HO := Lib.hid ho
            have HKP := Lib.hid hkp
            have hlr := rRs_len rdBaT k s1
            have hle : ((rRs rdBaT k s1).1.length + [c].length) * 32 ≤ 140737488355328 := by have := HBIG.out; rw [hlr]; simp; omega
            clear hc ho hw hkp hlr
            go_wp2_with fail
            refine rd.mono ?_
            clear rd hcw
            rintro e w3 ⟨rfl, hw3, hk3⟩
            have hbx : Below w3.heap.size w3 (w3.alloc (.cells #[.int .i64 c.kind, .int .i64 c.who, .int .i64 c.cur, .int .i64 c.sum] 147)) := (Below.refl _ _).alloc (Nat.le_refl _) _
            have hoA : OwnR BaT.vs 4 147 (w3.alloc (.cells #[.int .i64 c.kind, .int .i64 c.who, .int .i64 c.cur, .int .i64 c.sum] 147)) w.heap.size (.slice a n6 c6) (rRs rdBaT k s1).1 := (OwnR.keptS HO.out hk3 (fun j hj (e : j = gp) => by have := OwnR.ge HO.out j hj; have := H.out.lt; have := HGG.out; omega)).alloc _
            have hone : Rs BaT.vs 4 (w3.alloc (.cells #[.int .i64 c.kind, .int .i64 c.who, .int .i64 c.cur, .int .i64 c.sum] 147)) (.slice (some ⟨w3.heap.size, 0, none⟩) 1 1) [c] := Rs.one BaT.len w3 c 147
            have HWA := Lib.hid (hw3.below hbx)
            have HKA : Hid (Kept (fun k => k = gp ∨ k = gr) w (w3.alloc (.cells #[.int .i64 c.kind, .int .i64 c.who, .int .i64 c.cur, .int .i64 c.sum] 147))) := (HKP.out.trans hk3 (fun _ _ h => .inl h)).alloc _
            have hbase : w.heap.size ≤ (w3.alloc (.cells #[.int .i64 c.kind, .int .i64 c.who, .int .i64 c.cur, .int .i64 c.sum] 147)).heap.size := HKA.out.size
            clear hbx hw3 hk3
            go_wp2_with (first
              | (at_builtin; refine wpList_append_rows (v := .slice a n6 c6) rfl (.tmp 34) (.tmp 37) 64 rfl (L := (rRs rdBaT k s1).1) (M := [c]) (base := w.heap.size) elem_bal rfl rfl hoA hone BaT.one hle (by decide) hbase ?_; intro a7 n7 c7 w7 Hn7 ho7 hg7 hat7 hb7)
              | fail)
            have hge : ∀ j, (Value.slice a n6 c6).ownBlock = some j → w.heap.size ≤ j := OwnR.ge HO.out
            have hkg := Kept.of_grown hg7
            refine ⟨⟨k + 1, a7, n7, c7, by omega, by push_cast; rfl, rfl, by rw [HN1.out]; exact ho7, HWA.out.go (HWA.out.2.1.kept hkg (fun j hj e => by have := hge j e; have := H.out.lt; have := HGG.out; omega)) hkg (fun e => by have := hge gr e; have := H.out.lt; omega), HKA.out.trans hkg (fun j hj e => by have := hge j e; omega)⟩, by simp [intOf]; omega⟩
          · obtain rfl : k = N := by omega
            have HO := Lib.hid ho
            have HW := Lib.hid hw
            have HKP := Lib.hid hkp
            clear ho hw hkp
            go_wp2_with fail
            go_ret
            have hE : elL rdBaT false s = rRs rdBaT k s1 := by rw [HL.out, HE.out]; simp
            exact ⟨_, _, _, rfl, by rw [hE]; exact HO.out, by rw [hE, ← HN.out, HE.out]; exact HW.out, HKP.out⟩

set_option maxRecDepth 100000 in
set_option maxHeartbeats 3200000 in
theorem rdple_any (w : World) (gr gp : Nat) (s : RS) (wb : Bool) (h : WR w gr gp s wb) (hlen : s.1.length ≤ 70368744177664) : Calls Try.prog 93 #[.pointer (some ⟨gr, 0, none⟩)] w fun e w' => e = .returned (.agg (ivs (rIs 3 s).1).toArray) ∧ WR w' gr gp (rIs 3 s).2 wb ∧ Kept (fun k => k = gp) w w' := by
  have hlt := h.lt
  have hpr := h.2.2
  have hb1 : Below w.heap.size w (w.alloc (.cells #[.int .i64 0, .int .i64 0, .int .i64 0] 151)) := (Below.refl _ _).alloc (Nat.le_refl _) _
  have hc : HT (w.alloc (.cells #[.int .i64 0, .int .i64 0, .int .i64 0] 151)) w.heap.size 151 (splice (ivs (List.replicate 3 0)) 0 (ivs (rIs 0 s).1)) := by
    have := HT.new (w := w) (t := 151) (C := ivs (List.replicate 3 0))
    simpa [splice, rIs] using this
  have h2 : WR (w.alloc (.cells #[.int .i64 0, .int .i64 0, .int .i64 0] 151)) gr gp (rIs 0 s).2 wb := h.below hb1
  have hk : Kept (fun k => k = gp ∨ k = w.heap.size) w (w.alloc (.cells #[.int .i64 0, .int .i64 0, .int .i64 0] 151)) := (Kept.of_below hb1).weaken (fun _ h => h.elim)
  have HH := Lib.hid (⟨hlt, hpr⟩ : _ ∧ _)
  have HLEN := Lib.hid hlen
  have HSZ0 : Hid (w.heap.size < (w.alloc (.cells #[.int .i64 0, .int .i64 0, .int .i64 0] 151)).heap.size) := by show _ < _; simp
  obtain ⟨g, hg⟩ : ∃ g, g = w.heap.size := ⟨_, rfl⟩
  have HG0 := Lib.hid hg
  clear hlt hpr hb1 h hlen
  have hbx0 : Below (w.alloc (.cells #[.int .i64 0, .int .i64 0, .int .i64 0] 151)).heap.size (w.alloc (.cells #[.int .i64 0, .int .i64 0, .int .i64 0] 151)) ((w.alloc (.cells #[.int .i64 0, .int .i64 0, .int .i64 0] 151)).alloc (.cells #[.pointer (some ⟨w.heap.size, 0, none⟩), .pointer (some ⟨w.heap.size, 1, none⟩), .pointer (some ⟨w.heap.size, 2, none⟩)] 120)) := (Below.refl _ _).alloc (Nat.le_refl _) _
  have hs0 : ∀ i, i < 3 → ((w.alloc (.cells #[.int .i64 0, .int .i64 0, .int .i64 0] 151)).alloc (.cells #[.pointer (some ⟨w.heap.size, 0, none⟩), .pointer (some ⟨w.heap.size, 1, none⟩), .pointer (some ⟨w.heap.size, 2, none⟩)] 120)).cell? ⟨(w.alloc (.cells #[.int .i64 0, .int .i64 0, .int .i64 0] 151)).heap.size, i, none⟩ = some (.pointer (some ⟨w.heap.size, 0 + i, none⟩)) := by
    intro i hi
    have hh : ((w.alloc (.cells #[.int .i64 0, .int .i64 0, .int .i64 0] 151)).alloc (.cells #[.pointer (some ⟨w.heap.size, 0, none⟩), .pointer (some ⟨w.heap.size, 1, none⟩), .pointer (some ⟨w.heap.size, 2, none⟩)] 120)).heap[(w.alloc (.cells #[.int .i64 0, .int .i64 0, .int .i64 0] 151)).heap.size]? = some (.cells #[.pointer (some ⟨w.heap.size, 0, none⟩), .pointer (some ⟨w.heap.size, 1, none⟩), .pointer (some ⟨w.heap.size, 2, none⟩)] 120) := heap_alloc_new _ _
    unfold World.cell?
    rw [hh]
    rcases i with _ | _ | _ | i
    all_goals first | rfl | omega
  have nx0 := into_nx ((w.alloc (.cells #[.int .i64 0, .int .i64 0, .int .i64 0] 151)).alloc (.cells #[.pointer (some ⟨w.heap.size, 0, none⟩), .pointer (some ⟨w.heap.size, 1, none⟩), .pointer (some ⟨w.heap.size, 2, none⟩)] 120)) gr gp w.heap.size (w.alloc (.cells #[.int .i64 0, .int .i64 0, .int .i64 0] 151)).heap.size s 0 3 (ivs (List.replicate 3 0)) _ wb (h2.below hbx0) (hc.below hbx0) hs0 (by simp [ivs]) (by have := HH.out; omega) (by have := HH.out; omega) (by have := HSZ0.out; omega) (by omega) HLEN.out
  have hka0 := Lib.hid (hk.alloc (.cells #[.pointer (some ⟨w.heap.size, 0, none⟩), .pointer (some ⟨w.heap.size, 1, none⟩), .pointer (some ⟨w.heap.size, 2, none⟩)] 120))
  clear hbx0 hs0 h2 hc hk
  rw [show (w.alloc (.cells #[.int .i64 0, .int .i64 0, .int .i64 0] 151)).heap.size = w.heap.size + 1 by simp] at nx0
  clear hg
  go_enter Try.func93, Try.ntmps93
  go_wp2_with fail
  refine nx0.mono ?_
  clear nx0
  rintro e w2 ⟨rfl, hw2, hc2, hkk2⟩
  have hk2 := hka0.out.trans hkk2 (fun _ _ h => h)
  clear hkk2
  have HSZ1 : Hid (w.heap.size < w2.heap.size) := hc2.lt
  rw [splice_all (by simp [ivs, rIs_len])] at hc2
  have hl := rIs_len 3 s
  obtain ⟨L, hL⟩ : ∃ L, L = (rIs 3 s).1 := ⟨_, rfl⟩
  simp only [Nat.reduceAdd] at hc2 hw2
  rw [← hL] at hc2 hl
  have HG : Hid (w2.heap[w.heap.size]? = some (.cells (ivs L).toArray 151 (0, 0))) := hc2
  have HSZ : Hid ((Try.prog.info? 151).map (·.size) = some (ivs L).toArray.size) := by show _ = _; rw [ple_sz]; simp [ivs, hl]
  have HWF := Lib.hid hw2
  have HKF := Lib.hid hk2
  have HL := Lib.hid hL
  clear hc2 hw2 hk2 hl hL
  go_wp2_with (first
    | (refine wpList_load_row rfl 151 (.tmp 2) rfl w.heap.size rfl 151 (ivs L).toArray (0, 0) _ HG.out Try.underlying151 rfl HSZ.out ?_)
    | (refine wpList_store_row rfl 151 (.tmp 2) (.tmp 9) rfl w.heap.size (ivs L).toArray rfl rfl 151 (ivs L).toArray HG.out HSZ.out rfl (ivs_one L) ?_)
    | fail)
  refine bodyPost_ret (results_cell_row rfl _ _ w.heap.size 151 (ivs L).toArray (0, 0) _ rfl (setRow_heap _ _ _ _ _ _ HG.out) Try.underlying151 rfl HSZ.out) rfl ?_
  have hkr : Kept (fun k => k = w.heap.size) w2 (w2.setRow w.heap.size (ivs L).toArray) := ⟨rfl, rfl, rfl, by simp [World.setRow], fun k _ hn => setRow_other _ _ _ _ hn⟩
  refine ⟨by rw [HL.out], HWF.out.go (HWF.out.2.1.kept hkr (fun k hk e => by have := HH.out; omega)) hkr (fun e => by have := HH.out; omega), ?_⟩
  exact ((HKF.out.trans hkr (fun i hi e => .inr e)).drop).weaken (fun _ h => h)

def rdPlT (s : RS) : PlT × RS := (⟨(rIs 3 s).1.getD 0 0, (rIs 3 s).1.getD 1 0, (rIs 3 s).1.getD 2 0⟩, (rIs 3 s).2)
theorem rdPlT_vs (s : RS) : (ivs (rIs 3 s).1) = (rdPlT s).1.vs := by
  have h := rIs_len 3 s
  unfold rdPlT
  generalize (rIs 3 s).1 = L at h
  match L, h with
  | [a0, a1, a2], _ => rfl
theorem rdPlT_left (s : RS) : (rdPlT s).2.1.length ≤ s.1.length := rIs_left 3 s
theorem rdc_ple (w : World) (gr gp : Nat) (s : RS) (wb : Bool) (h : WR w gr gp s wb) (hlen : s.1.length ≤ 70368744177664) : Calls Try.prog 93 #[.pointer (some ⟨gr, 0, none⟩)] w fun e w' => e = .returned (.agg (rdPlT s).1.vs.toArray) ∧ WR w' gr gp (rdPlT s).2 wb ∧ Kept (fun k => k = gp) w w' := by
  rw [← rdPlT_vs]
  exact rdple_any w gr gp s wb h hlen
def ElPlT (w : World) (gr gp : Nat) (s : RS) (wb : Bool) (e : Ending) (w' : World) : Prop := ∃ a n c, e = .returned (.slice a n c) ∧ OwnR PlT.vs 3 151 w' w.heap.size (.slice a n c) (elL rdPlT wb s).1 ∧ WR w' gr gp (elL rdPlT wb s).2 (elW wb (rI s).1) ∧ Kept (fun k => k = gp ∨ k = gr) w w'
set_option maxRecDepth 100000 in
set_option maxHeartbeats 3200000 in
theorem elems_ple (w : World) (gr gp : Nat) (s : RS) (wb : Bool) (h : WR w gr gp s wb) (hlen : s.1.length ≤ 70368744177664) :
    Calls Try.prog 92 #[.pointer (some ⟨gr, 0, none⟩), .func (.func 93) #[.pointer (some ⟨gr, 0, none⟩)] #[]] w (ElPlT w gr gp s wb) := by
  have hc0 := h.cell.1
  have ri := RInt_any w gp s h.2.1 hlen
  obtain ⟨n, hn⟩ : ∃ n, n = (rI s).1 := ⟨_, rfl⟩
  obtain ⟨s1, hs1⟩ : ∃ s1, s1 = (rI s).2 := ⟨_, rfl⟩
  rw [← hn, ← hs1] at ri
  have HL : Hid (elL rdPlT wb s = if elW wb n = true then ([], s1) else rRs rdPlT n.toNat s1) := by show _ = _; unfold elL; rw [← hn, ← hs1]
  have HN := Lib.hid hn
  have HLEN : Hid (s1.1.length ≤ 70368744177664) := by show _ ≤ _; rw [hs1]; exact Nat.le_trans (rIs_left 1 s) hlen
  have H := Lib.hid h
  have hgg : gp < gr := h.2.2
  have HGG := Lib.hid hgg
  have hnr : -9223372036854775808 ≤ n ∧ n ≤ 9223372036854775807 := by rw [hn]; exact rI_range s
  clear hn hs1 h hlen hgg
  go_enter Try.func92, Try.ntmps92
  go_wp2_with fail
  refine ri.mono ?_
  clear ri hc0
  rintro e w1 ⟨rfl, hd1, hk1⟩
  have hw1 := H.out.go hd1 hk1 (fun e => by have := HGG.out; omega)
  have HK1 := Lib.hid hk1
  have HW1 := Lib.hid hw1
  have hcw := hw1.cell.2.1
  have hfw := hw1.cell.2.2
  clear hd1 hk1 hw1
  by_cases hneg : n < 0
  · have hd : decide (n < 0) = true := by simpa using hneg
    have hput : WR (w1.setCell ⟨gr, 1, none⟩ (.bool true)) gr gp s1 true := ⟨HT.put (C := [.pointer (some ⟨gp, 0, none⟩), .bool wb]) HW1.out.1 1 (.bool true), HW1.out.2.1.kept ((Kept.refl (fun k => k = gr) w1).setCell _ _ rfl) (fun k hk (e : k = gr) => by have := HGG.out; omega), HW1.out.2.2⟩
    have hcp := hput.cell.2.1
    have HPUT := Lib.hid hput
    have HK2 : Hid (Kept (fun k => k = gp ∨ k = gr) w (w1.setCell ⟨gr, 1, none⟩ (.bool true))) := (HK1.out.weaken (T := fun k => k = gp ∨ k = gr) (fun _ h => .inl h)).trans ((Kept.refl (fun k => k = gr) w1).setCell _ _ rfl) (fun _ _ h => .inr h)
    have HE : Hid (elW wb n = true) := by show _ = _; unfold elW; simp; omega
    clear hput
    go_wp2_with fail
    generalize hw2 : w1.setCell ⟨gr, 1, none⟩ (.bool true) = w2 at *
    clear hw2
    go_loopw [6, 7] (fun v6 v7 wr => v6 = .slice none 0 0 ∧ v7 = .int .i64 0 ∧ wr = w2) (fun _ _ _ => 0)
    case atStart => exact ⟨rfl, rfl, rfl⟩
    case round =>
      obtain ⟨rfl, rfl, rfl⟩ := hrel
      go_wp2_with fail
      all_goals
        go_ret
        have hE : elL rdPlT wb s = ([], s1) := by rw [HL.out, if_pos HE.out]
        exact ⟨none, 0, 0, rfl, by rw [hE]; exact OwnR.empty PlT.len _ _ _, by rw [hE, ← HN.out, HE.out]; exact HPUT.out, HK2.out⟩
  · have hneg' : 0 ≤ n := by omega
    obtain ⟨N, rfl⟩ : ∃ N : Nat, n = N := ⟨n.toNat, by omega⟩
    clear hneg hneg' hnr
    by_cases hbig : 1024 < N
    · have hput : WR (w1.setCell ⟨gr, 1, none⟩ (.bool true)) gr gp s1 true := ⟨HT.put (C := [.pointer (some ⟨gp, 0, none⟩), .bool wb]) HW1.out.1 1 (.bool true), HW1.out.2.1.kept ((Kept.refl (fun k => k = gr) w1).setCell _ _ rfl) (fun k hk (e : k = gr) => by have := HGG.out; omega), HW1.out.2.2⟩
      have hcp := hput.cell.2.1
      have HPUT := Lib.hid hput
      have HK2 : Hid (Kept (fun k => k = gp ∨ k = gr) w (w1.setCell ⟨gr, 1, none⟩ (.bool true))) := (HK1.out.weaken (T := fun k => k = gp ∨ k = gr) (fun _ h => .inl h)).trans ((Kept.refl (fun k => k = gr) w1).setCell _ _ rfl) (fun _ _ h => .inr h)
      have HE : Hid (elW wb (N : Int) = true) := by show _ = _; unfold elW; simp; omega
      clear hput
      go_wp2_with fail
      generalize hw2 : w1.setCell ⟨gr, 1, none⟩ (.bool true) = w2 at *
      clear hw2
      go_loopw [6, 7] (fun v6 v7 wr => v6 = .slice none 0 0 ∧ v7 = .int .i64 0 ∧ wr = w2) (fun _ _ _ => 0)
      case atStart => exact ⟨rfl, rfl, rfl⟩
      case round =>
        obtain ⟨rfl, rfl, rfl⟩ := hrel
        go_wp2_with fail
        all_goals
          go_ret
          have hE : elL rdPlT wb s = ([], s1) := by rw [HL.out, if_pos HE.out]
          exact ⟨none, 0, 0, rfl, by rw [hE]; exact OwnR.empty PlT.len _ _ _, by rw [hE, ← HN.out, HE.out]; exact HPUT.out, HK2.out⟩
    · have HE : Hid (elW wb (N : Int) = wb) := by show _ = _; unfold elW; cases wb <;> simp <;> omega
      have HK2 : Hid (Kept (fun k => k = gp ∨ k = gr) w w1) := HK1.out.weaken (T := fun k => k = gp ∨ k = gr) (fun _ h => .inl h)
      cases wb with
      | true =>
        have HPUT := HW1
        have hcp := hcw
        obtain ⟨w2, hw2⟩ : ∃ w2, w2 = w1 := ⟨_, rfl⟩
        subst hw2
        clear hcw
        go_wp2_with fail
        go_loopw [6, 7] (fun v6 v7 wr => v6 = .slice none 0 0 ∧ v7 = .int .i64 0 ∧ wr = w2) (fun _ _ _ => 0)
        case atStart => exact ⟨rfl, rfl, rfl⟩
        case round =>
          obtain ⟨rfl, rfl, rfl⟩ := hrel
          go_wp2_with fail
          all_goals
            go_ret
            have hE : elL rdPlT true s = ([], s1) := by rw [HL.out, if_pos HE.out]
            exact ⟨none, 0, 0, rfl, by rw [hE]; exact OwnR.empty PlT.len _ _ _, by rw [hE, ← HN.out, HE.out]; exact HPUT.out, HK2.out⟩
      | false =>
        have HBIG := Lib.hid hbig
        clear hcw hfw
        go_wp2_with fail
        go_loopw [6, 7] (fun v6 v7 wr => ∃ (k : Nat) (a : Option Addr) (n6 c6 : Nat), k ≤ N ∧ v7 = .int .i64 k ∧ v6 = .slice a n6 c6 ∧ OwnR PlT.vs 3 151 wr w.heap.size (.slice a n6 c6) (rRs rdPlT k s1).1 ∧ WR wr gr gp (rRs rdPlT k s1).2 false ∧ Kept (fun k => k = gp ∨ k = gr) w wr) (fun _ i _ => N - (intOf i).toNat)
        case atStart => exact ⟨0, none, 0, 0, Nat.zero_le _, rfl, rfl, OwnR.empty PlT.len _ _ _, HW1.out, HK2.out⟩
        case round =>
          obtain ⟨k, a, n6, c6, hk, rfl, rfl, ho, hw, hkp⟩ := hrel
          have hcw := hw.cell.2.1
          by_cases hlt : k < N
          · have rd := rdc_ple wr gr gp (rRs rdPlT k s1).2 false hw (Nat.le_trans (rRs_left rdPlT_left k s1) HLEN.out)
            obtain ⟨c, hc⟩ : ∃ c, c = (rdPlT (rRs rdPlT k s1).2).1 := ⟨_, rfl⟩
            rw [← hc, show (rdPlT (rRs rdPlT k s1).2).2 = (rRs rdPlT (k + 1) s1).2 from rfl] at rd
            simp only [PlT.vs] at rd
            have HN1 : Hid ((rRs rdPlT (k + 1) s1).1 = (rRs rdPlT k s1).1 ++ [c]) := by rw [hc]; rfl
            have HO := Lib.hid ho
            have HKP := Lib.hid hkp
            have hlr := rRs_len rdPlT k s1
            have hle : ((rRs rdPlT k s1).1.length + [c].length) * 24 ≤ 140737488355328 := by have := HBIG.out; rw [hlr]; simp; omega
            clear hc ho hw hkp hlr
            go_wp2_with fail
            refine rd.mono ?_
            clear rd hcw
            rintro e w3 ⟨rfl, hw3, hk3⟩
            have hbx : Below w3.heap.size w3 (w3.alloc (.cells #[.int .i64 c.who, .int .i64 c.asset, .int .i64 c.units] 151)) := (Below.refl _ _).alloc (Nat.le_refl _) _
            have hoA : OwnR PlT.vs 3 151 (w3.alloc (.cells #[.int .i64 c.who, .int .i64 c.asset, .int .i64 c.units] 151)) w.heap.size (.slice a n6 c6) (rRs rdPlT k s1).1 := (OwnR.keptS HO.out hk3 (fun j hj (e : j = gp) => by have := OwnR.ge HO.out j hj; have := H.out.lt; have := HGG.out; omega)).alloc _
            have hone : Rs PlT.vs 3 (w3.alloc (.cells #[.int .i64 c.who, .int .i64 c.asset, .int .i64 c.units] 151)) (.slice (some ⟨w3.heap.size, 0, none⟩) 1 1) [c] := Rs.one PlT.len w3 c 151
            have HWA := Lib.hid (hw3.below hbx)
            have HKA : Hid (Kept (fun k => k = gp ∨ k = gr) w (w3.alloc (.cells #[.int .i64 c.who, .int .i64 c.asset, .int .i64 c.units] 151))) := (HKP.out.trans hk3 (fun _ _ h => .inl h)).alloc _
            have hbase : w.heap.size ≤ (w3.alloc (.cells #[.int .i64 c.who, .int .i64 c.asset, .int .i64 c.units] 151)).heap.size := HKA.out.size
            clear hbx hw3 hk3
            go_wp2_with (first
              | (at_builtin; refine wpList_append_rows (v := .slice a n6 c6) rfl (.tmp 34) (.tmp 37) 67 rfl (L := (rRs rdPlT k s1).1) (M := [c]) (base := w.heap.size) elem_ple rfl rfl hoA hone PlT.one hle (by decide) hbase ?_; intro a7 n7 c7 w7 Hn7 ho7 hg7 hat7 hb7)
              | fail)
            have hge : ∀ j, (Value.slice a n6 c6).ownBlock = some j → w.heap.size ≤ j := OwnR.ge HO.out
            have hkg := Kept.of_grown hg7
            refine ⟨⟨k + 1, a7, n7, c7, by omega, by push_cast; rfl, rfl, by rw [HN1.out]; exact ho7, HWA.out.go (HWA.out.2.1.kept hkg (fun j hj e => by have := hge j e; have := H.out.lt; have := HGG.out; omega)) hkg (fun e => by have := hge gr e; have := H.out.lt; omega), HKA.out.trans hkg (fun j hj e => by have := hge j e; omega)⟩, by simp [intOf]; omega⟩
          · obtain rfl : k = N := by omega
            have HO := Lib.hid ho
            have HW := Lib.hid hw
            have HKP := Lib.hid hkp
            clear ho hw hkp
            go_wp2_with fail
            go_ret
            have hE : elL rdPlT false s = rRs rdPlT k s1 := by rw [HL.out, HE.out]; simp
            exact ⟨_, _, _, rfl, by rw [hE]; exact HO.out, by rw [hE, ← HN.out, HE.out]; exact HW.out, HKP.out⟩

set_option maxRecDepth 100000 in
set_option maxHeartbeats 3200000 in
theorem rdcal_any (w : World) (gr gp : Nat) (s : RS) (wb : Bool) (h : WR w gr gp s wb) (hlen : s.1.length ≤ 70368744177664) : Calls Try.prog 95 #[.pointer (some ⟨gr, 0, none⟩)] w fun e w' => e = .returned (.agg (ivs (rIs 4 s).1).toArray) ∧ WR w' gr gp (rIs 4 s).2 wb ∧ Kept (fun k => k = gp) w w' := by
  have hlt := h.lt
  have hpr := h.2.2
  have hb1 : Below w.heap.size w (w.alloc (.cells #[.int .i64 0, .int .i64 0, .int .i64 0, .int .i64 0] 155)) := (Below.refl _ _).alloc (Nat.le_refl _) _
  have hc : HT (w.alloc (.cells #[.int .i64 0, .int .i64 0, .int .i64 0, .int .i64 0] 155)) w.heap.size 155 (splice (ivs (List.replicate 4 0)) 0 (ivs (rIs 0 s).1)) := by
    have := HT.new (w := w) (t := 155) (C := ivs (List.replicate 4 0))
    simpa [splice, rIs] using this
  have h2 : WR (w.alloc (.cells #[.int .i64 0, .int .i64 0, .int .i64 0, .int .i64 0] 155)) gr gp (rIs 0 s).2 wb := h.below hb1
  have hk : Kept (fun k => k = gp ∨ k = w.heap.size) w (w.alloc (.cells #[.int .i64 0, .int .i64 0, .int .i64 0, .int .i64 0] 155)) := (Kept.of_below hb1).weaken (fun _ h => h.elim)
  have HH := Lib.hid (⟨hlt, hpr⟩ : _ ∧ _)
  have HLEN := Lib.hid hlen
  have HSZ0 : Hid (w.heap.size < (w.alloc (.cells #[.int .i64 0, .int .i64 0, .int .i64 0, .int .i64 0] 155)).heap.size) := by show _ < _; simp
  obtain ⟨g, hg⟩ : ∃ g, g = w.heap.size := ⟨_, rfl⟩
  have HG0 := Lib.hid hg
  clear hlt hpr hb1 h hlen
  have hbx0 : Below (w.alloc (.cells #[.int .i64 0, .int .i64 0, .int .i64 0, .int .i64 0] 155)).heap.size (w.alloc (.cells #[.int .i64 0, .int .i64 0, .int .i64 0, .int .i64 0] 155)) ((w.alloc (.cells #[.int .i64 0, .int .i64 0, .int .i64 0, .int .i64 0] 155)).alloc (.cells #[.pointer (some ⟨w.heap.size, 0, none⟩), .pointer (some ⟨w.heap.size, 1, none⟩), .pointer (some ⟨w.heap.size, 2, none⟩), .pointer (some ⟨w.heap.size, 3, none⟩)] 120)) := (Below.refl _ _).alloc (Nat.le_refl _) _
  have hs0 : ∀ i, i < 4 → ((w.alloc (.cells #[.int .i64 0, .int .i64 0, .int .i64 0, .int .i64 0] 155)).alloc (.cells #[.pointer (some ⟨w.heap.size, 0, none⟩), .pointer (some ⟨w.heap.size, 1, none⟩), .pointer (some ⟨w.heap.size, 2, none⟩), .pointer (some ⟨w.heap.size, 3, none⟩)] 120)).cell? ⟨(w.alloc (.cells #[.int .i64 0, .int .i64 0, .int .i64 0, .int .i64 0] 155)).heap.size, i, none⟩ = some (.pointer (some ⟨w.heap.size, 0 + i, none⟩)) := by
    intro i hi
    have hh : ((w.alloc (.cells #[.int .i64 0, .int .i64 0, .int .i64 0, .int .i64 0] 155)).alloc (.cells #[.pointer (some ⟨w.heap.size, 0, none⟩), .pointer (some ⟨w.heap.size, 1, none⟩), .pointer (some ⟨w.heap.size, 2, none⟩), .pointer (some ⟨w.heap.size, 3, none⟩)] 120)).heap[(w.alloc (.cells #[.int .i64 0, .int .i64 0, .int .i64 0, .int .i64 0] 155)).heap.size]? = some (.cells #[.pointer (some ⟨w.heap.size, 0, none⟩), .pointer (some ⟨w.heap.size, 1, none⟩), .pointer (some ⟨w.heap.size, 2, none⟩), .pointer (some ⟨w.heap.size, 3, none⟩)] 120) := heap_alloc_new _ _
    unfold World.cell?
    rw [hh]
    rcases i with _ | _ | _ | _ | i
    all_goals first | rfl | omega
  have nx0 := into_nx ((w.alloc (.cells #[.int .i64 0, .int .i64 0, .int .i64 0, .int .i64 0] 155)).alloc (.cells #[.pointer (some ⟨w.heap.size, 0, none⟩), .pointer (some ⟨w.heap.size, 1, none⟩), .pointer (some ⟨w.heap.size, 2, none⟩), .pointer (some ⟨w.heap.size, 3, none⟩)] 120)) gr gp w.heap.size (w.alloc (.cells #[.int .i64 0, .int .i64 0, .int .i64 0, .int .i64 0] 155)).heap.size s 0 4 (ivs (List.replicate 4 0)) _ wb (h2.below hbx0) (hc.below hbx0) hs0 (by simp [ivs]) (by have := HH.out; omega) (by have := HH.out; omega) (by have := HSZ0.out; omega) (by omega) HLEN.out
  have hka0 := Lib.hid (hk.alloc (.cells #[.pointer (some ⟨w.heap.size, 0, none⟩), .pointer (some ⟨w.heap.size, 1, none⟩), .pointer (some ⟨w.heap.size, 2, none⟩), .pointer (some ⟨w.heap.size, 3, none⟩)] 120))
  clear hbx0 hs0 h2 hc hk
  rw [show (w.alloc (.cells #[.int .i64 0, .int .i64 0, .int .i64 0, .int .i64 0] 155)).heap.size = w.heap.size + 1 by simp] at nx0
  clear hg
  go_enter Try.func95, Try.ntmps95
  go_wp2_with fail
  refine nx0.mono ?_
  clear nx0
  rintro e w2 ⟨rfl, hw2, hc2, hkk2⟩
  have hk2 := hka0.out.trans hkk2 (fun _ _ h => h)
  clear hkk2
  have HSZ1 : Hid (w.heap.size < w2.heap.size) := hc2.lt
  rw [splice_all (by simp [ivs, rIs_len])] at hc2
  have hl := rIs_len 4 s
  obtain ⟨L, hL⟩ : ∃ L, L = (rIs 4 s).1 := ⟨_, rfl⟩
  simp only [Nat.reduceAdd] at hc2 hw2
  rw [← hL] at hc2 hl
  have HG : Hid (w2.heap[w.heap.size]? = some (.cells (ivs L).toArray 155 (0, 0))) := hc2
  have HSZ : Hid ((Try.prog.info? 155).map (·.size) = some (ivs L).toArray.size) := by show _ = _; rw [cal_sz]; simp [ivs, hl]
  have HWF := Lib.hid hw2
  have HKF := Lib.hid hk2
  have HL := Lib.hid hL
  clear hc2 hw2 hk2 hl hL
  go_wp2_with (first
    | (refine wpList_load_row rfl 155 (.tmp 2) rfl w.heap.size rfl 155 (ivs L).toArray (0, 0) _ HG.out Try.underlying155 rfl HSZ.out ?_)
    | (refine wpList_store_row rfl 155 (.tmp 2) (.tmp 13) rfl w.heap.size (ivs L).toArray rfl rfl 155 (ivs L).toArray HG.out HSZ.out rfl (ivs_one L) ?_)
    | fail)
  refine bodyPost_ret (results_cell_row rfl _ _ w.heap.size 155 (ivs L).toArray (0, 0) _ rfl (setRow_heap _ _ _ _ _ _ HG.out) Try.underlying155 rfl HSZ.out) rfl ?_
  have hkr : Kept (fun k => k = w.heap.size) w2 (w2.setRow w.heap.size (ivs L).toArray) := ⟨rfl, rfl, rfl, by simp [World.setRow], fun k _ hn => setRow_other _ _ _ _ hn⟩
  refine ⟨by rw [HL.out], HWF.out.go (HWF.out.2.1.kept hkr (fun k hk e => by have := HH.out; omega)) hkr (fun e => by have := HH.out; omega), ?_⟩
  exact ((HKF.out.trans hkr (fun i hi e => .inr e)).drop).weaken (fun _ h => h)

def rdCaT (s : RS) : CaT × RS := (⟨(rIs 4 s).1.getD 0 0, (rIs 4 s).1.getD 1 0, (rIs 4 s).1.getD 2 0, (rIs 4 s).1.getD 3 0⟩, (rIs 4 s).2)
theorem rdCaT_vs (s : RS) : (ivs (rIs 4 s).1) = (rdCaT s).1.vs := by
  have h := rIs_len 4 s
  unfold rdCaT
  generalize (rIs 4 s).1 = L at h
  match L, h with
  | [a0, a1, a2, a3], _ => rfl
theorem rdCaT_left (s : RS) : (rdCaT s).2.1.length ≤ s.1.length := rIs_left 4 s
theorem rdc_cal (w : World) (gr gp : Nat) (s : RS) (wb : Bool) (h : WR w gr gp s wb) (hlen : s.1.length ≤ 70368744177664) : Calls Try.prog 95 #[.pointer (some ⟨gr, 0, none⟩)] w fun e w' => e = .returned (.agg (rdCaT s).1.vs.toArray) ∧ WR w' gr gp (rdCaT s).2 wb ∧ Kept (fun k => k = gp) w w' := by
  rw [← rdCaT_vs]
  exact rdcal_any w gr gp s wb h hlen
def ElCaT (w : World) (gr gp : Nat) (s : RS) (wb : Bool) (e : Ending) (w' : World) : Prop := ∃ a n c, e = .returned (.slice a n c) ∧ OwnR CaT.vs 4 155 w' w.heap.size (.slice a n c) (elL rdCaT wb s).1 ∧ WR w' gr gp (elL rdCaT wb s).2 (elW wb (rI s).1) ∧ Kept (fun k => k = gp ∨ k = gr) w w'
set_option maxRecDepth 100000 in
set_option maxHeartbeats 3200000 in
theorem elems_cal (w : World) (gr gp : Nat) (s : RS) (wb : Bool) (h : WR w gr gp s wb) (hlen : s.1.length ≤ 70368744177664) :
    Calls Try.prog 94 #[.pointer (some ⟨gr, 0, none⟩), .func (.func 95) #[.pointer (some ⟨gr, 0, none⟩)] #[]] w (ElCaT w gr gp s wb) := by
  have hc0 := h.cell.1
  have ri := RInt_any w gp s h.2.1 hlen
  obtain ⟨n, hn⟩ : ∃ n, n = (rI s).1 := ⟨_, rfl⟩
  obtain ⟨s1, hs1⟩ : ∃ s1, s1 = (rI s).2 := ⟨_, rfl⟩
  rw [← hn, ← hs1] at ri
  have HL : Hid (elL rdCaT wb s = if elW wb n = true then ([], s1) else rRs rdCaT n.toNat s1) := by show _ = _; unfold elL; rw [← hn, ← hs1]
  have HN := Lib.hid hn
  have HLEN : Hid (s1.1.length ≤ 70368744177664) := by show _ ≤ _; rw [hs1]; exact Nat.le_trans (rIs_left 1 s) hlen
  have H := Lib.hid h
  have hgg : gp < gr := h.2.2
  have HGG := Lib.hid hgg
  have hnr : -9223372036854775808 ≤ n ∧ n ≤ 9223372036854775807 := by rw [hn]; exact rI_range s
  clear hn hs1 h hlen hgg
  go_enter Try.func94, Try.ntmps94
  go_wp2_with fail
  refine ri.mono ?_
  clear ri hc0
  rintro e w1 ⟨rfl, hd1, hk1⟩
  have hw1 := H.out.go hd1 hk1 (fun e => by have := HGG.out; omega)
  have HK1 := Lib.hid hk1
  have HW1 := Lib.hid hw1
  have hcw := hw1.cell.2.1
  have hfw := hw1.cell.2.2
  clear hd1 hk1 hw1
  by_cases hneg : n < 0
  · have hd : decide (n < 0) = true := by simpa using hneg
    have hput : WR (w1.setCell ⟨gr, 1, none⟩ (.bool true)) gr gp s1 true := ⟨HT.put (C := [.pointer (some ⟨gp, 0, none⟩), .bool wb]) HW1.out.1 1 (.bool true), HW1.out.2.1.kept ((Kept.refl (fun k => k = gr) w1).setCell _ _ rfl) (fun k hk (e : k = gr) => by have := HGG.out; omega), HW1.out.2.2⟩
    have hcp := hput.cell.2.1
    have HPUT := Lib.hid hput
    have HK2 : Hid (Kept (fun k => k = gp ∨ k = gr) w (w1.setCell ⟨gr, 1, none⟩ (.bool true))) := (HK1.out.weaken (T := fun k => k = gp ∨ k = gr) (fun _ h => .inl h)).trans ((Kept.refl (fun k => k = gr) w1).setCell _ _ rfl) (fun _ _ h => .inr h)
    have HE : Hid (elW wb n = true) := by show _ = _; unfold elW; simp; omega
    clear hput
    go_wp2_with fail
    generalize hw2 : w1.setCell ⟨gr, 1, none⟩ (.bool true) = w2 at *
    clear hw2
    go_loopw [6, 7] (fun v6 v7 wr => v6 = .slice none 0 0 ∧ v7 = .int .i64 0 ∧ wr = w2) (fun _ _ _ => 0)
    case atStart => exact ⟨rfl, rfl, rfl⟩
    case round =>
      obtain ⟨rfl, rfl, rfl⟩ := hrel
      go_wp2_with fail
      all_goals
        go_ret
        have hE : elL rdCaT wb s = ([], s1) := by rw [HL.out, if_pos HE.out]
        exact ⟨none, 0, 0, rfl, by rw [hE]; exact OwnR.empty CaT.len _ _ _, by rw [hE, ← HN.out, HE.out]; exact HPUT.out, HK2.out⟩
  · have hneg' : 0 ≤ n := by omega
    obtain ⟨N, rfl⟩ : ∃ N : Nat, n = N := ⟨n.toNat, by omega⟩
    clear hneg hneg' hnr
    by_cases hbig : 1024 < N
    · have hput : WR (w1.setCell ⟨gr, 1, none⟩ (.bool true)) gr gp s1 true := ⟨HT.put (C := [.pointer (some ⟨gp, 0, none⟩), .bool wb]) HW1.out.1 1 (.bool true), HW1.out.2.1.kept ((Kept.refl (fun k => k = gr) w1).setCell _ _ rfl) (fun k hk (e : k = gr) => by have := HGG.out; omega), HW1.out.2.2⟩
      have hcp := hput.cell.2.1
      have HPUT := Lib.hid hput
      have HK2 : Hid (Kept (fun k => k = gp ∨ k = gr) w (w1.setCell ⟨gr, 1, none⟩ (.bool true))) := (HK1.out.weaken (T := fun k => k = gp ∨ k = gr) (fun _ h => .inl h)).trans ((Kept.refl (fun k => k = gr) w1).setCell _ _ rfl) (fun _ _ h => .inr h)
      have HE : Hid (elW wb (N : Int) = true) := by show _ = _; unfold elW; simp; omega
      clear hput
      go_wp2_with fail
      generalize hw2 : w1.setCell ⟨gr, 1, none⟩ (.bool true) = w2 at *
      clear hw2
      go_loopw [6, 7] (fun v6 v7 wr => v6 = .slice none 0 0 ∧ v7 = .int .i64 0 ∧ wr = w2) (fun _ _ _ => 0)
      case atStart => exact ⟨rfl, rfl, rfl⟩
      case round =>
        obtain ⟨rfl, rfl, rfl⟩ := hrel
        go_wp2_with fail
        all_goals
          go_ret
          have hE : elL rdCaT wb s = ([], s1) := by rw [HL.out, if_pos HE.out]
          exact ⟨none, 0, 0, rfl, by rw [hE]; exact OwnR.empty CaT.len _ _ _, by rw [hE, ← HN.out, HE.out]; exact HPUT.out, HK2.out⟩
    · have HE : Hid (elW wb (N : Int) = wb) := by show _ = _; unfold elW; cases wb <;> simp <;> omega
      have HK2 : Hid (Kept (fun k => k = gp ∨ k = gr) w w1) := HK1.out.weaken (T := fun k => k = gp ∨ k = gr) (fun _ h => .inl h)
      cases wb with
      | true =>
        have HPUT := HW1
        have hcp := hcw
        obtain ⟨w2, hw2⟩ : ∃ w2, w2 = w1 := ⟨_, rfl⟩
        subst hw2
        clear hcw
        go_wp2_with fail
        go_loopw [6, 7] (fun v6 v7 wr => v6 = .slice none 0 0 ∧ v7 = .int .i64 0 ∧ wr = w2) (fun _ _ _ => 0)
        case atStart => exact ⟨rfl, rfl, rfl⟩
        case round =>
          obtain ⟨rfl, rfl, rfl⟩ := hrel
          go_wp2_with fail
          all_goals
            go_ret
            have hE : elL rdCaT true s = ([], s1) := by rw [HL.out, if_pos HE.out]
            exact ⟨none, 0, 0, rfl, by rw [hE]; exact OwnR.empty CaT.len _ _ _, by rw [hE, ← HN.out, HE.out]; exact HPUT.out, HK2.out⟩
      | false =>
        have HBIG := Lib.hid hbig
        clear hcw hfw
        go_wp2_with fail
        go_loopw [6, 7] (fun v6 v7 wr => ∃ (k : Nat) (a : Option Addr) (n6 c6 : Nat), k ≤ N ∧ v7 = .int .i64 k ∧ v6 = .slice a n6 c6 ∧ OwnR CaT.vs 4 155 wr w.heap.size (.slice a n6 c6) (rRs rdCaT k s1).1 ∧ WR wr gr gp (rRs rdCaT k s1).2 false ∧ Kept (fun k => k = gp ∨ k = gr) w wr) (fun _ i _ => N - (intOf i).toNat)
        case atStart => exact ⟨0, none, 0, 0, Nat.zero_le _, rfl, rfl, OwnR.empty CaT.len _ _ _, HW1.out, HK2.out⟩
        case round =>
          obtain ⟨k, a, n6, c6, hk, rfl, rfl, ho, hw, hkp⟩ := hrel
          have hcw := hw.cell.2.1
          by_cases hlt : k < N
          · have rd := rdc_cal wr gr gp (rRs rdCaT k s1).2 false hw (Nat.le_trans (rRs_left rdCaT_left k s1) HLEN.out)
            obtain ⟨c, hc⟩ : ∃ c, c = (rdCaT (rRs rdCaT k s1).2).1 := ⟨_, rfl⟩
            rw [← hc, show (rdCaT (rRs rdCaT k s1).2).2 = (rRs rdCaT (k + 1) s1).2 from rfl] at rd
            simp only [CaT.vs] at rd
            have HN1 : Hid ((rRs rdCaT (k + 1) s1).1 = (rRs rdCaT k s1).1 ++ [c]) := by rw [hc]; rfl
            have HO := Lib.hid ho
            have HKP := Lib.hid hkp
            have hlr := rRs_len rdCaT k s1
            have hle : ((rRs rdCaT k s1).1.length + [c].length) * 32 ≤ 140737488355328 := by have := HBIG.out; rw [hlr]; simp; omega
            clear hc ho hw hkp hlr
            go_wp2_with fail
            refine rd.mono ?_
            clear rd hcw
            rintro e w3 ⟨rfl, hw3, hk3⟩
            have hbx : Below w3.heap.size w3 (w3.alloc (.cells #[.int .i64 c.who, .int .i64 c.cur, .int .i64 c.amt, .int .i64 c.tick] 155)) := (Below.refl _ _).alloc (Nat.le_refl _) _
            have hoA : OwnR CaT.vs 4 155 (w3.alloc (.cells #[.int .i64 c.who, .int .i64 c.cur, .int .i64 c.amt, .int .i64 c.tick] 155)) w.heap.size (.slice a n6 c6) (rRs rdCaT k s1).1 := (OwnR.keptS HO.out hk3 (fun j hj (e : j = gp) => by have := OwnR.ge HO.out j hj; have := H.out.lt; have := HGG.out; omega)).alloc _
            have hone : Rs CaT.vs 4 (w3.alloc (.cells #[.int .i64 c.who, .int .i64 c.cur, .int .i64 c.amt, .int .i64 c.tick] 155)) (.slice (some ⟨w3.heap.size, 0, none⟩) 1 1) [c] := Rs.one CaT.len w3 c 155
            have HWA := Lib.hid (hw3.below hbx)
            have HKA : Hid (Kept (fun k => k = gp ∨ k = gr) w (w3.alloc (.cells #[.int .i64 c.who, .int .i64 c.cur, .int .i64 c.amt, .int .i64 c.tick] 155))) := (HKP.out.trans hk3 (fun _ _ h => .inl h)).alloc _
            have hbase : w.heap.size ≤ (w3.alloc (.cells #[.int .i64 c.who, .int .i64 c.cur, .int .i64 c.amt, .int .i64 c.tick] 155)).heap.size := HKA.out.size
            clear hbx hw3 hk3
            go_wp2_with (first
              | (at_builtin; refine wpList_append_rows (v := .slice a n6 c6) rfl (.tmp 34) (.tmp 37) 68 rfl (L := (rRs rdCaT k s1).1) (M := [c]) (base := w.heap.size) elem_cal rfl rfl hoA hone CaT.one hle (by decide) hbase ?_; intro a7 n7 c7 w7 Hn7 ho7 hg7 hat7 hb7)
              | fail)
            have hge : ∀ j, (Value.slice a n6 c6).ownBlock = some j → w.heap.size ≤ j := OwnR.ge HO.out
            have hkg := Kept.of_grown hg7
            refine ⟨⟨k + 1, a7, n7, c7, by omega, by push_cast; rfl, rfl, by rw [HN1.out]; exact ho7, HWA.out.go (HWA.out.2.1.kept hkg (fun j hj e => by have := hge j e; have := H.out.lt; have := HGG.out; omega)) hkg (fun e => by have := hge gr e; have := H.out.lt; omega), HKA.out.trans hkg (fun j hj e => by have := hge j e; omega)⟩, by simp [intOf]; omega⟩
          · obtain rfl : k = N := by omega
            have HO := Lib.hid ho
            have HW := Lib.hid hw
            have HKP := Lib.hid hkp
            clear ho hw hkp
            go_wp2_with fail
            go_ret
            have hE : elL rdCaT false s = rRs rdCaT k s1 := by rw [HL.out, HE.out]; simp
            exact ⟨_, _, _, rfl, by rw [hE]; exact HO.out, by rw [hE, ← HN.out, HE.out]; exact HW.out, HKP.out⟩

set_option maxRecDepth 100000 in
set_option maxHeartbeats 3200000 in
theorem rdbid_any (w : World) (gr gp : Nat) (s : RS) (wb : Bool) (h : WR w gr gp s wb) (hlen : s.1.length ≤ 70368744177664) : Calls Try.prog 97 #[.pointer (some ⟨gr, 0, none⟩)] w fun e w' => e = .returned (.agg (ivs (rIs 5 s).1).toArray) ∧ WR w' gr gp (rIs 5 s).2 wb ∧ Kept (fun k => k = gp) w w' := by
  have hlt := h.lt
  have hpr := h.2.2
  have hb1 : Below w.heap.size w (w.alloc (.cells #[.int .i64 0, .int .i64 0, .int .i64 0, .int .i64 0, .int .i64 0] 161)) := (Below.refl _ _).alloc (Nat.le_refl _) _
  have hc : HT (w.alloc (.cells #[.int .i64 0, .int .i64 0, .int .i64 0, .int .i64 0, .int .i64 0] 161)) w.heap.size 161 (splice (ivs (List.replicate 5 0)) 0 (ivs (rIs 0 s).1)) := by
    have := HT.new (w := w) (t := 161) (C := ivs (List.replicate 5 0))
    simpa [splice, rIs] using this
  have h2 : WR (w.alloc (.cells #[.int .i64 0, .int .i64 0, .int .i64 0, .int .i64 0, .int .i64 0] 161)) gr gp (rIs 0 s).2 wb := h.below hb1
  have hk : Kept (fun k => k = gp ∨ k = w.heap.size) w (w.alloc (.cells #[.int .i64 0, .int .i64 0, .int .i64 0, .int .i64 0, .int .i64 0] 161)) := (Kept.of_below hb1).weaken (fun _ h => h.elim)
  have HH := Lib.hid (⟨hlt, hpr⟩ : _ ∧ _)
  have HLEN := Lib.hid hlen
  have HSZ0 : Hid (w.heap.size < (w.alloc (.cells #[.int .i64 0, .int .i64 0, .int .i64 0, .int .i64 0, .int .i64 0] 161)).heap.size) := by show _ < _; simp
  obtain ⟨g, hg⟩ : ∃ g, g = w.heap.size := ⟨_, rfl⟩
  have HG0 := Lib.hid hg
  clear hlt hpr hb1 h hlen
  have hbx0 : Below (w.alloc (.cells #[.int .i64 0, .int .i64 0, .int .i64 0, .int .i64 0, .int .i64 0] 161)).heap.size (w.alloc (.cells #[.int .i64 0, .int .i64 0, .int .i64 0, .int .i64 0, .int .i64 0] 161)) ((w.alloc (.cells #[.int .i64 0, .int .i64 0, .int .i64 0, .int .i64 0, .int .i64 0] 161)).alloc (.cells #[.pointer (some ⟨w.heap.size, 0, none⟩), .pointer (some ⟨w.heap.size, 1, none⟩), .pointer (some ⟨w.heap.size, 2, none⟩), .pointer (some ⟨w.heap.size, 3, none⟩), .pointer (some ⟨w.heap.size, 4, none⟩)] 120)) := (Below.refl _ _).alloc (Nat.le_refl _) _
  have hs0 : ∀ i, i < 5 → ((w.alloc (.cells #[.int .i64 0, .int .i64 0, .int .i64 0, .int .i64 0, .int .i64 0] 161)).alloc (.cells #[.pointer (some ⟨w.heap.size, 0, none⟩), .pointer (some ⟨w.heap.size, 1, none⟩), .pointer (some ⟨w.heap.size, 2, none⟩), .pointer (some ⟨w.heap.size, 3, none⟩), .pointer (some ⟨w.heap.size, 4, none⟩)] 120)).cell? ⟨(w.alloc (.cells #[.int .i64 0, .int .i64 0, .int .i64 0, .int .i64 0, .int .i64 0] 161)).heap.size, i, none⟩ = some (.pointer (some ⟨w.heap.size, 0 + i, none⟩)) := by
    intro i hi
    have hh : ((w.alloc (.cells #[.int .i64 0, .int .i64 0, .int .i64 0, .int .i64 0, .int .i64 0] 161)).alloc (.cells #[.pointer (some ⟨w.heap.size, 0, none⟩), .pointer (some ⟨w.heap.size, 1, none⟩), .pointer (some ⟨w.heap.size, 2, none⟩), .pointer (some ⟨w.heap.size, 3, none⟩), .pointer (some ⟨w.heap.size, 4, none⟩)] 120)).heap[(w.alloc (.cells #[.int .i64 0, .int .i64 0, .int .i64 0, .int .i64 0, .int .i64 0] 161)).heap.size]? = some (.cells #[.pointer (some ⟨w.heap.size, 0, none⟩), .pointer (some ⟨w.heap.size, 1, none⟩), .pointer (some ⟨w.heap.size, 2, none⟩), .pointer (some ⟨w.heap.size, 3, none⟩), .pointer (some ⟨w.heap.size, 4, none⟩)] 120) := heap_alloc_new _ _
    unfold World.cell?
    rw [hh]
    rcases i with _ | _ | _ | _ | _ | i
    all_goals first | rfl | omega
  have nx0 := into_nx ((w.alloc (.cells #[.int .i64 0, .int .i64 0, .int .i64 0, .int .i64 0, .int .i64 0] 161)).alloc (.cells #[.pointer (some ⟨w.heap.size, 0, none⟩), .pointer (some ⟨w.heap.size, 1, none⟩), .pointer (some ⟨w.heap.size, 2, none⟩), .pointer (some ⟨w.heap.size, 3, none⟩), .pointer (some ⟨w.heap.size, 4, none⟩)] 120)) gr gp w.heap.size (w.alloc (.cells #[.int .i64 0, .int .i64 0, .int .i64 0, .int .i64 0, .int .i64 0] 161)).heap.size s 0 5 (ivs (List.replicate 5 0)) _ wb (h2.below hbx0) (hc.below hbx0) hs0 (by simp [ivs]) (by have := HH.out; omega) (by have := HH.out; omega) (by have := HSZ0.out; omega) (by omega) HLEN.out
  have hka0 := Lib.hid (hk.alloc (.cells #[.pointer (some ⟨w.heap.size, 0, none⟩), .pointer (some ⟨w.heap.size, 1, none⟩), .pointer (some ⟨w.heap.size, 2, none⟩), .pointer (some ⟨w.heap.size, 3, none⟩), .pointer (some ⟨w.heap.size, 4, none⟩)] 120))
  clear hbx0 hs0 h2 hc hk
  rw [show (w.alloc (.cells #[.int .i64 0, .int .i64 0, .int .i64 0, .int .i64 0, .int .i64 0] 161)).heap.size = w.heap.size + 1 by simp] at nx0
  clear hg
  go_enter Try.func97, Try.ntmps97
  go_wp2_with fail
  refine nx0.mono ?_
  clear nx0
  rintro e w2 ⟨rfl, hw2, hc2, hkk2⟩
  have hk2 := hka0.out.trans hkk2 (fun _ _ h => h)
  clear hkk2
  have HSZ1 : Hid (w.heap.size < w2.heap.size) := hc2.lt
  rw [splice_all (by simp [ivs, rIs_len])] at hc2
  have hl := rIs_len 5 s
  obtain ⟨L, hL⟩ : ∃ L, L = (rIs 5 s).1 := ⟨_, rfl⟩
  simp only [Nat.reduceAdd] at hc2 hw2
  rw [← hL] at hc2 hl
  have HG : Hid (w2.heap[w.heap.size]? = some (.cells (ivs L).toArray 161 (0, 0))) := hc2
  have HSZ : Hid ((Try.prog.info? 161).map (·.size) = some (ivs L).toArray.size) := by show _ = _; rw [bid_sz]; simp [ivs, hl]
  have HWF := Lib.hid hw2
  have HKF := Lib.hid hk2
  have HL := Lib.hid hL
  clear hc2 hw2 hk2 hl hL
  go_wp2_with (first
    | (refine wpList_load_row rfl 161 (.tmp 2) rfl w.heap.size rfl 161 (ivs L).toArray (0, 0) _ HG.out Try.underlying161 rfl HSZ.out ?_)
    | (refine wpList_store_row rfl 161 (.tmp 2) (.tmp 13) rfl w.heap.size (ivs L).toArray rfl rfl 161 (ivs L).toArray HG.out HSZ.out rfl (ivs_one L) ?_)
    | fail)
  refine bodyPost_ret (results_cell_row rfl _ _ w.heap.size 161 (ivs L).toArray (0, 0) _ rfl (setRow_heap _ _ _ _ _ _ HG.out) Try.underlying161 rfl HSZ.out) rfl ?_
  have hkr : Kept (fun k => k = w.heap.size) w2 (w2.setRow w.heap.size (ivs L).toArray) := ⟨rfl, rfl, rfl, by simp [World.setRow], fun k _ hn => setRow_other _ _ _ _ hn⟩
  refine ⟨by rw [HL.out], HWF.out.go (HWF.out.2.1.kept hkr (fun k hk e => by have := HH.out; omega)) hkr (fun e => by have := HH.out; omega), ?_⟩
  exact ((HKF.out.trans hkr (fun i hi e => .inr e)).drop).weaken (fun _ h => h)

def rdBiT (s : RS) : BiT × RS := (⟨(rIs 5 s).1.getD 0 0, (rIs 5 s).1.getD 1 0, (rIs 5 s).1.getD 2 0, (rIs 5 s).1.getD 3 0, (rIs 5 s).1.getD 4 0⟩, (rIs 5 s).2)
theorem rdBiT_vs (s : RS) : (ivs (rIs 5 s).1) = (rdBiT s).1.vs := by
  have h := rIs_len 5 s
  unfold rdBiT
  generalize (rIs 5 s).1 = L at h
  match L, h with
  | [a0, a1, a2, a3, a4], _ => rfl
theorem rdBiT_left (s : RS) : (rdBiT s).2.1.length ≤ s.1.length := rIs_left 5 s
theorem rdc_bid (w : World) (gr gp : Nat) (s : RS) (wb : Bool) (h : WR w gr gp s wb) (hlen : s.1.length ≤ 70368744177664) : Calls Try.prog 97 #[.pointer (some ⟨gr, 0, none⟩)] w fun e w' => e = .returned (.agg (rdBiT s).1.vs.toArray) ∧ WR w' gr gp (rdBiT s).2 wb ∧ Kept (fun k => k = gp) w w' := by
  rw [← rdBiT_vs]
  exact rdbid_any w gr gp s wb h hlen
def ElBiT (w : World) (gr gp : Nat) (s : RS) (wb : Bool) (e : Ending) (w' : World) : Prop := ∃ a n c, e = .returned (.slice a n c) ∧ OwnR BiT.vs 5 161 w' w.heap.size (.slice a n c) (elL rdBiT wb s).1 ∧ WR w' gr gp (elL rdBiT wb s).2 (elW wb (rI s).1) ∧ Kept (fun k => k = gp ∨ k = gr) w w'
set_option maxRecDepth 100000 in
set_option maxHeartbeats 3200000 in
theorem elems_bid (w : World) (gr gp : Nat) (s : RS) (wb : Bool) (h : WR w gr gp s wb) (hlen : s.1.length ≤ 70368744177664) :
    Calls Try.prog 96 #[.pointer (some ⟨gr, 0, none⟩), .func (.func 97) #[.pointer (some ⟨gr, 0, none⟩)] #[]] w (ElBiT w gr gp s wb) := by
  have hc0 := h.cell.1
  have ri := RInt_any w gp s h.2.1 hlen
  obtain ⟨n, hn⟩ : ∃ n, n = (rI s).1 := ⟨_, rfl⟩
  obtain ⟨s1, hs1⟩ : ∃ s1, s1 = (rI s).2 := ⟨_, rfl⟩
  rw [← hn, ← hs1] at ri
  have HL : Hid (elL rdBiT wb s = if elW wb n = true then ([], s1) else rRs rdBiT n.toNat s1) := by show _ = _; unfold elL; rw [← hn, ← hs1]
  have HN := Lib.hid hn
  have HLEN : Hid (s1.1.length ≤ 70368744177664) := by show _ ≤ _; rw [hs1]; exact Nat.le_trans (rIs_left 1 s) hlen
  have H := Lib.hid h
  have hgg : gp < gr := h.2.2
  have HGG := Lib.hid hgg
  have hnr : -9223372036854775808 ≤ n ∧ n ≤ 9223372036854775807 := by rw [hn]; exact rI_range s
  clear hn hs1 h hlen hgg
  go_enter Try.func96, Try.ntmps96
  go_wp2_with fail
  refine ri.mono ?_
  clear ri hc0
  rintro e w1 ⟨rfl, hd1, hk1⟩
  have hw1 := H.out.go hd1 hk1 (fun e => by have := HGG.out; omega)
  have HK1 := Lib.hid hk1
  have HW1 := Lib.hid hw1
  have hcw := hw1.cell.2.1
  have hfw := hw1.cell.2.2
  clear hd1 hk1 hw1
  by_cases hneg : n < 0
  · have hd : decide (n < 0) = true := by simpa using hneg
    have hput : WR (w1.setCell ⟨gr, 1, none⟩ (.bool true)) gr gp s1 true := ⟨HT.put (C := [.pointer (some ⟨gp, 0, none⟩), .bool wb]) HW1.out.1 1 (.bool true), HW1.out.2.1.kept ((Kept.refl (fun k => k = gr) w1).setCell _ _ rfl) (fun k hk (e : k = gr) => by have := HGG.out; omega), HW1.out.2.2⟩
    have hcp := hput.cell.2.1
    have HPUT := Lib.hid hput
    have HK2 : Hid (Kept (fun k => k = gp ∨ k = gr) w (w1.setCell ⟨gr, 1, none⟩ (.bool true))) := (HK1.out.weaken (T := fun k => k = gp ∨ k = gr) (fun _ h => .inl h)).trans ((Kept.refl (fun k => k = gr) w1).setCell _ _ rfl) (fun _ _ h => .inr h)
    have HE : Hid (elW wb n = true) := by show _ = _; unfold elW; simp; omega
    clear hput
    go_wp2_with fail
    generalize hw2 : w1.setCell ⟨gr, 1, none⟩ (.bool true) = w2 at *
    clear hw2
    go_loopw [6, 7] (fun v6 v7 wr => v6 = .slice none 0 0 ∧ v7 = .int .i64 0 ∧ wr = w2) (fun _ _ _ => 0)
    case atStart => exact ⟨rfl, rfl, rfl⟩
    case round =>
      obtain ⟨rfl, rfl, rfl⟩ := hrel
      go_wp2_with fail
      all_goals
        go_ret
        have hE : elL rdBiT wb s = ([], s1) := by rw [HL.out, if_pos HE.out]
        exact ⟨none, 0, 0, rfl, by rw [hE]; exact OwnR.empty BiT.len _ _ _, by rw [hE, ← HN.out, HE.out]; exact HPUT.out, HK2.out⟩
  · have hneg' : 0 ≤ n := by omega
    obtain ⟨N, rfl⟩ : ∃ N : Nat, n = N := ⟨n.toNat, by omega⟩
    clear hneg hneg' hnr
    by_cases hbig : 1024 < N
    · have hput : WR (w1.setCell ⟨gr, 1, none⟩ (.bool true)) gr gp s1 true := ⟨HT.put (C := [.pointer (some ⟨gp, 0, none⟩), .bool wb]) HW1.out.1 1 (.bool true), HW1.out.2.1.kept ((Kept.refl (fun k => k = gr) w1).setCell _ _ rfl) (fun k hk (e : k = gr) => by have := HGG.out; omega), HW1.out.2.2⟩
      have hcp := hput.cell.2.1
      have HPUT := Lib.hid hput
      have HK2 : Hid (Kept (fun k => k = gp ∨ k = gr) w (w1.setCell ⟨gr, 1, none⟩ (.bool true))) := (HK1.out.weaken (T := fun k => k = gp ∨ k = gr) (fun _ h => .inl h)).trans ((Kept.refl (fun k => k = gr) w1).setCell _ _ rfl) (fun _ _ h => .inr h)
      have HE : Hid (elW wb (N : Int) = true) := by show _ = _; unfold elW; simp; omega
      clear hput
      go_wp2_with fail
      generalize hw2 : w1.setCell ⟨gr, 1, none⟩ (.bool true) = w2 at *
      clear hw2
      go_loopw [6, 7] (fun v6 v7 wr => v6 = .slice none 0 0 ∧ v7 = .int .i64 0 ∧ wr = w2) (fun _ _ _ => 0)
      case atStart => exact ⟨rfl, rfl, rfl⟩
      case round =>
        obtain ⟨rfl, rfl, rfl⟩ := hrel
        go_wp2_with fail
        all_goals
          go_ret
          have hE : elL rdBiT wb s = ([], s1) := by rw [HL.out, if_pos HE.out]
          exact ⟨none, 0, 0, rfl, by rw [hE]; exact OwnR.empty BiT.len _ _ _, by rw [hE, ← HN.out, HE.out]; exact HPUT.out, HK2.out⟩
    · have HE : Hid (elW wb (N : Int) = wb) := by show _ = _; unfold elW; cases wb <;> simp <;> omega
      have HK2 : Hid (Kept (fun k => k = gp ∨ k = gr) w w1) := HK1.out.weaken (T := fun k => k = gp ∨ k = gr) (fun _ h => .inl h)
      cases wb with
      | true =>
        have HPUT := HW1
        have hcp := hcw
        obtain ⟨w2, hw2⟩ : ∃ w2, w2 = w1 := ⟨_, rfl⟩
        subst hw2
        clear hcw
        go_wp2_with fail
        go_loopw [6, 7] (fun v6 v7 wr => v6 = .slice none 0 0 ∧ v7 = .int .i64 0 ∧ wr = w2) (fun _ _ _ => 0)
        case atStart => exact ⟨rfl, rfl, rfl⟩
        case round =>
          obtain ⟨rfl, rfl, rfl⟩ := hrel
          go_wp2_with fail
          all_goals
            go_ret
            have hE : elL rdBiT true s = ([], s1) := by rw [HL.out, if_pos HE.out]
            exact ⟨none, 0, 0, rfl, by rw [hE]; exact OwnR.empty BiT.len _ _ _, by rw [hE, ← HN.out, HE.out]; exact HPUT.out, HK2.out⟩
      | false =>
        have HBIG := Lib.hid hbig
        clear hcw hfw
        go_wp2_with fail
        go_loopw [6, 7] (fun v6 v7 wr => ∃ (k : Nat) (a : Option Addr) (n6 c6 : Nat), k ≤ N ∧ v7 = .int .i64 k ∧ v6 = .slice a n6 c6 ∧ OwnR BiT.vs 5 161 wr w.heap.size (.slice a n6 c6) (rRs rdBiT k s1).1 ∧ WR wr gr gp (rRs rdBiT k s1).2 false ∧ Kept (fun k => k = gp ∨ k = gr) w wr) (fun _ i _ => N - (intOf i).toNat)
        case atStart => exact ⟨0, none, 0, 0, Nat.zero_le _, rfl, rfl, OwnR.empty BiT.len _ _ _, HW1.out, HK2.out⟩
        case round =>
          obtain ⟨k, a, n6, c6, hk, rfl, rfl, ho, hw, hkp⟩ := hrel
          have hcw := hw.cell.2.1
          by_cases hlt : k < N
          · have rd := rdc_bid wr gr gp (rRs rdBiT k s1).2 false hw (Nat.le_trans (rRs_left rdBiT_left k s1) HLEN.out)
            obtain ⟨c, hc⟩ : ∃ c, c = (rdBiT (rRs rdBiT k s1).2).1 := ⟨_, rfl⟩
            rw [← hc, show (rdBiT (rRs rdBiT k s1).2).2 = (rRs rdBiT (k + 1) s1).2 from rfl] at rd
            simp only [BiT.vs] at rd
            have HN1 : Hid ((rRs rdBiT (k + 1) s1).1 = (rRs rdBiT k s1).1 ++ [c]) := by rw [hc]; rfl
            have HO := Lib.hid ho
            have HKP := Lib.hid hkp
            have hlr := rRs_len rdBiT k s1
            have hle : ((rRs rdBiT k s1).1.length + [c].length) * 40 ≤ 140737488355328 := by have := HBIG.out; rw [hlr]; simp; omega
            clear hc ho hw hkp hlr
            go_wp2_with fail
            refine rd.mono ?_
            clear rd hcw
            rintro e w3 ⟨rfl, hw3, hk3⟩
            have hbx : Below w3.heap.size w3 (w3.alloc (.cells #[.int .i64 c.who, .int .i64 c.inst, .int .i64 c.frm, .int .i64 c.qty, .int .i64 c.price] 161)) := (Below.refl _ _).alloc (Nat.le_refl _) _
            have hoA : OwnR BiT.vs 5 161 (w3.alloc (.cells #[.int .i64 c.who, .int .i64 c.inst, .int .i64 c.frm, .int .i64 c.qty, .int .i64 c.price] 161)) w.heap.size (.slice a n6 c6) (rRs rdBiT k s1).1 := (OwnR.keptS HO.out hk3 (fun j hj (e : j = gp) => by have := OwnR.ge HO.out j hj; have := H.out.lt; have := HGG.out; omega)).alloc _
            have hone : Rs BiT.vs 5 (w3.alloc (.cells #[.int .i64 c.who, .int .i64 c.inst, .int .i64 c.frm, .int .i64 c.qty, .int .i64 c.price] 161)) (.slice (some ⟨w3.heap.size, 0, none⟩) 1 1) [c] := Rs.one BiT.len w3 c 161
            have HWA := Lib.hid (hw3.below hbx)
            have HKA : Hid (Kept (fun k => k = gp ∨ k = gr) w (w3.alloc (.cells #[.int .i64 c.who, .int .i64 c.inst, .int .i64 c.frm, .int .i64 c.qty, .int .i64 c.price] 161))) := (HKP.out.trans hk3 (fun _ _ h => .inl h)).alloc _
            have hbase : w.heap.size ≤ (w3.alloc (.cells #[.int .i64 c.who, .int .i64 c.inst, .int .i64 c.frm, .int .i64 c.qty, .int .i64 c.price] 161)).heap.size := HKA.out.size
            clear hbx hw3 hk3
            go_wp2_with (first
              | (at_builtin; refine wpList_append_rows (v := .slice a n6 c6) rfl (.tmp 34) (.tmp 37) 69 rfl (L := (rRs rdBiT k s1).1) (M := [c]) (base := w.heap.size) elem_bid rfl rfl hoA hone BiT.one hle (by decide) hbase ?_; intro a7 n7 c7 w7 Hn7 ho7 hg7 hat7 hb7)
              | fail)
            have hge : ∀ j, (Value.slice a n6 c6).ownBlock = some j → w.heap.size ≤ j := OwnR.ge HO.out
            have hkg := Kept.of_grown hg7
            refine ⟨⟨k + 1, a7, n7, c7, by omega, by push_cast; rfl, rfl, by rw [HN1.out]; exact ho7, HWA.out.go (HWA.out.2.1.kept hkg (fun j hj e => by have := hge j e; have := H.out.lt; have := HGG.out; omega)) hkg (fun e => by have := hge gr e; have := H.out.lt; omega), HKA.out.trans hkg (fun j hj e => by have := hge j e; omega)⟩, by simp [intOf]; omega⟩
          · obtain rfl : k = N := by omega
            have HO := Lib.hid ho
            have HW := Lib.hid hw
            have HKP := Lib.hid hkp
            clear ho hw hkp
            go_wp2_with fail
            go_ret
            have hE : elL rdBiT false s = rRs rdBiT k s1 := by rw [HL.out, HE.out]; simp
            exact ⟨_, _, _, rfl, by rw [hE]; exact HO.out, by rw [hE, ← HN.out, HE.out]; exact HW.out, HKP.out⟩
end Cam
