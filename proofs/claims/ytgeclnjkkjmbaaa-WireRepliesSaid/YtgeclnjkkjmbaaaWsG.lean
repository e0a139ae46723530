import Derived.Test.YtgeclnjkkjmbaaaWsF
/- wire.reader: fall; elements over falls. -/
namespace Cam
open Go Go.RowKit Go.Proofs

theorem splice_next {C xs ys : List Value} (m : Nat) (hm : m = xs.length) : splice (splice C 0 xs) m ys = splice C 0 (xs ++ ys) := by
  subst hm
  unfold splice
  simp only [List.take_zero, List.nil_append, Nat.zero_add, List.length_append]
  rw [List.take_append_of_le_length (Nat.le_refl _), List.take_length, List.drop_append, List.drop_of_length_le (by omega), List.nil_append, List.drop_drop, List.append_assoc]
  congr 3
  omega
theorem Kept.drop {w w' : World} {g : Nat} (h : Kept (fun k => k = g ∨ k = w.heap.size) w w') : Kept (fun k => k = g) w w' := ⟨h.os, h.tape, h.output, h.size, fun k hk hn => h.block k hk (fun e => e.elim hn (fun e => by omega))⟩
theorem into_nx (w : World) (gr gp gc gs : Nat) (s : RS) (m k : Nat) (C : List Value) (t : TypeId) (wb : Bool) (hw : WR w gr gp (rIs m s).2 wb) (hc : HT w gc t (splice C 0 (ivs (rIs m s).1)))
    (hs : ∀ i, i < k → w.cell? ⟨gs, i, none⟩ = some (.pointer (some ⟨gc, m + i, none⟩))) (hmk : m + k ≤ C.length) (hpc : gp < gc) (hrc : gr < gc) (hsc : gc < gs) (hk : k ≤ 1000) (hlen : s.1.length ≤ 70368744177664) :
    Calls Try.prog 51 #[.pointer (some ⟨gr, 0, none⟩), .slice (some ⟨gs, 0, none⟩) k k] w fun e w' => e = .returned (.tuple #[]) ∧ WR w' gr gp (rIs (m + k) s).2 wb ∧ HT w' gc t (splice C 0 (ivs (rIs (m + k) s).1)) ∧ Kept (fun k => k = gp ∨ k = gc) w w' := by
  have hl := rIs_len m s
  have hpr := hw.2.2
  have it := into_any w gr gp gc gs (rIs m s).2 m k _ _ hw.cell.1 hw.2.1 hc hs (by rw [splice_length (by rw [List.length_map, hl]; omega)]; exact hmk) hpc (by omega) (by omega) (by omega) (by omega) hk (Nat.le_trans (rIs_left _ _) hlen)
  refine it.mono ?_
  rintro e w' ⟨rfl, h1, h2, h3⟩
  have ha := rIs_add m k s
  refine ⟨rfl, ?_, ?_, h3⟩
  · rw [ha]
    exact hw.go h1 h3 (fun e => by omega)
  · rw [ha]
    rw [splice_next m (by rw [List.length_map, hl])] at h2
    simpa [ivs] using h2
theorem table_nx (w : World) (gr gp gc : Nat) (s : RS) (m k : Nat) (C : List Value) (t : TypeId) (wb : Bool) (hw : WR w gr gp (rIs m s).2 wb) (hc : HT w gc t (splice C 0 (ivs (rIs m s).1)))
    (hmk : m + k ≤ C.length) (hpc : gp < gc) (hrc : gr < gc) (hk : k ≤ 1000) (hlen : s.1.length ≤ 70368744177664) :
    Calls Try.prog 52 #[.pointer (some ⟨gr, 0, none⟩), .slice (some ⟨gc, m, none⟩) k k] w fun e w' => e = .returned (.tuple #[]) ∧ WR w' gr gp (rIs (m + k) s).2 wb ∧ HT w' gc t (splice C 0 (ivs (rIs (m + k) s).1)) ∧ Kept (fun k => k = gp ∨ k = gc) w w' := by
  have hl := rIs_len m s
  have hpr := hw.2.2
  have it := table_any w gr gp gc (rIs m s).2 m k _ _ hw.cell.1 hw.2.1 hc (by rw [splice_length (by rw [List.length_map, hl]; omega)]; exact hmk) hpc (by omega) (by omega) hk (Nat.le_trans (rIs_left _ _) hlen)
  refine it.mono ?_
  rintro e w' ⟨rfl, h1, h2, h3⟩
  have ha := rIs_add m k s
  refine ⟨rfl, ?_, ?_, h3⟩
  · rw [ha]
    exact hw.go h1 h3 (fun e => by omega)
  · rw [ha]
    rw [splice_next m (by rw [List.length_map, hl])] at h2
    simpa [ivs] using h2
theorem rdfall_any_sz : (Try.prog.info? 132).map (·.size) = some 8 := by kernel_rfl
set_option maxRecDepth 100000 in
set_option maxHeartbeats 3200000 in
theorem rdfall_any (w : World) (gr gp : Nat) (s : RS) (wb : Bool) (h : WR w gr gp s wb) (hlen : s.1.length ≤ 70368744177664) : Calls Try.prog 66 #[.pointer (some ⟨gr, 0, none⟩)] w fun e w' => e = .returned (.agg (ivs (rIs 8 s).1).toArray) ∧ WR w' gr gp (rIs 8 s).2 wb ∧ Kept (fun k => k = gp) w w' := by
  have hlt := h.lt
  have hpr := h.2.2
  have hb1 : Below w.heap.size w (w.alloc (.cells #[.int .i64 0, .int .i64 0, .int .i64 0, .int .i64 0, .int .i64 0, .int .i64 0, .int .i64 0, .int .i64 0] 132)) := (Below.refl _ _).alloc (Nat.le_refl _) _
  have hc : HT (w.alloc (.cells #[.int .i64 0, .int .i64 0, .int .i64 0, .int .i64 0, .int .i64 0, .int .i64 0, .int .i64 0, .int .i64 0] 132)) w.heap.size 132 (splice (ivs (List.replicate 8 0)) 0 (ivs (rIs 0 s).1)) := by
    have := HT.new (w := w) (t := 132) (C := ivs (List.replicate 8 0))
    simpa [splice, rIs] using this
  have h2 : WR (w.alloc (.cells #[.int .i64 0, .int .i64 0, .int .i64 0, .int .i64 0, .int .i64 0, .int .i64 0, .int .i64 0, .int .i64 0] 132)) gr gp (rIs 0 s).2 wb := h.below hb1
  have hk : Kept (fun k => k = gp ∨ k = w.heap.size) w (w.alloc (.cells #[.int .i64 0, .int .i64 0, .int .i64 0, .int .i64 0, .int .i64 0, .int .i64 0, .int .i64 0, .int .i64 0] 132)) := (Kept.of_below hb1).weaken (fun _ h => h.elim)
  have HH := Lib.hid (⟨hlt, hpr⟩ : _ ∧ _)
  have HLEN := Lib.hid hlen
  have HSZ0 : Hid (w.heap.size < (w.alloc (.cells #[.int .i64 0, .int .i64 0, .int .i64 0, .int .i64 0, .int .i64 0, .int .i64 0, .int .i64 0, .int .i64 0] 132)).heap.size) := by show _ < _; simp
  obtain ⟨g, hg⟩ : ∃ g, g = w.heap.size := ⟨_, rfl⟩
  have HG0 := Lib.hid hg
  clear hlt hpr hb1 h hlen
  have hbx0 : Below (w.alloc (.cells #[.int .i64 0, .int .i64 0, .int .i64 0, .int .i64 0, .int .i64 0, .int .i64 0, .int .i64 0, .int .i64 0] 132)).heap.size (w.alloc (.cells #[.int .i64 0, .int .i64 0, .int .i64 0, .int .i64 0, .int .i64 0, .int .i64 0, .int .i64 0, .int .i64 0] 132)) ((w.alloc (.cells #[.int .i64 0, .int .i64 0, .int .i64 0, .int .i64 0, .int .i64 0, .int .i64 0, .int .i64 0, .int .i64 0] 132)).alloc (.cells #[.pointer (some ⟨w.heap.size, 0, none⟩), .pointer (some ⟨w.heap.size, 1, none⟩)] 120)) := (Below.refl _ _).alloc (Nat.le_refl _) _
  have hs0 : ∀ i, i < 2 → ((w.alloc (.cells #[.int .i64 0, .int .i64 0, .int .i64 0, .int .i64 0, .int .i64 0, .int .i64 0, .int .i64 0, .int .i64 0] 132)).alloc (.cells #[.pointer (some ⟨w.heap.size, 0, none⟩), .pointer (some ⟨w.heap.size, 1, none⟩)] 120)).cell? ⟨(w.alloc (.cells #[.int .i64 0, .int .i64 0, .int .i64 0, .int .i64 0, .int .i64 0, .int .i64 0, .int .i64 0, .int .i64 0] 132)).heap.size, i, none⟩ = some (.pointer (some ⟨w.heap.size, 0 + i, none⟩)) := by
    intro i hi
    have hh : ((w.alloc (.cells #[.int .i64 0, .int .i64 0, .int .i64 0, .int .i64 0, .int .i64 0, .int .i64 0, .int .i64 0, .int .i64 0] 132)).alloc (.cells #[.pointer (some ⟨w.heap.size, 0, none⟩), .pointer (some ⟨w.heap.size, 1, none⟩)] 120)).heap[(w.alloc (.cells #[.int .i64 0, .int .i64 0, .int .i64 0, .int .i64 0, .int .i64 0, .int .i64 0, .int .i64 0, .int .i64 0] 132)).heap.size]? = some (.cells #[.pointer (some ⟨w.heap.size, 0, none⟩), .pointer (some ⟨w.heap.size, 1, none⟩)] 120) := heap_alloc_new _ _
    unfold World.cell?
    rw [hh]
    rcases i with _ | _ | i
    all_goals first | rfl | omega
  have nx0 := into_nx ((w.alloc (.cells #[.int .i64 0, .int .i64 0, .int .i64 0, .int .i64 0, .int .i64 0, .int .i64 0, .int .i64 0, .int .i64 0] 132)).alloc (.cells #[.pointer (some ⟨w.heap.size, 0, none⟩), .pointer (some ⟨w.heap.size, 1, none⟩)] 120)) gr gp w.heap.size (w.alloc (.cells #[.int .i64 0, .int .i64 0, .int .i64 0, .int .i64 0, .int .i64 0, .int .i64 0, .int .i64 0, .int .i64 0] 132)).heap.size s 0 2 (ivs (List.replicate 8 0)) _ wb (h2.below hbx0) (hc.below hbx0) hs0 (by simp [ivs]) (by have := HH.out; omega) (by have := HH.out; omega) (by have := HSZ0.out; omega) (by omega) HLEN.out
  have hka0 := Lib.hid (hk.alloc (.cells #[.pointer (some ⟨w.heap.size, 0, none⟩), .pointer (some ⟨w.heap.size, 1, none⟩)] 120))
  clear hbx0 hs0 h2 hc hk
  rw [show (w.alloc (.cells #[.int .i64 0, .int .i64 0, .int .i64 0, .int .i64 0, .int .i64 0, .int .i64 0, .int .i64 0, .int .i64 0] 132)).heap.size = w.heap.size + 1 by simp] at nx0
  clear hg
  go_enter Try.func66, Try.ntmps66
  go_wp2_with fail
  refine nx0.mono ?_
  clear nx0
  rintro e w2 ⟨rfl, hw2, hc2, hkk2⟩
  have hk2 := hka0.out.trans hkk2 (fun _ _ h => h)
  clear hkk2
  have HSZ1 : Hid (w.heap.size < w2.heap.size) := hc2.lt
  have nx1 := table_nx w2 gr gp w.heap.size s 2 5 (ivs (List.replicate 8 0)) _ wb hw2 hc2 (by simp [ivs]) (by have := HH.out; omega) (by have := HH.out; omega) (by omega) HLEN.out
  have hka1 := Lib.hid hk2
  clear hw2 hc2 hk2
  go_wp2_with fail
  refine nx1.mono ?_
  clear nx1
  rintro e w3 ⟨rfl, hw3, hc3, hkk3⟩
  have hk3 := hka1.out.trans hkk3 (fun _ _ h => h)
  clear hkk3
  have HSZ2 : Hid (w.heap.size < w3.heap.size) := hc3.lt
  have hbx2 : Below w3.heap.size w3 (w3.alloc (.cells #[.pointer (some ⟨w.heap.size, 7, none⟩)] 120)) := (Below.refl _ _).alloc (Nat.le_refl _) _
  have hs2 : ∀ i, i < 1 → (w3.alloc (.cells #[.pointer (some ⟨w.heap.size, 7, none⟩)] 120)).cell? ⟨w3.heap.size, i, none⟩ = some (.pointer (some ⟨w.heap.size, 7 + i, none⟩)) := by
    intro i hi
    have hh : (w3.alloc (.cells #[.pointer (some ⟨w.heap.size, 7, none⟩)] 120)).heap[w3.heap.size]? = some (.cells #[.pointer (some ⟨w.heap.size, 7, none⟩)] 120) := heap_alloc_new _ _
    unfold World.cell?
    rw [hh]
    rcases i with _ | i
    all_goals first | rfl | omega
  have nx2 := into_nx (w3.alloc (.cells #[.pointer (some ⟨w.heap.size, 7, none⟩)] 120)) gr gp w.heap.size w3.heap.size s 7 1 (ivs (List.replicate 8 0)) _ wb (hw3.below hbx2) (hc3.below hbx2) hs2 (by simp [ivs]) (by have := HH.out; omega) (by have := HH.out; omega) (by have := HSZ2.out; omega) (by omega) HLEN.out
  have hka2 := Lib.hid (hk3.alloc (.cells #[.pointer (some ⟨w.heap.size, 7, none⟩)] 120))
  clear hbx2 hs2 hw3 hc3 hk3
  go_wp2_with fail
  refine nx2.mono ?_
  clear nx2
  rintro e w4 ⟨rfl, hw4, hc4, hkk4⟩
  have hk4 := hka2.out.trans hkk4 (fun _ _ h => h)
  clear hkk4
  have HSZ3 : Hid (w.heap.size < w4.heap.size) := hc4.lt
  rw [splice_all (by simp [ivs, rIs_len])] at hc4
  have hl := rIs_len 8 s
  obtain ⟨L, hL⟩ : ∃ L, L = (rIs 8 s).1 := ⟨_, rfl⟩
  simp only [Nat.reduceAdd] at hc4 hw4
  rw [← hL] at hc4 hl
  have HG : Hid (w4.heap[w.heap.size]? = some (.cells (ivs L).toArray 132 (0, 0))) := hc4
  have HSZ : Hid ((Try.prog.info? 132).map (·.size) = some (ivs L).toArray.size) := by show _ = _; rw [rdfall_any_sz]; simp [ivs, hl]
  have HWF := Lib.hid hw4
  have HKF := Lib.hid hk4
  have HL := Lib.hid hL
  clear hc4 hw4 hk4 hl hL
  go_wp2_with (first
    | (refine wpList_load_row rfl 132 (.tmp 2) rfl w.heap.size rfl 132 (ivs L).toArray (0, 0) _ HG.out Try.underlying132 rfl HSZ.out ?_)
    | (refine wpList_store_row rfl 132 (.tmp 2) (.tmp 16) rfl w.heap.size (ivs L).toArray rfl rfl 132 (ivs L).toArray HG.out HSZ.out rfl (ivs_one L) ?_)
    | fail)
  refine bodyPost_ret (results_cell_row rfl _ _ w.heap.size 132 (ivs L).toArray (0, 0) _ rfl (setRow_heap _ _ _ _ _ _ HG.out) Try.underlying132 rfl HSZ.out) rfl ?_
  have hkr : Kept (fun k => k = w.heap.size) w4 (w4.setRow w.heap.size (ivs L).toArray) := ⟨rfl, rfl, rfl, by simp [World.setRow], fun k _ hn => setRow_other _ _ _ _ hn⟩
  refine ⟨by rw [HL.out], HWF.out.go (HWF.out.2.1.kept hkr (fun k hk e => by have := HH.out; omega)) hkr (fun e => by have := HH.out; omega), ?_⟩
  exact ((HKF.out.trans hkr (fun i hi e => .inr e)).drop).weaken (fun _ h => h)

def rdFT (s : RS) : FT × RS := (⟨(rIs 8 s).1.getD 0 0, (rIs 8 s).1.getD 1 0, (rIs 8 s).1.getD 2 0, (rIs 8 s).1.getD 3 0, (rIs 8 s).1.getD 4 0, (rIs 8 s).1.getD 5 0, (rIs 8 s).1.getD 6 0, (rIs 8 s).1.getD 7 0⟩, (rIs 8 s).2)
theorem rdFT_vs (s : RS) : (ivs (rIs 8 s).1) = (rdFT s).1.vs := by
  have h := rIs_len 8 s
  unfold rdFT
  generalize (rIs 8 s).1 = L at h
  match L, h with
  | [a0, a1, a2, a3, a4, a5, a6, a7], _ => rfl
theorem rdFT_left (s : RS) : (rdFT s).2.1.length ≤ s.1.length := rIs_left 8 s
theorem FT.one (c : FT) : ∀ u ∈ c.vs, u.oneCell' = true := by
  intro u hu
  simp only [FT.vs, List.mem_cons, List.not_mem_nil, or_false] at hu
  rcases hu with rfl | rfl | rfl | rfl | rfl | rfl | rfl | rfl <;> rfl
theorem elem_fall : Elem Try.prog 39 132 8 64 := Elem.mk' (z := .agg #[.int .i64 0, .int .i64 0, .int .i64 0, .int .i64 0, .int .i64 0, .int .i64 0, .int .i64 0, .int .i64 0]) Try.underlying39 (by kernel_rfl) rfl (by decide)
def ElFT (w : World) (gr gp : Nat) (s : RS) (wb : Bool) (e : Ending) (w' : World) : Prop := ∃ a n c, e = .returned (.slice a n c) ∧ OwnR FT.vs 8 132 w' w.heap.size (.slice a n c) (elL rdFT wb s).1 ∧ WR w' gr gp (elL rdFT wb s).2 (elW wb (rI s).1) ∧ Kept (fun k => k = gp ∨ k = gr) w w'
set_option maxRecDepth 100000 in
set_option maxHeartbeats 3200000 in
theorem elems_fall (w : World) (gr gp : Nat) (s : RS) (wb : Bool) (h : WR w gr gp s wb) (hlen : s.1.length ≤ 70368744177664) :
    Calls Try.prog 65 #[.pointer (some ⟨gr, 0, none⟩), .func (.func 66) #[.pointer (some ⟨gr, 0, none⟩)] #[]] w (ElFT w gr gp s wb) := by
  have hc0 := h.cell.1
  have ri := RInt_any w gp s h.2.1 hlen
  obtain ⟨n, hn⟩ : ∃ n, n = (rI s).1 := ⟨_, rfl⟩
  obtain ⟨s1, hs1⟩ : ∃ s1, s1 = (rI s).2 := ⟨_, rfl⟩
  rw [← hn, ← hs1] at ri
  have HL : Hid (elL rdFT wb s = if elW wb n = true then ([], s1) else rRs rdFT n.toNat s1) := by show _ = _; unfold elL; rw [← hn, ← hs1]
  have HN := Lib.hid hn
  have HLEN : Hid (s1.1.length ≤ 70368744177664) := by show _ ≤ _; rw [hs1]; exact Nat.le_trans (rIs_left 1 s) hlen
  have H := Lib.hid h
  have hgg : gp < gr := h.2.2
  have HGG := Lib.hid hgg
  have hnr : -9223372036854775808 ≤ n ∧ n ≤ 9223372036854775807 := by rw [hn]; exact rI_range s
  clear hn hs1 h hlen hgg
  go_enter Try.func65, Try.ntmps65
  go_wp2_with fail
  refine ri.mono ?_
  clear ri hc0
  rintro e w1 ⟨rfl, hd1, hk1⟩
  have hw1 := H.out.go hd1 hk1 (fun e => by have := HGG.out; omega)
  have HK1 := Lib.hid hk1
  have HW1 := Lib.hid hw1
  have hcw := hw1.cell.2.1
  have hfw := hw1.cell.2.2
  clear hd1 hk1 hw1
  by_cases hneg : n < 0
  · have hd : decide (n < 0) = true := by simpa using hneg
    have hput : WR (w1.setCell ⟨gr, 1, none⟩ (.bool true)) gr gp s1 true := ⟨HT.put (C := [.pointer (some ⟨gp, 0, none⟩), .bool wb]) HW1.out.1 1 (.bool true), HW1.out.2.1.kept ((Kept.refl (fun k => k = gr) w1).setCell _ _ rfl) (fun k hk (e : k = gr) => by have := HGG.out; omega), HW1.out.2.2⟩
    have hcp := hput.cell.2.1
    have HPUT := Lib.hid hput
    have HK2 : Hid (Kept (fun k => k = gp ∨ k = gr) w (w1.setCell ⟨gr, 1, none⟩ (.bool true))) := (HK1.out.weaken (T := fun k => k = gp ∨ k = gr) (fun _ h => .inl h)).trans ((Kept.refl (fun k => k = gr) w1).setCell _ _ rfl) (fun _ _ h => .inr h)
    have HE : Hid (elW wb n = true) := by show _ = _; unfold elW; simp; omega
    clear hput
    go_wp2_with fail
    generalize hw2 : w1.setCell ⟨gr, 1, none⟩ (.bool true) = w2 at *
    clear hw2
    go_loopw [6, 7] (fun v6 v7 wr => v6 = .slice none 0 0 ∧ v7 = .int .i64 0 ∧ wr = w2) (fun _ _ _ => 0)
    case atStart => exact ⟨rfl, rfl, rfl⟩
    case round =>
      obtain ⟨rfl, rfl, rfl⟩ := hrel
      go_wp2_with fail
      all_goals
        go_ret
        have hE : elL rdFT wb s = ([], s1) := by rw [HL.out, if_pos HE.out]
        exact ⟨none, 0, 0, rfl, by rw [hE]; exact OwnR.empty FT.len _ _ _, by rw [hE, ← HN.out, HE.out]; exact HPUT.out, HK2.out⟩
  · have hneg' : 0 ≤ n := by omega
    obtain ⟨N, rfl⟩ : ∃ N : Nat, n = N := ⟨n.toNat, by omega⟩
    clear hneg hneg' hnr
    by_cases hbig : 1024 < N
    · have hput : WR (w1.setCell ⟨gr, 1, none⟩ (.bool true)) gr gp s1 true := ⟨HT.put (C := [.pointer (some ⟨gp, 0, none⟩), .bool wb]) HW1.out.1 1 (.bool true), HW1.out.2.1.kept ((Kept.refl (fun k => k = gr) w1).setCell _ _ rfl) (fun k hk (e : k = gr) => by have := HGG.out; omega), HW1.out.2.2⟩
      have hcp := hput.cell.2.1
      have HPUT := Lib.hid hput
      have HK2 : Hid (Kept (fun k => k = gp ∨ k = gr) w (w1.setCell ⟨gr, 1, none⟩ (.bool true))) := (HK1.out.weaken (T := fun k => k = gp ∨ k = gr) (fun _ h => .inl h)).trans ((Kept.refl (fun k => k = gr) w1).setCell _ _ rfl) (fun _ _ h => .inr h)
      have HE : Hid (elW wb (N : Int) = true) := by show _ = _; unfold elW; simp; omega
      clear hput
      go_wp2_with fail
      generalize hw2 : w1.setCell ⟨gr, 1, none⟩ (.bool true) = w2 at *
      clear hw2
      go_loopw [6, 7] (fun v6 v7 wr => v6 = .slice none 0 0 ∧ v7 = .int .i64 0 ∧ wr = w2) (fun _ _ _ => 0)
      case atStart => exact ⟨rfl, rfl, rfl⟩
      case round =>
        obtain ⟨rfl, rfl, rfl⟩ := hrel
        go_wp2_with fail
        all_goals
          go_ret
          have hE : elL rdFT wb s = ([], s1) := by rw [HL.out, if_pos HE.out]
          exact ⟨none, 0, 0, rfl, by rw [hE]; exact OwnR.empty FT.len _ _ _, by rw [hE, ← HN.out, HE.out]; exact HPUT.out, HK2.out⟩
    · have HE : Hid (elW wb (N : Int) = wb) := by show _ = _; unfold elW; cases wb <;> simp <;> omega
      have HK2 : Hid (Kept (fun k => k = gp ∨ k = gr) w w1) := HK1.out.weaken (T := fun k => k = gp ∨ k = gr) (fun _ h => .inl h)
      cases wb with
      | true =>
        have HPUT := HW1
        have hcp := hcw
        obtain ⟨w2, hw2⟩ : ∃ w2, w2 = w1 := ⟨_, rfl⟩
        subst hw2
        clear hcw
        go_wp2_with fail
        go_loopw [6, 7] (fun v6 v7 wr => v6 = .slice none 0 0 ∧ v7 = .int .i64 0 ∧ wr = w2) (fun _ _ _ => 0)
        case atStart => exact ⟨rfl, rfl, rfl⟩
        case round =>
          obtain ⟨rfl, rfl, rfl⟩ := hrel
          go_wp2_with fail
          all_goals
            go_ret
            have hE : elL rdFT true s = ([], s1) := by rw [HL.out, if_pos HE.out]
            exact ⟨none, 0, 0, rfl, by rw [hE]; exact OwnR.empty FT.len _ _ _, by rw [hE, ← HN.out, HE.out]; exact HPUT.out, HK2.out⟩
      | false =>
        have HBIG := Lib.hid hbig
        clear hcw hfw
        go_wp2_with fail
        go_loopw [6, 7] (fun v6 v7 wr => ∃ (k : Nat) (a : Option Addr) (n6 c6 : Nat), k ≤ N ∧ v7 = .int .i64 k ∧ v6 = .slice a n6 c6 ∧ OwnR FT.vs 8 132 wr w.heap.size (.slice a n6 c6) (rRs rdFT k s1).1 ∧ WR wr gr gp (rRs rdFT k s1).2 false ∧ Kept (fun k => k = gp ∨ k = gr) w wr) (fun _ i _ => N - (intOf i).toNat)
        case atStart => exact ⟨0, none, 0, 0, Nat.zero_le _, rfl, rfl, OwnR.empty FT.len _ _ _, HW1.out, HK2.out⟩
        case round =>
          obtain ⟨k, a, n6, c6, hk, rfl, rfl, ho, hw, hkp⟩ := hrel
          have hcw := hw.cell.2.1
          by_cases hlt : k < N
          · have rd := rdfall_any wr gr gp (rRs rdFT k s1).2 false hw (Nat.le_trans (rRs_left rdFT_left k s1) HLEN.out)
            rw [rdFT_vs] at rd
            obtain ⟨c, hc⟩ : ∃ c, c = (rdFT (rRs rdFT k s1).2).1 := ⟨_, rfl⟩
            rw [← hc, show (rIs 8 (rRs rdFT k s1).2).2 = (rRs rdFT (k + 1) s1).2 from rfl] at rd
            simp only [FT.vs] at rd
            have HN1 : Hid ((rRs rdFT (k + 1) s1).1 = (rRs rdFT k s1).1 ++ [c]) := by rw [hc]; rfl
            have HO := Lib.hid ho
            have HKP := Lib.hid hkp
            have hlr := rRs_len rdFT k s1
            have hle : ((rRs rdFT k s1).1.length + [c].length) * 64 ≤ 140737488355328 := by have := HBIG.out; rw [hlr]; simp; omega
            clear hc ho hw hkp hlr
            go_wp2_with fail
            refine rd.mono ?_
            clear rd hcw
            rintro e w3 ⟨rfl, hw3, hk3⟩
            have hbx : Below w3.heap.size w3 (w3.alloc (.cells #[.int .i64 c.cur, .int .i64 c.loss, .int .i64 c.p0, .int .i64 c.p1, .int .i64 c.p2, .int .i64 c.p3, .int .i64 c.p4, .int .i64 c.rest] 132)) := (Below.refl _ _).alloc (Nat.le_refl _) _
            have hoA : OwnR FT.vs 8 132 (w3.alloc (.cells #[.int .i64 c.cur, .int .i64 c.loss, .int .i64 c.p0, .int .i64 c.p1, .int .i64 c.p2, .int .i64 c.p3, .int .i64 c.p4, .int .i64 c.rest] 132)) w.heap.size (.slice a n6 c6) (rRs rdFT k s1).1 := (OwnR.keptS HO.out hk3 (fun j hj (e : j = gp) => by have := OwnR.ge HO.out j hj; have := H.out.lt; have := HGG.out; omega)).alloc _
            have hone : Rs FT.vs 8 (w3.alloc (.cells #[.int .i64 c.cur, .int .i64 c.loss, .int .i64 c.p0, .int .i64 c.p1, .int .i64 c.p2, .int .i64 c.p3, .int .i64 c.p4, .int .i64 c.rest] 132)) (.slice (some ⟨w3.heap.size, 0, none⟩) 1 1) [c] := Rs.one FT.len w3 c 132
            have HWA := Lib.hid (hw3.below hbx)
            have HKA : Hid (Kept (fun k => k = gp ∨ k = gr) w (w3.alloc (.cells #[.int .i64 c.cur, .int .i64 c.loss, .int .i64 c.p0, .int .i64 c.p1, .int .i64 c.p2, .int .i64 c.p3, .int .i64 c.p4, .int .i64 c.rest] 132))) := (HKP.out.trans hk3 (fun _ _ h => .inl h)).alloc _
            have hbase : w.heap.size ≤ (w3.alloc (.cells #[.int .i64 c.cur, .int .i64 c.loss, .int .i64 c.p0, .int .i64 c.p1, .int .i64 c.p2, .int .i64 c.p3, .int .i64 c.p4, .int .i64 c.rest] 132)).heap.size := HKA.out.size
            clear hbx hw3 hk3
            go_wp2_with (first
              | (at_builtin; refine wpList_append_rows (v := .slice a n6 c6) rfl (.tmp 34) (.tmp 37) 39 rfl (L := (rRs rdFT k s1).1) (M := [c]) (base := w.heap.size) elem_fall rfl rfl hoA hone FT.one hle (by decide) hbase ?_; intro a7 n7 c7 w7 Hn7 ho7 hg7 hat7 hb7)
              | fail)
            have hge : ∀ j, (Value.slice a n6 c6).ownBlock = some j → w.heap.size ≤ j := OwnR.ge HO.out
            have hkg := Kept.of_grown hg7
            refine ⟨⟨k + 1, a7, n7, c7, by omega, by push_cast; rfl, rfl, by rw [HN1.out]; exact ho7, HWA.out.go (HWA.out.2.1.kept hkg (fun j hj e => by have := hge j e; have := H.out.lt; have := HGG.out; omega)) hkg (fun e => by have := hge gr e; have := H.out.lt; omega), HKA.out.trans hkg (fun j hj e => by have := hge j e; omega)⟩, by simp [intOf]; omega⟩
          · obtain rfl : k = N := by omega
            have HO := Lib.hid ho
            have HW := Lib.hid hw
            have HKP := Lib.hid hkp
            clear ho hw hkp
            go_wp2_with fail
            go_ret
            have hE : elL rdFT false s = rRs rdFT k s1 := by rw [HL.out, HE.out]; simp
            exact ⟨_, _, _, rfl, by rw [hE]; exact HO.out, by rw [hE, ← HN.out, HE.out]; exact HW.out, HKP.out⟩
end Cam
