import Derived.Test.YtgeclnjkkjmbaaaWsD
import Derived.Test.YtgeclnjkkjmbaaaWrJ
/- wire.reader: due. -/
namespace Cam
open Go Go.RowKit Go.Proofs

set_option maxRecDepth 100000 in
set_option maxHeartbeats 3200000 in
theorem rddue_any (w : World) (gr gp : Nat) (s : RS) (wb : Bool) (h : WR w gr gp s wb) (hlen : s.1.length ≤ 70368744177664) : Calls Try.prog 64 #[.pointer (some ⟨gr, 0, none⟩)] w fun e w' => e = .returned (.agg (ivs (rIs 3 s).1).toArray) ∧ WR w' gr gp (rIs 3 s).2 wb ∧ Kept (fun k => k = gp) w w' := by
  have hlt := h.lt
  have hpr := h.2.2
  have hb1 : Below w.heap.size w (w.alloc (.cells #[.int .i64 0, .int .i64 0, .int .i64 0] 127)) := (Below.refl _ _).alloc (Nat.le_refl _) _
  have hc : HT (w.alloc (.cells #[.int .i64 0, .int .i64 0, .int .i64 0] 127)) w.heap.size 127 (ivs (List.replicate 3 0)) := HT.new (w := w)
  have hb2 : Below w.heap.size w ((w.alloc (.cells #[.int .i64 0, .int .i64 0, .int .i64 0] 127)).alloc (.cells #[.pointer (some ⟨w.heap.size, 0, none⟩), .pointer (some ⟨w.heap.size, 1, none⟩), .pointer (some ⟨w.heap.size, 2, none⟩)] 120)) := hb1.alloc hb1.size _
  have hc2 := hc.below ((Below.refl _ _).alloc (Nat.le_refl _) (.cells #[.pointer (some ⟨w.heap.size, 0, none⟩), .pointer (some ⟨w.heap.size, 1, none⟩), .pointer (some ⟨w.heap.size, 2, none⟩)] 120))
  have hs : ∀ i, i < 3 → ((w.alloc (.cells #[.int .i64 0, .int .i64 0, .int .i64 0] 127)).alloc (.cells #[.pointer (some ⟨w.heap.size, 0, none⟩), .pointer (some ⟨w.heap.size, 1, none⟩), .pointer (some ⟨w.heap.size, 2, none⟩)] 120)).cell? ⟨w.heap.size + 1, i, none⟩ = some (.pointer (some ⟨w.heap.size, 0 + i, none⟩)) := by
    intro i hi
    have hh : ((w.alloc (.cells #[.int .i64 0, .int .i64 0, .int .i64 0] 127)).alloc (.cells #[.pointer (some ⟨w.heap.size, 0, none⟩), .pointer (some ⟨w.heap.size, 1, none⟩), .pointer (some ⟨w.heap.size, 2, none⟩)] 120)).heap[w.heap.size + 1]? = some (.cells #[.pointer (some ⟨w.heap.size, 0, none⟩), .pointer (some ⟨w.heap.size, 1, none⟩), .pointer (some ⟨w.heap.size, 2, none⟩)] 120) := heap_new (by simp)
    unfold World.cell?
    rw [hh]
    rcases i with _ | _ | _ | i
    all_goals first | rfl | omega
  have h2 := h.below hb2
  have it := into_any _ gr gp w.heap.size (w.heap.size + 1) s 0 3 _ _ h2.cell.1 h2.2.1 hc2 hs (by simp [ivs]) (by omega) (by omega) (by omega) (by omega) (by omega) (by omega) hlen
  have H := Lib.hid h2
  have HB2 := Lib.hid hb2
  have HH := Lib.hid (⟨hlt, hpr⟩ : _ ∧ _)
  clear hlt hpr hb1 hc hb2 hc2 hs h h2 hlen
  go_enter Try.func64, Try.ntmps64
  go_wp2_with fail
  refine it.mono ?_
  clear it
  rintro e w3 ⟨rfl, hd3, hc3, hk3⟩
  have hw3 := H.out.go hd3 hk3 (fun e => by have := HH.out; omega)
  rw [splice_all (by simp [ivs, rIs_len])] at hc3
  have hl := rIs_len 3 s
  obtain ⟨L, hL⟩ : ∃ L, L = (rIs 3 s).1 := ⟨_, rfl⟩
  rw [← hL] at hc3 hl
  have HG : Hid (w3.heap[w.heap.size]? = some (.cells (ivs L).toArray 127 (0, 0))) := hc3
  have HSZ : Hid ((Try.prog.info? 127).map (·.size) = some (ivs L).toArray.size) := by show _ = _; rw [show ((Try.prog.info? 127).map (·.size)) = some 3 from by kernel_rfl]; simp [ivs, hl]
  have HW3 := Lib.hid hw3
  have HK3 := Lib.hid hk3
  have HL := Lib.hid hL
  clear hd3 hc3 hk3 hw3 hl hL
  go_wp2_with (first
    | (refine wpList_load_row rfl 127 (.tmp 2) rfl w.heap.size rfl 127 (ivs L).toArray (0, 0) _ HG.out Try.underlying127 rfl HSZ.out ?_)
    | (refine wpList_store_row rfl 127 (.tmp 2) (.tmp 9) rfl w.heap.size (ivs L).toArray rfl rfl 127 (ivs L).toArray HG.out HSZ.out rfl (ivs_one L) ?_)
    | fail)
  refine bodyPost_ret (results_cell_row rfl _ _ w.heap.size 127 (ivs L).toArray (0, 0) _ rfl (setRow_heap _ _ _ _ _ _ HG.out) Try.underlying127 rfl HSZ.out) rfl ?_
  have hkr : Kept (fun k => k = w.heap.size) w3 (w3.setRow w.heap.size (ivs L).toArray) := ⟨rfl, rfl, rfl, by simp [World.setRow], fun k _ hn => setRow_other _ _ _ _ hn⟩
  refine ⟨by rw [HL.out], HW3.out.go (HW3.out.2.1.kept hkr (fun k hk e => by have := HH.out; omega)) hkr (fun e => by have := HH.out; omega), ?_⟩
  have k1 := ((Kept.of_below HB2.out).weaken (T := fun k => k = gp) (fun _ h => h.elim)).trans HK3.out (fun i hi e => by rcases e with e | e; exact e; omega)
  exact k1.trans hkr (fun i hi e => by omega)
end Cam
