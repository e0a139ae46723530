import Derived.Test.YtgeclnjkkjmbaaaWrH
import Derived.Deep.DeepCutAuto
import Derived.Test.YtgeclnjkkjmbaaaWrVI
/- cambistref24: R.shifts, ReadCmd. -/
namespace Cam
open Go Go.RowKit Go.Proofs

theorem QPost.below {tq : TypeId} {W w w' : World} {g : Nat} {B : List UInt8} {v : Value} {s : RS} (h : QPost tq W g B v s w) (hb : Below w.heap.size w w') : QPost tq W g B v s w' := by
  obtain ⟨m, h1, h2, h3⟩ := h
  exact ⟨m, h1.below hb, h2, h3.trans (Kept.of_below hb) (fun _ _ h => h.elim)⟩
theorem QPost.kept {tq : TypeId} {W w w' : World} {g ga : Nat} {B : List UInt8} {v : Value} {s : RS} (h : QPost tq W g B v s w) (hk : Kept (fun k => k = ga) w w') (hg : g < ga) (hW : W.heap.size ≤ ga) : QPost tq W g B v s w' := by
  obtain ⟨m, h1, h2, h3⟩ := h
  exact ⟨m, h1.kept hk (fun k hk e => by omega), h2, h3.trans hk (fun i hi e => by omega)⟩
theorem QPost.lt {tq : TypeId} {W w : World} {g : Nat} {B : List UInt8} {v : Value} {s : RS} (h : QPost tq W g B v s w) : g < w.heap.size := by
  obtain ⟨m, h1, _, _⟩ := h
  exact h1.lt
theorem QPost.size {tq : TypeId} {W w : World} {g : Nat} {B : List UInt8} {v : Value} {s : RS} (h : QPost tq W g B v s w) : W.heap.size ≤ w.heap.size := by
  obtain ⟨m, _, _, h3⟩ := h
  exact h3.size
theorem QInt_at {tq : TypeId} {W w : World} {g : Nat} {B : List UInt8} {v : Value} {s : RS} (h : QPost tq W g B v s w) (hlen : B.length ≤ 70368744177664) :
    Calls Try.prog 34 #[.pointer (some ⟨g, 0, none⟩)] w fun r w' => r = .returned (.int .i64 (rI s).1) ∧ QPost tq W g B v (rI s).2 w' ∧ Kept (fun k => k = g) w w' := by
  obtain ⟨m, h1, h2, h3⟩ := h
  refine (QInt_any w g B v m s.2 h1 hlen).mono ?_
  rw [h2]
  rintro r w' ⟨h4, m2, h5, h6, h7⟩
  exact ⟨h4, ⟨m2, h5, h6, h3.trans h7 (fun _ _ h => h)⟩, h7⟩
theorem QP.cls {tq : TypeId} {W : World} {g : Nat} {B : List UInt8} {v : Value} {s : RS} : Cls (fun _ => True) (QPost tq W g B v s) := ⟨fun _ _ => trivial, fun _ _ h hb => h.below hb⟩
theorem QP.cls2 {tq : TypeId} {W : World} {g ga : Nat} {B : List UInt8} {v : Value} {s : RS} {t : TypeId} {C : List Value} : Cls (fun _ => True) (fun w => QPost tq W g B v s w ∧ HT w ga t C) := ⟨fun _ _ => trivial, fun _ _ h hb => ⟨h.1.below hb, h.2.below hb⟩⟩
theorem splice_all {C cs : List Value} (h : cs.length = C.length) : splice C 0 cs = cs := by
  unfold splice
  rw [List.take_zero, List.nil_append, Nat.zero_add, List.drop_of_length_le (by omega), List.append_nil]
theorem sixSize : (Try.prog.info? 22).map (·.size) = some 6 := by kernel_rfl
/-- six numbers -/
def ShPost (w : World) (g : Nat) (B : List UInt8) (v : Value) (s : RS) (e : Ending) (w' : World) : Prop := e = .returned (.agg (ivs (rIs 6 s).1).toArray) ∧ QPost 98 w g B v (rIs 6 s).2 w'
set_option maxRecDepth 100000 in
set_option maxHeartbeats 1600000 in
theorem rshifts_any (w : World) (g : Nat) (B : List UInt8) (v : Value) (s : RS) (h : QPost 98 w g B v s w) (hlen : B.length ≤ 70368744177664) :
    Calls Try.prog 35 #[.pointer (some ⟨g, 0, none⟩)] w (ShPost w g B v s) := by
  have hb1 : Below w.heap.size w (w.alloc (.cells #[.int .i64 0, .int .i64 0, .int .i64 0, .int .i64 0, .int .i64 0, .int .i64 0] 22)) := (Below.refl _ _).alloc (Nat.le_refl _) _
  have hb2 : Below w.heap.size w ((w.alloc (.cells #[.int .i64 0, .int .i64 0, .int .i64 0, .int .i64 0, .int .i64 0, .int .i64 0] 22)).alloc (.cells #[.int .i64 0, .int .i64 0, .int .i64 0, .int .i64 0, .int .i64 0, .int .i64 0] 22)) := hb1.alloc hb1.size _
  have hc1 : HT ((w.alloc (.cells #[.int .i64 0, .int .i64 0, .int .i64 0, .int .i64 0, .int .i64 0, .int .i64 0] 22)).alloc (.cells #[.int .i64 0, .int .i64 0, .int .i64 0, .int .i64 0, .int .i64 0, .int .i64 0] 22)) w.heap.size 22 [.int .i64 0, .int .i64 0, .int .i64 0, .int .i64 0, .int .i64 0, .int .i64 0] := (HT.new (w := w) (t := 22) (C := [.int .i64 0, .int .i64 0, .int .i64 0, .int .i64 0, .int .i64 0, .int .i64 0])).below ((Below.refl _ _).alloc (Nat.le_refl _) _)
  have hc2 : HT ((w.alloc (.cells #[.int .i64 0, .int .i64 0, .int .i64 0, .int .i64 0, .int .i64 0, .int .i64 0] 22)).alloc (.cells #[.int .i64 0, .int .i64 0, .int .i64 0, .int .i64 0, .int .i64 0, .int .i64 0] 22)) (w.heap.size + 1) 22 [.int .i64 0, .int .i64 0, .int .i64 0, .int .i64 0, .int .i64 0, .int .i64 0] := by
    have := HT.new (w := w.alloc (.cells #[.int .i64 0, .int .i64 0, .int .i64 0, .int .i64 0, .int .i64 0, .int .i64 0] 22)) (t := 22) (C := [.int .i64 0, .int .i64 0, .int .i64 0, .int .i64 0, .int .i64 0, .int .i64 0])
    rw [show (w.alloc (.cells #[.int .i64 0, .int .i64 0, .int .i64 0, .int .i64 0, .int .i64 0, .int .i64 0] 22)).heap.size = w.heap.size + 1 by simp] at this
    exact this
  have HQ := Lib.hid (h.below hb2)
  have HC1 := Lib.hid hc1
  have HC2 := Lib.hid hc2
  have HLT := Lib.hid h.lt
  have HLEN := Lib.hid hlen
  clear hb1 hb2 hc1 hc2 h hlen
  go_enter Try.func35, Try.ntmps35
  go_wp2_with fail
  generalize hW : (w.alloc (.cells #[.int .i64 0, .int .i64 0, .int .i64 0, .int .i64 0, .int .i64 0, .int .i64 0] 22)).alloc (.cells #[.int .i64 0, .int .i64 0, .int .i64 0, .int .i64 0, .int .i64 0, .int .i64 0] 22) = W at *
  clear hW
  go_loopw [4] (fun v4 wr => ∃ k : Nat, k ≤ 6 ∧ v4 = .int .i64 k ∧ QPost 98 w g B v (rIs k s).2 wr ∧ HT wr w.heap.size 22 [.int .i64 0, .int .i64 0, .int .i64 0, .int .i64 0, .int .i64 0, .int .i64 0] ∧ HT wr (w.heap.size + 1) 22 (splice [.int .i64 0, .int .i64 0, .int .i64 0, .int .i64 0, .int .i64 0, .int .i64 0] 0 (ivs (rIs k s).1))) (fun i _ => 6 - (intOf i).toNat)
  case atStart => exact ⟨0, by omega, rfl, HQ.out, HC1.out, by simpa [rIs, splice] using HC2.out⟩
  case round =>
    obtain ⟨k, hk, rfl, hq, hc1, hc2⟩ := hrel
    have HQ1 := Lib.hid hq
    have HT1 := Lib.hid hc1
    have HT2 := Lib.hid hc2
    by_cases hlt : k < 6
    · have ri := QInt_at hq HLEN.out
      obtain ⟨n, hn⟩ : ∃ n, n = (rI (rIs k s).2).1 := ⟨_, rfl⟩
      rw [← hn] at ri
      have HN := Lib.hid hn
      clear hn hq hc1 hc2
      go_wp2_with fail
      refine ri.mono ?_
      clear ri
      rintro e w1 ⟨rfl, hq1, hk1⟩
      have hc2 := HT2.out.keptH hk1 (fun e => by have := HLT.out; omega)
      have hc1 := HT1.out.keptH hk1 (fun e => by have := HLT.out; omega)
      have hl6 : (splice [.int .i64 0, .int .i64 0, .int .i64 0, .int .i64 0, .int .i64 0, .int .i64 0] 0 (ivs (rIs k s).1)).length = 6 := by rw [splice_length (by rw [List.length_map, rIs_len]; simp; omega)]; rfl
      have hcell := hc2.cell (j := k) (List.getElem?_eq_getElem (by omega))
      have hfr := hc2.frozen k
      have hput := hc2.put k (.int .i64 n)
      have hk2 : Kept (fun k => k = w.heap.size + 1) w1 (w1.setCell ⟨w.heap.size + 1, k, none⟩ (.int .i64 n)) := (Kept.refl _ w1).setCell _ _ rfl
      have hq2 := hq1.kept hk2 (by have := HLT.out; omega) (by omega)
      have hc3 := hc1.keptH hk2 (fun e => by omega)
      have he : (splice [.int .i64 0, .int .i64 0, .int .i64 0, .int .i64 0, .int .i64 0, .int .i64 0] 0 (ivs (rIs k s).1)).set k (.int .i64 n) = splice [.int .i64 0, .int .i64 0, .int .i64 0, .int .i64 0, .int .i64 0, .int .i64 0] 0 (ivs (rIs (k + 1) s).1) := by
        have h1 := splice_snoc (C := [.int .i64 0, .int .i64 0, .int .i64 0, .int .i64 0, .int .i64 0, .int .i64 0]) (o := 0) (xs := ivs (rIs k s).1) (.int .i64 n) (by rw [List.length_map, rIs_len]; simp; omega)
        rw [List.length_map, rIs_len, Nat.zero_add] at h1
        rw [h1, HN.out]
        simp [rIs, ivs]
      rw [he] at hput
      have HPUT := Lib.hid hput
      have HQ2 := Lib.hid hq2
      have HC3 := Lib.hid hc3
      generalize (splice [.int .i64 0, .int .i64 0, .int .i64 0, .int .i64 0, .int .i64 0, .int .i64 0] 0 (ivs (rIs k s).1))[k]'(by omega) = q at hcell
      clear hput hq2 hc3 hk2 he hq1 hk1 hc1 hc2 hl6
      go_wp2_with fail
      exact ⟨⟨k + 1, by omega, by push_cast; rfl, HQ2.out, HC3.out, HPUT.out⟩, by simp [intOf]; omega⟩
    · obtain rfl : k = 6 := by omega
      have hl6 := rIs_len 6 s
      rw [splice_all (by rw [List.length_map, hl6]; rfl)] at hc2
      obtain ⟨L, hL⟩ : ∃ L, L = (rIs 6 s).1 := ⟨_, rfl⟩
      rw [← hL] at hc2 hl6
      have HG2 : Hid (wr.heap[w.heap.size + 1]? = some (.cells (ivs L).toArray 22 (0, 0))) := hc2
      have HG1 : Hid (wr.heap[w.heap.size]? = some (.cells #[.int .i64 0, .int .i64 0, .int .i64 0, .int .i64 0, .int .i64 0, .int .i64 0] 22 (0, 0))) := hc1
      have HSZ : Hid ((Try.prog.info? 22).map (·.size) = some (ivs L).toArray.size) := by show _ = _; rw [sixSize]; simp [ivs, hl6]
      have HS6 : Hid ((#[.int .i64 0, .int .i64 0, .int .i64 0, .int .i64 0, .int .i64 0, .int .i64 0] : Array Value).size = (ivs L).toArray.size) := by show _ = _; simp [ivs, hl6]
      have HL := Lib.hid hL
      clear hq hc1 hc2 hL hl6
      go_wp2_with (first
        | (refine wpList_load_row rfl 22 (.tmp 3) rfl (w.heap.size + 1) rfl 22 (ivs L).toArray (0, 0) _ HG2.out Try.underlying22 rfl HSZ.out ?_)
        | (refine wpList_store_row rfl 22 (.tmp 2) (.tmp 15) rfl w.heap.size (ivs L).toArray rfl rfl 22 #[.int .i64 0, .int .i64 0, .int .i64 0, .int .i64 0, .int .i64 0, .int .i64 0] HG1.out HSZ.out HS6.out (ivs_one L) ?_)
        | fail)
      refine bodyPost_ret (results_cell_row rfl _ _ w.heap.size 22 (ivs L).toArray (0, 0) _ rfl (setRow_heap _ _ _ _ _ _ HG1.out) Try.underlying22 rfl HSZ.out) rfl ?_
      have hkr : Kept (fun k => k = w.heap.size) wr (wr.setRow w.heap.size (ivs L).toArray) := ⟨rfl, rfl, rfl, by simp [World.setRow], fun k _ hn => setRow_other _ _ _ _ hn⟩
      exact ⟨by rw [HL.out], HQ1.out.kept hkr HLT.out (Nat.le_refl _)⟩

set_option maxRecDepth 100000 in
set_option maxHeartbeats 6400000 in
theorem rReadCmd_any (w : World) (v : Value) (l : List UInt8) (h : Bs w v l) (hlen : l.length ≤ 70368744177664) :
    Calls Try.prog 13 #[v] w fun e w' => e = .returned (.tuple #[.agg (ivs (readC l).1).toArray, .bool (decide ((readC l).2 = 0))]) ∧ Below w.heap.size w w' := by
  have hb1 : Below w.heap.size w (w.alloc (.cells #[.int .i64 0, .int .i64 0, .int .i64 0, .int .i64 0, .int .i64 0, .int .i64 0, .int .i64 0, .int .i64 0, .int .i64 0, .int .i64 0, .int .i64 0, .int .i64 0, .int .i64 0, .int .i64 0, .int .i64 0, .int .i64 0, .int .i64 0] 24)) := (Below.refl _ _).alloc (Nat.le_refl _) _
  have hb2 : Below w.heap.size w ((w.alloc (.cells #[.int .i64 0, .int .i64 0, .int .i64 0, .int .i64 0, .int .i64 0, .int .i64 0, .int .i64 0, .int .i64 0, .int .i64 0, .int .i64 0, .int .i64 0, .int .i64 0, .int .i64 0, .int .i64 0, .int .i64 0, .int .i64 0, .int .i64 0] 24)).alloc (.cells #[v, .int .i64 0, .int .i64 0] 98)) := hb1.alloc hb1.size _
  have hc1 : HT ((w.alloc (.cells #[.int .i64 0, .int .i64 0, .int .i64 0, .int .i64 0, .int .i64 0, .int .i64 0, .int .i64 0, .int .i64 0, .int .i64 0, .int .i64 0, .int .i64 0, .int .i64 0, .int .i64 0, .int .i64 0, .int .i64 0, .int .i64 0, .int .i64 0] 24)).alloc (.cells #[v, .int .i64 0, .int .i64 0] 98)) w.heap.size 24 [.int .i64 0, .int .i64 0, .int .i64 0, .int .i64 0, .int .i64 0, .int .i64 0, .int .i64 0, .int .i64 0, .int .i64 0, .int .i64 0, .int .i64 0, .int .i64 0, .int .i64 0, .int .i64 0, .int .i64 0, .int .i64 0, .int .i64 0] := (HT.new (w := w) (t := 24) (C := [.int .i64 0, .int .i64 0, .int .i64 0, .int .i64 0, .int .i64 0, .int .i64 0, .int .i64 0, .int .i64 0, .int .i64 0, .int .i64 0, .int .i64 0, .int .i64 0, .int .i64 0, .int .i64 0, .int .i64 0, .int .i64 0, .int .i64 0])).below ((Below.refl _ _).alloc (Nat.le_refl _) _)
  have hq : QPost 98 ((w.alloc (.cells #[.int .i64 0, .int .i64 0, .int .i64 0, .int .i64 0, .int .i64 0, .int .i64 0, .int .i64 0, .int .i64 0, .int .i64 0, .int .i64 0, .int .i64 0, .int .i64 0, .int .i64 0, .int .i64 0, .int .i64 0, .int .i64 0, .int .i64 0] 24)).alloc (.cells #[v, .int .i64 0, .int .i64 0] 98)) (w.heap.size + 1) l v (l, 0) ((w.alloc (.cells #[.int .i64 0, .int .i64 0, .int .i64 0, .int .i64 0, .int .i64 0, .int .i64 0, .int .i64 0, .int .i64 0, .int .i64 0, .int .i64 0, .int .i64 0, .int .i64 0, .int .i64 0, .int .i64 0, .int .i64 0, .int .i64 0, .int .i64 0] 24)).alloc (.cells #[v, .int .i64 0, .int .i64 0] 98)) :=
    ⟨0, ⟨heap_new (by simp), h.mono hb2, fun hn k hi => by have := h.inlt hn hi; omega, Nat.zero_le _⟩, by simp, Kept.refl _ _⟩
  have HB2 := Lib.hid hb2
  have HC1 := Lib.hid hc1
  have HQ0 := Lib.hid hq
  have HLEN := Lib.hid hlen
  obtain ⟨av, cv, rfl, hcv, hmv⟩ := h.shape
  obtain ⟨n, hn⟩ : ∃ n, n = l.length := ⟨_, rfl⟩
  rw [← hn] at HB2 HC1 HQ0 hcv ⊢
  have HN := Lib.hid hn
  clear hb1 hb2 hc1 hq h hlen hn
  go_enter Try.func13, Try.ntmps13
  go_wp2_with fail
  generalize hW : (w.alloc (.cells #[.int .i64 0, .int .i64 0, .int .i64 0, .int .i64 0, .int .i64 0, .int .i64 0, .int .i64 0, .int .i64 0, .int .i64 0, .int .i64 0, .int .i64 0, .int .i64 0, .int .i64 0, .int .i64 0, .int .i64 0, .int .i64 0, .int .i64 0] 24)).alloc (.cells #[.slice av n cv, .int .i64 0, .int .i64 0] 98) = W at *
  have HGW0 : Hid (w.heap.size + 1 < W.heap.size) := by show _ < _; rw [← hW]; simp
  clear hW
  obtain ⟨s0, hs0⟩ : ∃ s : RS, s = (l, 0) := ⟨_, rfl⟩
  rw [← hs0] at HQ0
  obtain ⟨y0, hy0⟩ : ∃ y, y = (rI s0).1 := ⟨_, rfl⟩
  obtain ⟨s1, hs1⟩ : ∃ s, s = (rI s0).2 := ⟨_, rfl⟩
  have q0 : ∀ w1, QPost 98 W (w.heap.size + 1) l (.slice av n cv) s0 w1 → Calls Try.prog 34 #[.pointer (some ⟨w.heap.size + 1, 0, none⟩)] w1 fun r w2 => r = .returned (.int .i64 y0) ∧ QPost 98 W (w.heap.size + 1) l (.slice av n cv) s1 w2 ∧ Kept (fun k => k = w.heap.size + 1) w1 w2 := fun w1 h => by rw [hy0, hs1]; exact QInt_at h HLEN.out
  obtain ⟨y1, hy1⟩ : ∃ y, y = (rI s1).1 := ⟨_, rfl⟩
  obtain ⟨s2, hs2⟩ : ∃ s, s = (rI s1).2 := ⟨_, rfl⟩
  have q1 : ∀ w1, QPost 98 W (w.heap.size + 1) l (.slice av n cv) s1 w1 → Calls Try.prog 34 #[.pointer (some ⟨w.heap.size + 1, 0, none⟩)] w1 fun r w2 => r = .returned (.int .i64 y1) ∧ QPost 98 W (w.heap.size + 1) l (.slice av n cv) s2 w2 ∧ Kept (fun k => k = w.heap.size + 1) w1 w2 := fun w1 h => by rw [hy1, hs2]; exact QInt_at h HLEN.out
  obtain ⟨y2, hy2⟩ : ∃ y, y = (rI s2).1 := ⟨_, rfl⟩
  obtain ⟨s3, hs3⟩ : ∃ s, s = (rI s2).2 := ⟨_, rfl⟩
  have q2 : ∀ w1, QPost 98 W (w.heap.size + 1) l (.slice av n cv) s2 w1 → Calls Try.prog 34 #[.pointer (some ⟨w.heap.size + 1, 0, none⟩)] w1 fun r w2 => r = .returned (.int .i64 y2) ∧ QPost 98 W (w.heap.size + 1) l (.slice av n cv) s3 w2 ∧ Kept (fun k => k = w.heap.size + 1) w1 w2 := fun w1 h => by rw [hy2, hs3]; exact QInt_at h HLEN.out
  obtain ⟨y3, hy3⟩ : ∃ y, y = (rI s3).1 := ⟨_, rfl⟩
  obtain ⟨s4, hs4⟩ : ∃ s, s = (rI s3).2 := ⟨_, rfl⟩
  have q3 : ∀ w1, QPost 98 W (w.heap.size + 1) l (.slice av n cv) s3 w1 → Calls Try.prog 34 #[.pointer (some ⟨w.heap.size + 1, 0, none⟩)] w1 fun r w2 => r = .returned (.int .i64 y3) ∧ QPost 98 W (w.heap.size + 1) l (.slice av n cv) s4 w2 ∧ Kept (fun k => k = w.heap.size + 1) w1 w2 := fun w1 h => by rw [hy3, hs4]; exact QInt_at h HLEN.out
  obtain ⟨y4, hy4⟩ : ∃ y, y = (rI s4).1 := ⟨_, rfl⟩
  obtain ⟨s5, hs5⟩ : ∃ s, s = (rI s4).2 := ⟨_, rfl⟩
  have q4 : ∀ w1, QPost 98 W (w.heap.size + 1) l (.slice av n cv) s4 w1 → Calls Try.prog 34 #[.pointer (some ⟨w.heap.size + 1, 0, none⟩)] w1 fun r w2 => r = .returned (.int .i64 y4) ∧ QPost 98 W (w.heap.size + 1) l (.slice av n cv) s5 w2 ∧ Kept (fun k => k = w.heap.size + 1) w1 w2 := fun w1 h => by rw [hy4, hs5]; exact QInt_at h HLEN.out
  obtain ⟨y5, hy5⟩ : ∃ y, y = (rI s5).1 := ⟨_, rfl⟩
  obtain ⟨s6, hs6⟩ : ∃ s, s = (rI s5).2 := ⟨_, rfl⟩
  have q5 : ∀ w1, QPost 98 W (w.heap.size + 1) l (.slice av n cv) s5 w1 → Calls Try.prog 34 #[.pointer (some ⟨w.heap.size + 1, 0, none⟩)] w1 fun r w2 => r = .returned (.int .i64 y5) ∧ QPost 98 W (w.heap.size + 1) l (.slice av n cv) s6 w2 ∧ Kept (fun k => k = w.heap.size + 1) w1 w2 := fun w1 h => by rw [hy5, hs6]; exact QInt_at h HLEN.out
  obtain ⟨y6, hy6⟩ : ∃ y, y = (rI s6).1 := ⟨_, rfl⟩
  obtain ⟨s7, hs7⟩ : ∃ s, s = (rI s6).2 := ⟨_, rfl⟩
  have q6 : ∀ w1, QPost 98 W (w.heap.size + 1) l (.slice av n cv) s6 w1 → Calls Try.prog 34 #[.pointer (some ⟨w.heap.size + 1, 0, none⟩)] w1 fun r w2 => r = .returned (.int .i64 y6) ∧ QPost 98 W (w.heap.size + 1) l (.slice av n cv) s7 w2 ∧ Kept (fun k => k = w.heap.size + 1) w1 w2 := fun w1 h => by rw [hy6, hs7]; exact QInt_at h HLEN.out
  obtain ⟨y7, hy7⟩ : ∃ y, y = (rI s7).1 := ⟨_, rfl⟩
  obtain ⟨s8, hs8⟩ : ∃ s, s = (rI s7).2 := ⟨_, rfl⟩
  have q7 : ∀ w1, QPost 98 W (w.heap.size + 1) l (.slice av n cv) s7 w1 → Calls Try.prog 34 #[.pointer (some ⟨w.heap.size + 1, 0, none⟩)] w1 fun r w2 => r = .returned (.int .i64 y7) ∧ QPost 98 W (w.heap.size + 1) l (.slice av n cv) s8 w2 ∧ Kept (fun k => k = w.heap.size + 1) w1 w2 := fun w1 h => by rw [hy7, hs8]; exact QInt_at h HLEN.out
  obtain ⟨y8, hy8⟩ : ∃ y, y = (rI s8).1 := ⟨_, rfl⟩
  obtain ⟨s9, hs9⟩ : ∃ s, s = (rI s8).2 := ⟨_, rfl⟩
  have q8 : ∀ w1, QPost 98 W (w.heap.size + 1) l (.slice av n cv) s8 w1 → Calls Try.prog 34 #[.pointer (some ⟨w.heap.size + 1, 0, none⟩)] w1 fun r w2 => r = .returned (.int .i64 y8) ∧ QPost 98 W (w.heap.size + 1) l (.slice av n cv) s9 w2 ∧ Kept (fun k => k = w.heap.size + 1) w1 w2 := fun w1 h => by rw [hy8, hs9]; exact QInt_at h HLEN.out
  obtain ⟨y9, hy9⟩ : ∃ y, y = (rI s9).1 := ⟨_, rfl⟩
  obtain ⟨s10, hs10⟩ : ∃ s, s = (rI s9).2 := ⟨_, rfl⟩
  have q9 : ∀ w1, QPost 98 W (w.heap.size + 1) l (.slice av n cv) s9 w1 → Calls Try.prog 34 #[.pointer (some ⟨w.heap.size + 1, 0, none⟩)] w1 fun r w2 => r = .returned (.int .i64 y9) ∧ QPost 98 W (w.heap.size + 1) l (.slice av n cv) s10 w2 ∧ Kept (fun k => k = w.heap.size + 1) w1 w2 := fun w1 h => by rw [hy9, hs10]; exact QInt_at h HLEN.out
  obtain ⟨y10, hy10⟩ : ∃ y, y = (rI s10).1 := ⟨_, rfl⟩
  obtain ⟨s11, hs11⟩ : ∃ s, s = (rI s10).2 := ⟨_, rfl⟩
  have q10 : ∀ w1, QPost 98 W (w.heap.size + 1) l (.slice av n cv) s10 w1 → Calls Try.prog 34 #[.pointer (some ⟨w.heap.size + 1, 0, none⟩)] w1 fun r w2 => r = .returned (.int .i64 y10) ∧ QPost 98 W (w.heap.size + 1) l (.slice av n cv) s11 w2 ∧ Kept (fun k => k = w.heap.size + 1) w1 w2 := fun w1 h => by rw [hy10, hs11]; exact QInt_at h HLEN.out
  have HSEQ := Lib.hid (⟨hy0, hy1, hy2, hy3, hy4, hy5, hy6, hy7, hy8, hy9, hy10, hs0, hs1, hs2, hs3, hs4, hs5, hs6, hs7, hs8, hs9, hs10, hs11⟩ : _ ∧ _ ∧ _ ∧ _ ∧ _ ∧ _ ∧ _ ∧ _ ∧ _ ∧ _ ∧ _ ∧ _ ∧ _ ∧ _ ∧ _ ∧ _ ∧ _ ∧ _ ∧ _ ∧ _ ∧ _ ∧ _ ∧ _)
  clear hy0 hy1 hy2 hy3 hy4 hy5 hy6 hy7 hy8 hy9 hy10 hs0 hs1 hs2 hs3 hs4 hs5 hs6 hs7 hs8 hs9 hs10 hs11
  have HGG : Hid (w.heap.size + 1 < W.heap.size) := HGW0
  generalize hg : w.heap.size + 1 = g at *
  go_upto_region 3 with fail
  go_cut [5] (fun v5 wx => ∃ ga, v5 = .pointer (some ⟨ga, 0, none⟩) ∧ HT wx ga 24 [.int .i64 y0, .int .i64 y1, .int .i64 y2, .int .i64 y3, .int .i64 y4, .int .i64 y5, .int .i64 y6, .int .i64 y7, .int .i64 y8, .int .i64 y9, .int .i64 y10, .int .i64 0, .int .i64 0, .int .i64 0, .int .i64 0, .int .i64 0, .int .i64 0] ∧ QPost 98 W g l (.slice av n cv) s11 wx ∧ W.heap.size ≤ ga ∧ ga ≠ g)
  case first =>
    refine wp_region_uni (S0 := fun _ => True) (S := QPost 98 W g l (.slice av n cv) s0) 46 (by kernel_rfl) (HQ0.out.below (Below.refl _ _).drew) ?_
    refine wpAnyU_take (i := 0) (oi := { dst := some 13, op := Op.move (Operand.tmp 4), type := 94, pos := "ref.go:150", after := #[], guard := none }) (v := (.pointer (some ⟨g, 0, none⟩))) rfl (by kernel_rfl) (by kernel_rfl) (by kernel_rfl) (by kernel_rfl) (by kernel_rfl) (fun _ _ _ h => h) QP.cls ?_ ?_
    · refine Or.inl ⟨rfl, fun w hSw => ?_⟩
      exact EffR.same (by go_simp)
    try simp only [Act.put, List.setIfInBounds_toArray, List.set_cons_zero, List.set_cons_succ]
    refine wpAnyU_take (i := 1) (oi := { dst := some 14, op := Op.nilCheck (Operand.tmp 13), type := 0, pos := "ref.go:150", after := #[{ on := 0, ground := Ground.data }], guard := none }) (v := (.pointer (some ⟨g, 0, none⟩))) rfl (by kernel_rfl) (by kernel_rfl) (by kernel_rfl) (by kernel_rfl) (by kernel_rfl) (fun _ _ _ h => h) QP.cls ?_ ?_
    · refine Or.inl ⟨rfl, fun w hSw => ?_⟩
      exact EffR.same (by go_simp)
    try simp only [Act.put, List.setIfInBounds_toArray, List.set_cons_zero, List.set_cons_succ]
    refine wpAnyU_take (i := 2) (oi := { dst := some 15, op := Op.fieldAddr 98 (Operand.tmp 14) 0, type := 0, pos := "ref.go:150", after := #[{ on := 1, ground := Ground.data }], guard := none }) (v := (.pointer (some ⟨g, 0, none⟩))) rfl (by kernel_rfl) (by kernel_rfl) (by kernel_rfl) (by kernel_rfl) (by kernel_rfl) (fun _ _ _ h => h) QP.cls ?_ ?_
    · refine Or.inl ⟨rfl, fun w hSw => ?_⟩
      exact EffR.same (by go_simp)
    try simp only [Act.put, List.setIfInBounds_toArray, List.set_cons_zero, List.set_cons_succ]
    refine wpAnyU_take (i := 4) (oi := { dst := some 17, op := Op.move (Operand.tmp 4), type := 94, pos := "ref.go:150", after := #[], guard := none }) (v := (.pointer (some ⟨g, 0, none⟩))) rfl (by kernel_rfl) (by kernel_rfl) (by kernel_rfl) (by kernel_rfl) (by kernel_rfl) (fun _ _ _ h => h) QP.cls ?_ ?_
    · refine Or.inl ⟨rfl, fun w hSw => ?_⟩
      exact EffR.same (by go_simp)
    try simp only [Act.put, List.setIfInBounds_toArray, List.set_cons_zero, List.set_cons_succ]
    refine wpAnyU_take (i := 5) (oi := { dst := some 18, op := Op.nilCheck (Operand.tmp 17), type := 0, pos := "ref.go:150", after := #[{ on := 4, ground := Ground.data }], guard := none }) (v := (.pointer (some ⟨g, 0, none⟩))) rfl (by kernel_rfl) (by kernel_rfl) (by kernel_rfl) (by kernel_rfl) (by kernel_rfl) (fun _ _ _ h => h) QP.cls ?_ ?_
    · refine Or.inl ⟨rfl, fun w hSw => ?_⟩
      exact EffR.same (by go_simp)
    try simp only [Act.put, List.setIfInBounds_toArray, List.set_cons_zero, List.set_cons_succ]
    refine wpAnyU_take (i := 6) (oi := { dst := some 19, op := Op.fieldAddr 98 (Operand.tmp 18) 0, type := 0, pos := "ref.go:150", after := #[{ on := 5, ground := Ground.data }], guard := none }) (v := (.pointer (some ⟨g, 0, none⟩))) rfl (by kernel_rfl) (by kernel_rfl) (by kernel_rfl) (by kernel_rfl) (by kernel_rfl) (fun _ _ _ h => h) QP.cls ?_ ?_
    · refine Or.inl ⟨rfl, fun w hSw => ?_⟩
      exact EffR.same (by go_simp)
    try simp only [Act.put, List.setIfInBounds_toArray, List.set_cons_zero, List.set_cons_succ]
    refine wpAnyU_take (i := 8) (oi := { dst := some 21, op := Op.move (Operand.tmp 4), type := 94, pos := "ref.go:150", after := #[], guard := none }) (v := (.pointer (some ⟨g, 0, none⟩))) rfl (by kernel_rfl) (by kernel_rfl) (by kernel_rfl) (by kernel_rfl) (by kernel_rfl) (fun _ _ _ h => h) QP.cls ?_ ?_
    · refine Or.inl ⟨rfl, fun w hSw => ?_⟩
      exact EffR.same (by go_simp)
    try simp only [Act.put, List.setIfInBounds_toArray, List.set_cons_zero, List.set_cons_succ]
    refine wpAnyU_take (i := 9) (oi := { dst := some 22, op := Op.nilCheck (Operand.tmp 21), type := 0, pos := "ref.go:150", after := #[{ on := 8, ground := Ground.data }], guard := none }) (v := (.pointer (some ⟨g, 0, none⟩))) rfl (by kernel_rfl) (by kernel_rfl) (by kernel_rfl) (by kernel_rfl) (by kernel_rfl) (fun _ _ _ h => h) QP.cls ?_ ?_
    · refine Or.inl ⟨rfl, fun w hSw => ?_⟩
      exact EffR.same (by go_simp)
    try simp only [Act.put, List.setIfInBounds_toArray, List.set_cons_zero, List.set_cons_succ]
    refine wpAnyU_take (i := 10) (oi := { dst := some 23, op := Op.fieldAddr 98 (Operand.tmp 22) 0, type := 0, pos := "ref.go:150", after := #[{ on := 9, ground := Ground.data }], guard := none }) (v := (.pointer (some ⟨g, 0, none⟩))) rfl (by kernel_rfl) (by kernel_rfl) (by kernel_rfl) (by kernel_rfl) (by kernel_rfl) (fun _ _ _ h => h) QP.cls ?_ ?_
    · refine Or.inl ⟨rfl, fun w hSw => ?_⟩
      exact EffR.same (by go_simp)
    try simp only [Act.put, List.setIfInBounds_toArray, List.set_cons_zero, List.set_cons_succ]
    refine wpAnyU_take (i := 12) (oi := { dst := some 25, op := Op.move (Operand.tmp 4), type := 94, pos := "ref.go:150", after := #[], guard := none }) (v := (.pointer (some ⟨g, 0, none⟩))) rfl (by kernel_rfl) (by kernel_rfl) (by kernel_rfl) (by kernel_rfl) (by kernel_rfl) (fun _ _ _ h => h) QP.cls ?_ ?_
    · refine Or.inl ⟨rfl, fun w hSw => ?_⟩
      exact EffR.same (by go_simp)
    try simp only [Act.put, List.setIfInBounds_toArray, List.set_cons_zero, List.set_cons_succ]
    refine wpAnyU_take (i := 13) (oi := { dst := some 26, op := Op.nilCheck (Operand.tmp 25), type := 0, pos := "ref.go:150", after := #[{ on := 12, ground := Ground.data }], guard := none }) (v := (.pointer (some ⟨g, 0, none⟩))) rfl (by kernel_rfl) (by kernel_rfl) (by kernel_rfl) (by kernel_rfl) (by kernel_rfl) (fun _ _ _ h => h) QP.cls ?_ ?_
    · refine Or.inl ⟨rfl, fun w hSw => ?_⟩
      exact EffR.same (by go_simp)
    try simp only [Act.put, List.setIfInBounds_toArray, List.set_cons_zero, List.set_cons_succ]
    refine wpAnyU_take (i := 14) (oi := { dst := some 27, op := Op.fieldAddr 98 (Operand.tmp 26) 0, type := 0, pos := "ref.go:150", after := #[{ on := 13, ground := Ground.data }], guard := none }) (v := (.pointer (some ⟨g, 0, none⟩))) rfl (by kernel_rfl) (by kernel_rfl) (by kernel_rfl) (by kernel_rfl) (by kernel_rfl) (fun _ _ _ h => h) QP.cls ?_ ?_
    · refine Or.inl ⟨rfl, fun w hSw => ?_⟩
      exact EffR.same (by go_simp)
    try simp only [Act.put, List.setIfInBounds_toArray, List.set_cons_zero, List.set_cons_succ]
    refine wpAnyU_take (i := 16) (oi := { dst := some 29, op := Op.move (Operand.tmp 4), type := 94, pos := "ref.go:150", after := #[], guard := none }) (v := (.pointer (some ⟨g, 0, none⟩))) rfl (by kernel_rfl) (by kernel_rfl) (by kernel_rfl) (by kernel_rfl) (by kernel_rfl) (fun _ _ _ h => h) QP.cls ?_ ?_
    · refine Or.inl ⟨rfl, fun w hSw => ?_⟩
      exact EffR.same (by go_simp)
    try simp only [Act.put, List.setIfInBounds_toArray, List.set_cons_zero, List.set_cons_succ]
    refine wpAnyU_take (i := 17) (oi := { dst := some 30, op := Op.nilCheck (Operand.tmp 29), type := 0, pos := "ref.go:150", after := #[{ on := 16, ground := Ground.data }], guard := none }) (v := (.pointer (some ⟨g, 0, none⟩))) rfl (by kernel_rfl) (by kernel_rfl) (by kernel_rfl) (by kernel_rfl) (by kernel_rfl) (fun _ _ _ h => h) QP.cls ?_ ?_
    · refine Or.inl ⟨rfl, fun w hSw => ?_⟩
      exact EffR.same (by go_simp)
    try simp only [Act.put, List.setIfInBounds_toArray, List.set_cons_zero, List.set_cons_succ]
    refine wpAnyU_take (i := 18) (oi := { dst := some 31, op := Op.fieldAddr 98 (Operand.tmp 30) 0, type := 0, pos := "ref.go:150", after := #[{ on := 17, ground := Ground.data }], guard := none }) (v := (.pointer (some ⟨g, 0, none⟩))) rfl (by kernel_rfl) (by kernel_rfl) (by kernel_rfl) (by kernel_rfl) (by kernel_rfl) (fun _ _ _ h => h) QP.cls ?_ ?_
    · refine Or.inl ⟨rfl, fun w hSw => ?_⟩
      exact EffR.same (by go_simp)
    try simp only [Act.put, List.setIfInBounds_toArray, List.set_cons_zero, List.set_cons_succ]
    refine wpAnyU_take (i := 20) (oi := { dst := some 33, op := Op.move (Operand.tmp 4), type := 94, pos := "ref.go:150", after := #[], guard := none }) (v := (.pointer (some ⟨g, 0, none⟩))) rfl (by kernel_rfl) (by kernel_rfl) (by kernel_rfl) (by kernel_rfl) (by kernel_rfl) (fun _ _ _ h => h) QP.cls ?_ ?_
    · refine Or.inl ⟨rfl, fun w hSw => ?_⟩
      exact EffR.same (by go_simp)
    try simp only [Act.put, List.setIfInBounds_toArray, List.set_cons_zero, List.set_cons_succ]
    refine wpAnyU_take (i := 21) (oi := { dst := some 34, op := Op.nilCheck (Operand.tmp 33), type := 0, pos := "ref.go:150", after := #[{ on := 20, ground := Ground.data }], guard := none }) (v := (.pointer (some ⟨g, 0, none⟩))) rfl (by kernel_rfl) (by kernel_rfl) (by kernel_rfl) (by kernel_rfl) (by kernel_rfl) (fun _ _ _ h => h) QP.cls ?_ ?_
    · refine Or.inl ⟨rfl, fun w hSw => ?_⟩
      exact EffR.same (by go_simp)
    try simp only [Act.put, List.setIfInBounds_toArray, List.set_cons_zero, List.set_cons_succ]
    refine wpAnyU_take (i := 22) (oi := { dst := some 35, op := Op.fieldAddr 98 (Operand.tmp 34) 0, type := 0, pos := "ref.go:150", after := #[{ on := 21, ground := Ground.data }], guard := none }) (v := (.pointer (some ⟨g, 0, none⟩))) rfl (by kernel_rfl) (by kernel_rfl) (by kernel_rfl) (by kernel_rfl) (by kernel_rfl) (fun _ _ _ h => h) QP.cls ?_ ?_
    · refine Or.inl ⟨rfl, fun w hSw => ?_⟩
      exact EffR.same (by go_simp)
    try simp only [Act.put, List.setIfInBounds_toArray, List.set_cons_zero, List.set_cons_succ]
    refine wpAnyU_take (i := 24) (oi := { dst := some 37, op := Op.move (Operand.tmp 4), type := 94, pos := "ref.go:150", after := #[], guard := none }) (v := (.pointer (some ⟨g, 0, none⟩))) rfl (by kernel_rfl) (by kernel_rfl) (by kernel_rfl) (by kernel_rfl) (by kernel_rfl) (fun _ _ _ h => h) QP.cls ?_ ?_
    · refine Or.inl ⟨rfl, fun w hSw => ?_⟩
      exact EffR.same (by go_simp)
    try simp only [Act.put, List.setIfInBounds_toArray, List.set_cons_zero, List.set_cons_succ]
    refine wpAnyU_take (i := 25) (oi := { dst := some 38, op := Op.nilCheck (Operand.tmp 37), type := 0, pos := "ref.go:150", after := #[{ on := 24, ground := Ground.data }], guard := none }) (v := (.pointer (some ⟨g, 0, none⟩))) rfl (by kernel_rfl) (by kernel_rfl) (by kernel_rfl) (by kernel_rfl) (by kernel_rfl) (fun _ _ _ h => h) QP.cls ?_ ?_
    · refine Or.inl ⟨rfl, fun w hSw => ?_⟩
      exact EffR.same (by go_simp)
    try simp only [Act.put, List.setIfInBounds_toArray, List.set_cons_zero, List.set_cons_succ]
    refine wpAnyU_take (i := 26) (oi := { dst := some 39, op := Op.fieldAddr 98 (Operand.tmp 38) 0, type := 0, pos := "ref.go:150", after := #[{ on := 25, ground := Ground.data }], guard := none }) (v := (.pointer (some ⟨g, 0, none⟩))) rfl (by kernel_rfl) (by kernel_rfl) (by kernel_rfl) (by kernel_rfl) (by kernel_rfl) (fun _ _ _ h => h) QP.cls ?_ ?_
    · refine Or.inl ⟨rfl, fun w hSw => ?_⟩
      exact EffR.same (by go_simp)
    try simp only [Act.put, List.setIfInBounds_toArray, List.set_cons_zero, List.set_cons_succ]
    refine wpAnyU_take (i := 28) (oi := { dst := some 41, op := Op.move (Operand.tmp 4), type := 94, pos := "ref.go:150", after := #[], guard := none }) (v := (.pointer (some ⟨g, 0, none⟩))) rfl (by kernel_rfl) (by kernel_rfl) (by kernel_rfl) (by kernel_rfl) (by kernel_rfl) (fun _ _ _ h => h) QP.cls ?_ ?_
    · refine Or.inl ⟨rfl, fun w hSw => ?_⟩
      exact EffR.same (by go_simp)
    try simp only [Act.put, List.setIfInBounds_toArray, List.set_cons_zero, List.set_cons_succ]
    refine wpAnyU_take (i := 29) (oi := { dst := some 42, op := Op.nilCheck (Operand.tmp 41), type := 0, pos := "ref.go:150", after := #[{ on := 28, ground := Ground.data }], guard := none }) (v := (.pointer (some ⟨g, 0, none⟩))) rfl (by kernel_rfl) (by kernel_rfl) (by kernel_rfl) (by kernel_rfl) (by kernel_rfl) (fun _ _ _ h => h) QP.cls ?_ ?_
    · refine Or.inl ⟨rfl, fun w hSw => ?_⟩
      exact EffR.same (by go_simp)
    try simp only [Act.put, List.setIfInBounds_toArray, List.set_cons_zero, List.set_cons_succ]
    refine wpAnyU_take (i := 30) (oi := { dst := some 43, op := Op.fieldAddr 98 (Operand.tmp 42) 0, type := 0, pos := "ref.go:150", after := #[{ on := 29, ground := Ground.data }], guard := none }) (v := (.pointer (some ⟨g, 0, none⟩))) rfl (by kernel_rfl) (by kernel_rfl) (by kernel_rfl) (by kernel_rfl) (by kernel_rfl) (fun _ _ _ h => h) QP.cls ?_ ?_
    · refine Or.inl ⟨rfl, fun w hSw => ?_⟩
      exact EffR.same (by go_simp)
    try simp only [Act.put, List.setIfInBounds_toArray, List.set_cons_zero, List.set_cons_succ]
    refine wpAnyU_take (i := 32) (oi := { dst := some 45, op := Op.move (Operand.tmp 4), type := 94, pos := "ref.go:150", after := #[], guard := none }) (v := (.pointer (some ⟨g, 0, none⟩))) rfl (by kernel_rfl) (by kernel_rfl) (by kernel_rfl) (by kernel_rfl) (by kernel_rfl) (fun _ _ _ h => h) QP.cls ?_ ?_
    · refine Or.inl ⟨rfl, fun w hSw => ?_⟩
      exact EffR.same (by go_simp)
    try simp only [Act.put, List.setIfInBounds_toArray, List.set_cons_zero, List.set_cons_succ]
    refine wpAnyU_take (i := 33) (oi := { dst := some 46, op := Op.nilCheck (Operand.tmp 45), type := 0, pos := "ref.go:150", after := #[{ on := 32, ground := Ground.data }], guard := none }) (v := (.pointer (some ⟨g, 0, none⟩))) rfl (by kernel_rfl) (by kernel_rfl) (by kernel_rfl) (by kernel_rfl) (by kernel_rfl) (fun _ _ _ h => h) QP.cls ?_ ?_
    · refine Or.inl ⟨rfl, fun w hSw => ?_⟩
      exact EffR.same (by go_simp)
    try simp only [Act.put, List.setIfInBounds_toArray, List.set_cons_zero, List.set_cons_succ]
    refine wpAnyU_take (i := 34) (oi := { dst := some 47, op := Op.fieldAddr 98 (Operand.tmp 46) 0, type := 0, pos := "ref.go:150", after := #[{ on := 33, ground := Ground.data }], guard := none }) (v := (.pointer (some ⟨g, 0, none⟩))) rfl (by kernel_rfl) (by kernel_rfl) (by kernel_rfl) (by kernel_rfl) (by kernel_rfl) (fun _ _ _ h => h) QP.cls ?_ ?_
    · refine Or.inl ⟨rfl, fun w hSw => ?_⟩
      exact EffR.same (by go_simp)
    try simp only [Act.put, List.setIfInBounds_toArray, List.set_cons_zero, List.set_cons_succ]
    refine wpAnyU_take (i := 36) (oi := { dst := some 49, op := Op.move (Operand.tmp 4), type := 94, pos := "ref.go:150", after := #[], guard := none }) (v := (.pointer (some ⟨g, 0, none⟩))) rfl (by kernel_rfl) (by kernel_rfl) (by kernel_rfl) (by kernel_rfl) (by kernel_rfl) (fun _ _ _ h => h) QP.cls ?_ ?_
    · refine Or.inl ⟨rfl, fun w hSw => ?_⟩
      exact EffR.same (by go_simp)
    try simp only [Act.put, List.setIfInBounds_toArray, List.set_cons_zero, List.set_cons_succ]
    refine wpAnyU_take (i := 37) (oi := { dst := some 50, op := Op.nilCheck (Operand.tmp 49), type := 0, pos := "ref.go:150", after := #[{ on := 36, ground := Ground.data }], guard := none }) (v := (.pointer (some ⟨g, 0, none⟩))) rfl (by kernel_rfl) (by kernel_rfl) (by kernel_rfl) (by kernel_rfl) (by kernel_rfl) (fun _ _ _ h => h) QP.cls ?_ ?_
    · refine Or.inl ⟨rfl, fun w hSw => ?_⟩
      exact EffR.same (by go_simp)
    try simp only [Act.put, List.setIfInBounds_toArray, List.set_cons_zero, List.set_cons_succ]
    refine wpAnyU_take (i := 38) (oi := { dst := some 51, op := Op.fieldAddr 98 (Operand.tmp 50) 0, type := 0, pos := "ref.go:150", after := #[{ on := 37, ground := Ground.data }], guard := none }) (v := (.pointer (some ⟨g, 0, none⟩))) rfl (by kernel_rfl) (by kernel_rfl) (by kernel_rfl) (by kernel_rfl) (by kernel_rfl) (fun _ _ _ h => h) QP.cls ?_ ?_
    · refine Or.inl ⟨rfl, fun w hSw => ?_⟩
      exact EffR.same (by go_simp)
    try simp only [Act.put, List.setIfInBounds_toArray, List.set_cons_zero, List.set_cons_succ]
    refine wpAnyU_take (i := 40) (oi := { dst := some 53, op := Op.move (Operand.tmp 4), type := 94, pos := "ref.go:150", after := #[], guard := none }) (v := (.pointer (some ⟨g, 0, none⟩))) rfl (by kernel_rfl) (by kernel_rfl) (by kernel_rfl) (by kernel_rfl) (by kernel_rfl) (fun _ _ _ h => h) QP.cls ?_ ?_
    · refine Or.inl ⟨rfl, fun w hSw => ?_⟩
      exact EffR.same (by go_simp)
    try simp only [Act.put, List.setIfInBounds_toArray, List.set_cons_zero, List.set_cons_succ]
    refine wpAnyU_take (i := 41) (oi := { dst := some 54, op := Op.nilCheck (Operand.tmp 53), type := 0, pos := "ref.go:150", after := #[{ on := 40, ground := Ground.data }], guard := none }) (v := (.pointer (some ⟨g, 0, none⟩))) rfl (by kernel_rfl) (by kernel_rfl) (by kernel_rfl) (by kernel_rfl) (by kernel_rfl) (fun _ _ _ h => h) QP.cls ?_ ?_
    · refine Or.inl ⟨rfl, fun w hSw => ?_⟩
      exact EffR.same (by go_simp)
    try simp only [Act.put, List.setIfInBounds_toArray, List.set_cons_zero, List.set_cons_succ]
    refine wpAnyU_take (i := 42) (oi := { dst := some 55, op := Op.fieldAddr 98 (Operand.tmp 54) 0, type := 0, pos := "ref.go:150", after := #[{ on := 41, ground := Ground.data }], guard := none }) (v := (.pointer (some ⟨g, 0, none⟩))) rfl (by kernel_rfl) (by kernel_rfl) (by kernel_rfl) (by kernel_rfl) (by kernel_rfl) (fun _ _ _ h => h) QP.cls ?_ ?_
    · refine Or.inl ⟨rfl, fun w hSw => ?_⟩
      exact EffR.same (by go_simp)
    try simp only [Act.put, List.setIfInBounds_toArray, List.set_cons_zero, List.set_cons_succ]
    refine wpAnyU_ready (rs := [3, 45]) (by kernel_rfl) (by simp) ?_
    refine AllReadyU.cons (o := { dst := some 16, op := Op.call { callee := Callee.value (Operand.func 34), args := #[Operand.tmp 15], argTypes := #[96] }, type := 3, pos := "ref.go:150", after := #[{ on := 2, ground := Ground.data }], guard := none }) rfl (fun wA3 hA3 K hK => ?_) (AllReadyU.cons (o := { dst := some 5, op := Op.alloc 24, type := 0, pos := "ref.go:150", after := #[], guard := none }) rfl (fun wA45 hA45 K hK => ?_) AllReadyU.nil)
    · go_simp
      refine (q0 wA3 hA3).mono ?_
      rintro e wn0 ⟨rfl, hn, hkn⟩
      refine hK.out _ _ (QPost 98 W g l (.slice av n cv) s1) QP.cls hn ?_
      clear hK K
      try simp only [Act.put, List.setIfInBounds_toArray, List.set_cons_zero, List.set_cons_succ]
      refine wpAnyU_ready (rs := [7, 45]) (by kernel_rfl) (by simp) ?_
      refine AllReadyU.cons (o := { dst := some 20, op := Op.call { callee := Callee.value (Operand.func 34), args := #[Operand.tmp 19], argTypes := #[96] }, type := 3, pos := "ref.go:150", after := #[{ on := 6, ground := Ground.data }, { on := 3, ground := Ground.chain }], guard := none }) rfl (fun wA7 hA7 K hK => ?_) (AllReadyU.cons (o := { dst := some 5, op := Op.alloc 24, type := 0, pos := "ref.go:150", after := #[], guard := none }) rfl (fun wA45 hA45 K hK => ?_) AllReadyU.nil)
      · go_simp
        refine (q1 wA7 hA7).mono ?_
        rintro e wn1 ⟨rfl, hn, hkn⟩
        refine hK.out _ _ (QPost 98 W g l (.slice av n cv) s2) QP.cls hn ?_
        clear hK K
        try simp only [Act.put, List.setIfInBounds_toArray, List.set_cons_zero, List.set_cons_succ]
        refine wpAnyU_ready (rs := [11, 45]) (by kernel_rfl) (by simp) ?_
        refine AllReadyU.cons (o := { dst := some 24, op := Op.call { callee := Callee.value (Operand.func 34), args := #[Operand.tmp 23], argTypes := #[96] }, type := 3, pos := "ref.go:150", after := #[{ on := 10, ground := Ground.data }, { on := 7, ground := Ground.chain }], guard := none }) rfl (fun wA11 hA11 K hK => ?_) (AllReadyU.cons (o := { dst := some 5, op := Op.alloc 24, type := 0, pos := "ref.go:150", after := #[], guard := none }) rfl (fun wA45 hA45 K hK => ?_) AllReadyU.nil)
        · go_simp
          refine (q2 wA11 hA11).mono ?_
          rintro e wn2 ⟨rfl, hn, hkn⟩
          refine hK.out _ _ (QPost 98 W g l (.slice av n cv) s3) QP.cls hn ?_
          clear hK K
          try simp only [Act.put, List.setIfInBounds_toArray, List.set_cons_zero, List.set_cons_succ]
          refine wpAnyU_ready (rs := [15, 45]) (by kernel_rfl) (by simp) ?_
          refine AllReadyU.cons (o := { dst := some 28, op := Op.call { callee := Callee.value (Operand.func 34), args := #[Operand.tmp 27], argTypes := #[96] }, type := 3, pos := "ref.go:150", after := #[{ on := 14, ground := Ground.data }, { on := 11, ground := Ground.chain }], guard := none }) rfl (fun wA15 hA15 K hK => ?_) (AllReadyU.cons (o := { dst := some 5, op := Op.alloc 24, type := 0, pos := "ref.go:150", after := #[], guard := none }) rfl (fun wA45 hA45 K hK => ?_) AllReadyU.nil)
          · go_simp
            refine (q3 wA15 hA15).mono ?_
            rintro e wn3 ⟨rfl, hn, hkn⟩
            refine hK.out _ _ (QPost 98 W g l (.slice av n cv) s4) QP.cls hn ?_
            clear hK K
            try simp only [Act.put, List.setIfInBounds_toArray, List.set_cons_zero, List.set_cons_succ]
            refine wpAnyU_ready (rs := [19, 45]) (by kernel_rfl) (by simp) ?_
            refine AllReadyU.cons (o := { dst := some 32, op := Op.call { callee := Callee.value (Operand.func 34), args := #[Operand.tmp 31], argTypes := #[96] }, type := 3, pos := "ref.go:150", after := #[{ on := 18, ground := Ground.data }, { on := 15, ground := Ground.chain }], guard := none }) rfl (fun wA19 hA19 K hK => ?_) (AllReadyU.cons (o := { dst := some 5, op := Op.alloc 24, type := 0, pos := "ref.go:150", after := #[], guard := none }) rfl (fun wA45 hA45 K hK => ?_) AllReadyU.nil)
            · go_simp
              refine (q4 wA19 hA19).mono ?_
              rintro e wn4 ⟨rfl, hn, hkn⟩
              refine hK.out _ _ (QPost 98 W g l (.slice av n cv) s5) QP.cls hn ?_
              clear hK K
              try simp only [Act.put, List.setIfInBounds_toArray, List.set_cons_zero, List.set_cons_succ]
              refine wpAnyU_ready (rs := [23, 45]) (by kernel_rfl) (by simp) ?_
              refine AllReadyU.cons (o := { dst := some 36, op := Op.call { callee := Callee.value (Operand.func 34), args := #[Operand.tmp 35], argTypes := #[96] }, type := 3, pos := "ref.go:150", after := #[{ on := 22, ground := Ground.data }, { on := 19, ground := Ground.chain }], guard := none }) rfl (fun wA23 hA23 K hK => ?_) (AllReadyU.cons (o := { dst := some 5, op := Op.alloc 24, type := 0, pos := "ref.go:150", after := #[], guard := none }) rfl (fun wA45 hA45 K hK => ?_) AllReadyU.nil)
              · go_simp
                refine (q5 wA23 hA23).mono ?_
                rintro e wn5 ⟨rfl, hn, hkn⟩
                refine hK.out _ _ (QPost 98 W g l (.slice av n cv) s6) QP.cls hn ?_
                clear hK K
                try simp only [Act.put, List.setIfInBounds_toArray, List.set_cons_zero, List.set_cons_succ]
                refine wpAnyU_ready (rs := [27, 45]) (by kernel_rfl) (by simp) ?_
                refine AllReadyU.cons (o := { dst := some 40, op := Op.call { callee := Callee.value (Operand.func 34), args := #[Operand.tmp 39], argTypes := #[96] }, type := 3, pos := "ref.go:150", after := #[{ on := 26, ground := Ground.data }, { on := 23, ground := Ground.chain }], guard := none }) rfl (fun wA27 hA27 K hK => ?_) (AllReadyU.cons (o := { dst := some 5, op := Op.alloc 24, type := 0, pos := "ref.go:150", after := #[], guard := none }) rfl (fun wA45 hA45 K hK => ?_) AllReadyU.nil)
                · go_simp
                  refine (q6 wA27 hA27).mono ?_
                  rintro e wn6 ⟨rfl, hn, hkn⟩
                  refine hK.out _ _ (QPost 98 W g l (.slice av n cv) s7) QP.cls hn ?_
                  clear hK K
                  try simp only [Act.put, List.setIfInBounds_toArray, List.set_cons_zero, List.set_cons_succ]
                  refine wpAnyU_ready (rs := [31, 45]) (by kernel_rfl) (by simp) ?_
                  refine AllReadyU.cons (o := { dst := some 44, op := Op.call { callee := Callee.value (Operand.func 34), args := #[Operand.tmp 43], argTypes := #[96] }, type := 3, pos := "ref.go:150", after := #[{ on := 30, ground := Ground.data }, { on := 27, ground := Ground.chain }], guard := none }) rfl (fun wA31 hA31 K hK => ?_) (AllReadyU.cons (o := { dst := some 5, op := Op.alloc 24, type := 0, pos := "ref.go:150", after := #[], guard := none }) rfl (fun wA45 hA45 K hK => ?_) AllReadyU.nil)
                  · go_simp
                    refine (q7 wA31 hA31).mono ?_
                    rintro e wn7 ⟨rfl, hn, hkn⟩
                    refine hK.out _ _ (QPost 98 W g l (.slice av n cv) s8) QP.cls hn ?_
                    clear hK K
                    try simp only [Act.put, List.setIfInBounds_toArray, List.set_cons_zero, List.set_cons_succ]
                    refine wpAnyU_ready (rs := [35, 45]) (by kernel_rfl) (by simp) ?_
                    refine AllReadyU.cons (o := { dst := some 48, op := Op.call { callee := Callee.value (Operand.func 34), args := #[Operand.tmp 47], argTypes := #[96] }, type := 3, pos := "ref.go:150", after := #[{ on := 34, ground := Ground.data }, { on := 31, ground := Ground.chain }], guard := none }) rfl (fun wA35 hA35 K hK => ?_) (AllReadyU.cons (o := { dst := some 5, op := Op.alloc 24, type := 0, pos := "ref.go:150", after := #[], guard := none }) rfl (fun wA45 hA45 K hK => ?_) AllReadyU.nil)
                    · go_simp
                      refine (q8 wA35 hA35).mono ?_
                      rintro e wn8 ⟨rfl, hn, hkn⟩
                      refine hK.out _ _ (QPost 98 W g l (.slice av n cv) s9) QP.cls hn ?_
                      clear hK K
                      try simp only [Act.put, List.setIfInBounds_toArray, List.set_cons_zero, List.set_cons_succ]
                      refine wpAnyU_ready (rs := [39, 45]) (by kernel_rfl) (by simp) ?_
                      refine AllReadyU.cons (o := { dst := some 52, op := Op.call { callee := Callee.value (Operand.func 34), args := #[Operand.tmp 51], argTypes := #[96] }, type := 3, pos := "ref.go:150", after := #[{ on := 38, ground := Ground.data }, { on := 35, ground := Ground.chain }], guard := none }) rfl (fun wA39 hA39 K hK => ?_) (AllReadyU.cons (o := { dst := some 5, op := Op.alloc 24, type := 0, pos := "ref.go:150", after := #[], guard := none }) rfl (fun wA45 hA45 K hK => ?_) AllReadyU.nil)
                      · go_simp
                        refine (q9 wA39 hA39).mono ?_
                        rintro e wn9 ⟨rfl, hn, hkn⟩
                        refine hK.out _ _ (QPost 98 W g l (.slice av n cv) s10) QP.cls hn ?_
                        clear hK K
                        try simp only [Act.put, List.setIfInBounds_toArray, List.set_cons_zero, List.set_cons_succ]
                        refine wpAnyU_ready (rs := [43, 45]) (by kernel_rfl) (by simp) ?_
                        refine AllReadyU.cons (o := { dst := some 56, op := Op.call { callee := Callee.value (Operand.func 34), args := #[Operand.tmp 55], argTypes := #[96] }, type := 3, pos := "ref.go:150", after := #[{ on := 42, ground := Ground.data }, { on := 39, ground := Ground.chain }], guard := none }) rfl (fun wA43 hA43 K hK => ?_) (AllReadyU.cons (o := { dst := some 5, op := Op.alloc 24, type := 0, pos := "ref.go:150", after := #[], guard := none }) rfl (fun wA45 hA45 K hK => ?_) AllReadyU.nil)
                        · go_simp
                          refine (q10 wA43 hA43).mono ?_
                          rintro e wn10 ⟨rfl, hn, hkn⟩
                          refine hK.out _ _ (QPost 98 W g l (.slice av n cv) s11) QP.cls hn ?_
                          clear hK K
                          try simp only [Act.put, List.setIfInBounds_toArray, List.set_cons_zero, List.set_cons_succ]
                          refine wpAnyU_take (i := 44) (oi := { dst := some 57, op := Op.build 24 #[(0, Operand.tmp 16), (1, Operand.tmp 20), (2, Operand.tmp 24), (3, Operand.tmp 28), (4, Operand.tmp 32), (5, Operand.tmp 36), (6, Operand.tmp 40), (7, Operand.tmp 44), (8, Operand.tmp 48), (9, Operand.tmp 52), (10, Operand.tmp 56)], type := 24, pos := "ref.go:150", after := #[{ on := 3, ground := Ground.data }, { on := 7, ground := Ground.data }, { on := 11, ground := Ground.data }, { on := 15, ground := Ground.data }, { on := 19, ground := Ground.data }, { on := 23, ground := Ground.data }, { on := 27, ground := Ground.data }, { on := 31, ground := Ground.data }, { on := 35, ground := Ground.data }, { on := 39, ground := Ground.data }, { on := 43, ground := Ground.data }], guard := none }) (v := (.agg #[.int .i64 y0, .int .i64 y1, .int .i64 y2, .int .i64 y3, .int .i64 y4, .int .i64 y5, .int .i64 y6, .int .i64 y7, .int .i64 y8, .int .i64 y9, .int .i64 y10, .int .i64 0, .int .i64 0, .int .i64 0, .int .i64 0, .int .i64 0, .int .i64 0])) rfl (by kernel_rfl) (by kernel_rfl) (by kernel_rfl) (by kernel_rfl) (by kernel_rfl) (fun _ _ _ h => h) QP.cls ?_ ?_
                          · refine Or.inl ⟨rfl, fun w hSw => ?_⟩
                            exact EffR.same (by go_simp)
                          try simp only [Act.put, List.setIfInBounds_toArray, List.set_cons_zero, List.set_cons_succ]
                          refine wpAnyU_ready (rs := [45]) (by kernel_rfl) (by simp) ?_
                          refine AllReadyU.cons (o := { dst := some 5, op := Op.alloc 24, type := 0, pos := "ref.go:150", after := #[], guard := none }) rfl (fun wA45 hA45 K hK => ?_) AllReadyU.nil
                          go_simp
                          have hga := hA45.lt
                          obtain ⟨ga, hgae⟩ : ∃ ga, ga = wA45.heap.size := ⟨_, rfl⟩
                          have HNE : Hid (ga ≠ g) := by show _ ≠ _; omega
                          have HGW : Hid (W.heap.size ≤ ga) := by have := hA45.size; show _ ≤ _; omega
                          have hnew : HT (wA45.alloc (.cells #[.int .i64 0, .int .i64 0, .int .i64 0, .int .i64 0, .int .i64 0, .int .i64 0, .int .i64 0, .int .i64 0, .int .i64 0, .int .i64 0, .int .i64 0, .int .i64 0, .int .i64 0, .int .i64 0, .int .i64 0, .int .i64 0, .int .i64 0] 24)) ga 24 [.int .i64 0, .int .i64 0, .int .i64 0, .int .i64 0, .int .i64 0, .int .i64 0, .int .i64 0, .int .i64 0, .int .i64 0, .int .i64 0, .int .i64 0, .int .i64 0, .int .i64 0, .int .i64 0, .int .i64 0, .int .i64 0, .int .i64 0] := by rw [hgae]; exact HT.new (w := wA45)
                          rw [← hgae]
                          clear hga hgae
                          refine hK.out _ _ (fun w9 => QPost 98 W g l (.slice av n cv) s11 w9 ∧ HT w9 ga 24 [.int .i64 0, .int .i64 0, .int .i64 0, .int .i64 0, .int .i64 0, .int .i64 0, .int .i64 0, .int .i64 0, .int .i64 0, .int .i64 0, .int .i64 0, .int .i64 0, .int .i64 0, .int .i64 0, .int .i64 0, .int .i64 0, .int .i64 0]) QP.cls2 ⟨hA45.below ((Below.refl _ _).alloc (Nat.le_refl _) _), hnew⟩ ?_
                          clear hK K
                          try simp only [Act.put, List.setIfInBounds_toArray, List.set_cons_zero, List.set_cons_succ]
                          refine wpAnyU_last (o := { dst := none, op := Op.store 24 (Operand.tmp 5) (Operand.tmp 57), type := 0, pos := "ref.go:150", after := #[{ on := 45, ground := Ground.data }, { on := 44, ground := Ground.data }, { on := 43, ground := Ground.chain }, { on := 0, ground := Ground.phase }, { on := 1, ground := Ground.phase }, { on := 2, ground := Ground.phase }, { on := 3, ground := Ground.phase }, { on := 4, ground := Ground.phase }, { on := 5, ground := Ground.phase }, { on := 6, ground := Ground.phase }, { on := 7, ground := Ground.phase }, { on := 8, ground := Ground.phase }, { on := 9, ground := Ground.phase }, { on := 10, ground := Ground.phase }, { on := 11, ground := Ground.phase }, { on := 12, ground := Ground.phase }, { on := 13, ground := Ground.phase }, { on := 14, ground := Ground.phase }, { on := 15, ground := Ground.phase }, { on := 16, ground := Ground.phase }, { on := 17, ground := Ground.phase }, { on := 18, ground := Ground.phase }, { on := 19, ground := Ground.phase }, { on := 20, ground := Ground.phase }, { on := 21, ground := Ground.phase }, { on := 22, ground := Ground.phase }, { on := 23, ground := Ground.phase }, { on := 24, ground := Ground.phase }, { on := 25, ground := Ground.phase }, { on := 26, ground := Ground.phase }, { on := 27, ground := Ground.phase }, { on := 28, ground := Ground.phase }, { on := 29, ground := Ground.phase }, { on := 30, ground := Ground.phase }, { on := 31, ground := Ground.phase }, { on := 32, ground := Ground.phase }, { on := 33, ground := Ground.phase }, { on := 34, ground := Ground.phase }, { on := 35, ground := Ground.phase }, { on := 36, ground := Ground.phase }, { on := 37, ground := Ground.phase }, { on := 38, ground := Ground.phase }, { on := 39, ground := Ground.phase }, { on := 40, ground := Ground.phase }, { on := 41, ground := Ground.phase }, { on := 42, ground := Ground.phase }, { on := 43, ground := Ground.phase }, { on := 44, ground := Ground.phase }, { on := 45, ground := Ground.phase }], guard := none }) (by kernel_rfl) (by kernel_rfl) rfl (fun w1 hb1 K hK => ?_)
                          refine step_store_mid rfl 24 (.tmp 5) (.tmp 57) rfl ga 0 [.int .i64 y0, .int .i64 y1, .int .i64 y2, .int .i64 y3, .int .i64 y4, .int .i64 y5, .int .i64 y6, .int .i64 y7, .int .i64 y8, .int .i64 y9, .int .i64 y10, .int .i64 0, .int .i64 0, .int .i64 0, .int .i64 0, .int .i64 0, .int .i64 0] rfl rfl (fun j hj => ⟨hb1.2.isSome (by simpa using hj), hb1.2.frozen _⟩) (by rw [cmdSize]; rfl) (by simp [Value.oneCell']) ?_
                          have hput := hb1.2.puts (o := 0) (vs := [.int .i64 y0, .int .i64 y1, .int .i64 y2, .int .i64 y3, .int .i64 y4, .int .i64 y5, .int .i64 y6, .int .i64 y7, .int .i64 y8, .int .i64 y9, .int .i64 y10, .int .i64 0, .int .i64 0, .int .i64 0, .int .i64 0, .int .i64 0, .int .i64 0]) (by simp)
                          rw [splice_all (by simp)] at hput
                          have hk9 := setCells_kept ga [.int .i64 y0, .int .i64 y1, .int .i64 y2, .int .i64 y3, .int .i64 y4, .int .i64 y5, .int .i64 y6, .int .i64 y7, .int .i64 y8, .int .i64 y9, .int .i64 y10, .int .i64 0, .int .i64 0, .int .i64 0, .int .i64 0, .int .i64 0, .int .i64 0] 0 w1
                          have hq9 := hb1.1.kept hk9 (by have := HGW.out; have := HGG.out; omega) HGW.out
                          have HPUT := Lib.hid hput
                          have HQ9 := Lib.hid hq9
                          obtain ⟨w9, hw9⟩ : ∃ w9, w9 = w1.setCells ga 0 [.int .i64 y0, .int .i64 y1, .int .i64 y2, .int .i64 y3, .int .i64 y4, .int .i64 y5, .int .i64 y6, .int .i64 y7, .int .i64 y8, .int .i64 y9, .int .i64 y10, .int .i64 0, .int .i64 0, .int .i64 0, .int .i64 0, .int .i64 0, .int .i64 0] := ⟨_, rfl⟩
                          rw [← hw9] at HPUT HQ9 ⊢
                          clear hput hk9 hq9 hb1 hw9
                          refine hK.out _ _ ?_
                          clear hK K
                          try simp only [Act.put]
                          go_wp2_with fail
                          go_meet
                          exact ⟨ga, rfl, HPUT.out, HQ9.out, HGW.out, HNE.out⟩
                        · go_simp
                          have hga := hA45.lt
                          obtain ⟨ga, hgae⟩ : ∃ ga, ga = wA45.heap.size := ⟨_, rfl⟩
                          have HNE : Hid (ga ≠ g) := by show _ ≠ _; omega
                          have HGW : Hid (W.heap.size ≤ ga) := by have := hA45.size; show _ ≤ _; omega
                          have hnew : HT (wA45.alloc (.cells #[.int .i64 0, .int .i64 0, .int .i64 0, .int .i64 0, .int .i64 0, .int .i64 0, .int .i64 0, .int .i64 0, .int .i64 0, .int .i64 0, .int .i64 0, .int .i64 0, .int .i64 0, .int .i64 0, .int .i64 0, .int .i64 0, .int .i64 0] 24)) ga 24 [.int .i64 0, .int .i64 0, .int .i64 0, .int .i64 0, .int .i64 0, .int .i64 0, .int .i64 0, .int .i64 0, .int .i64 0, .int .i64 0, .int .i64 0, .int .i64 0, .int .i64 0, .int .i64 0, .int .i64 0, .int .i64 0, .int .i64 0] := by rw [hgae]; exact HT.new (w := wA45)
                          rw [← hgae]
                          clear hga hgae
                          refine hK.out _ _ (fun w9 => QPost 98 W g l (.slice av n cv) s10 w9 ∧ HT w9 ga 24 [.int .i64 0, .int .i64 0, .int .i64 0, .int .i64 0, .int .i64 0, .int .i64 0, .int .i64 0, .int .i64 0, .int .i64 0, .int .i64 0, .int .i64 0, .int .i64 0, .int .i64 0, .int .i64 0, .int .i64 0, .int .i64 0, .int .i64 0]) QP.cls2 ⟨hA45.below ((Below.refl _ _).alloc (Nat.le_refl _) _), hnew⟩ ?_
                          clear hK K
                          try simp only [Act.put, List.setIfInBounds_toArray, List.set_cons_zero, List.set_cons_succ]
                          refine wpAnyU_ready (rs := [43]) (by kernel_rfl) (by simp) ?_
                          refine AllReadyU.cons (o := { dst := some 56, op := Op.call { callee := Callee.value (Operand.func 34), args := #[Operand.tmp 55], argTypes := #[96] }, type := 3, pos := "ref.go:150", after := #[{ on := 42, ground := Ground.data }, { on := 39, ground := Ground.chain }], guard := none }) rfl (fun wA43 hA43 K hK => ?_) AllReadyU.nil
                          go_simp
                          refine (q10 wA43 hA43.1).mono ?_
                          rintro e wn10 ⟨rfl, hn, hkn⟩
                          have ht10 := hA43.2.keptH hkn (fun e => HNE.out e)
                          refine hK.out _ _ (fun w9 => QPost 98 W g l (.slice av n cv) s11 w9 ∧ HT w9 ga 24 [.int .i64 0, .int .i64 0, .int .i64 0, .int .i64 0, .int .i64 0, .int .i64 0, .int .i64 0, .int .i64 0, .int .i64 0, .int .i64 0, .int .i64 0, .int .i64 0, .int .i64 0, .int .i64 0, .int .i64 0, .int .i64 0, .int .i64 0]) QP.cls2 ⟨hn, ht10⟩ ?_
                          clear hK K
                          try simp only [Act.put, List.setIfInBounds_toArray, List.set_cons_zero, List.set_cons_succ]
                          refine wpAnyU_take (i := 44) (oi := { dst := some 57, op := Op.build 24 #[(0, Operand.tmp 16), (1, Operand.tmp 20), (2, Operand.tmp 24), (3, Operand.tmp 28), (4, Operand.tmp 32), (5, Operand.tmp 36), (6, Operand.tmp 40), (7, Operand.tmp 44), (8, Operand.tmp 48), (9, Operand.tmp 52), (10, Operand.tmp 56)], type := 24, pos := "ref.go:150", after := #[{ on := 3, ground := Ground.data }, { on := 7, ground := Ground.data }, { on := 11, ground := Ground.data }, { on := 15, ground := Ground.data }, { on := 19, ground := Ground.data }, { on := 23, ground := Ground.data }, { on := 27, ground := Ground.data }, { on := 31, ground := Ground.data }, { on := 35, ground := Ground.data }, { on := 39, ground := Ground.data }, { on := 43, ground := Ground.data }], guard := none }) (v := (.agg #[.int .i64 y0, .int .i64 y1, .int .i64 y2, .int .i64 y3, .int .i64 y4, .int .i64 y5, .int .i64 y6, .int .i64 y7, .int .i64 y8, .int .i64 y9, .int .i64 y10, .int .i64 0, .int .i64 0, .int .i64 0, .int .i64 0, .int .i64 0, .int .i64 0])) rfl (by kernel_rfl) (by kernel_rfl) (by kernel_rfl) (by kernel_rfl) (by kernel_rfl) (fun _ _ _ h => h) QP.cls2 ?_ ?_
                          · refine Or.inl ⟨rfl, fun w hSw => ?_⟩
                            exact EffR.same (by go_simp)
                          try simp only [Act.put, List.setIfInBounds_toArray, List.set_cons_zero, List.set_cons_succ]
                          refine wpAnyU_last (o := { dst := none, op := Op.store 24 (Operand.tmp 5) (Operand.tmp 57), type := 0, pos := "ref.go:150", after := #[{ on := 45, ground := Ground.data }, { on := 44, ground := Ground.data }, { on := 43, ground := Ground.chain }, { on := 0, ground := Ground.phase }, { on := 1, ground := Ground.phase }, { on := 2, ground := Ground.phase }, { on := 3, ground := Ground.phase }, { on := 4, ground := Ground.phase }, { on := 5, ground := Ground.phase }, { on := 6, ground := Ground.phase }, { on := 7, ground := Ground.phase }, { on := 8, ground := Ground.phase }, { on := 9, ground := Ground.phase }, { on := 10, ground := Ground.phase }, { on := 11, ground := Ground.phase }, { on := 12, ground := Ground.phase }, { on := 13, ground := Ground.phase }, { on := 14, ground := Ground.phase }, { on := 15, ground := Ground.phase }, { on := 16, ground := Ground.phase }, { on := 17, ground := Ground.phase }, { on := 18, ground := Ground.phase }, { on := 19, ground := Ground.phase }, { on := 20, ground := Ground.phase }, { on := 21, ground := Ground.phase }, { on := 22, ground := Ground.phase }, { on := 23, ground := Ground.phase }, { on := 24, ground := Ground.phase }, { on := 25, ground := Ground.phase }, { on := 26, ground := Ground.phase }, { on := 27, ground := Ground.phase }, { on := 28, ground := Ground.phase }, { on := 29, ground := Ground.phase }, { on := 30, ground := Ground.phase }, { on := 31, ground := Ground.phase }, { on := 32, ground := Ground.phase }, { on := 33, ground := Ground.phase }, { on := 34, ground := Ground.phase }, { on := 35, ground := Ground.phase }, { on := 36, ground := Ground.phase }, { on := 37, ground := Ground.phase }, { on := 38, ground := Ground.phase }, { on := 39, ground := Ground.phase }, { on := 40, ground := Ground.phase }, { on := 41, ground := Ground.phase }, { on := 42, ground := Ground.phase }, { on := 43, ground := Ground.phase }, { on := 44, ground := Ground.phase }, { on := 45, ground := Ground.phase }], guard := none }) (by kernel_rfl) (by kernel_rfl) rfl (fun w1 hb1 K hK => ?_)
                          refine step_store_mid rfl 24 (.tmp 5) (.tmp 57) rfl ga 0 [.int .i64 y0, .int .i64 y1, .int .i64 y2, .int .i64 y3, .int .i64 y4, .int .i64 y5, .int .i64 y6, .int .i64 y7, .int .i64 y8, .int .i64 y9, .int .i64 y10, .int .i64 0, .int .i64 0, .int .i64 0, .int .i64 0, .int .i64 0, .int .i64 0] rfl rfl (fun j hj => ⟨hb1.2.isSome (by simpa using hj), hb1.2.frozen _⟩) (by rw [cmdSize]; rfl) (by simp [Value.oneCell']) ?_
                          have hput := hb1.2.puts (o := 0) (vs := [.int .i64 y0, .int .i64 y1, .int .i64 y2, .int .i64 y3, .int .i64 y4, .int .i64 y5, .int .i64 y6, .int .i64 y7, .int .i64 y8, .int .i64 y9, .int .i64 y10, .int .i64 0, .int .i64 0, .int .i64 0, .int .i64 0, .int .i64 0, .int .i64 0]) (by simp)
                          rw [splice_all (by simp)] at hput
                          have hk9 := setCells_kept ga [.int .i64 y0, .int .i64 y1, .int .i64 y2, .int .i64 y3, .int .i64 y4, .int .i64 y5, .int .i64 y6, .int .i64 y7, .int .i64 y8, .int .i64 y9, .int .i64 y10, .int .i64 0, .int .i64 0, .int .i64 0, .int .i64 0, .int .i64 0, .int .i64 0] 0 w1
                          have hq9 := hb1.1.kept hk9 (by have := HGW.out; have := HGG.out; omega) HGW.out
                          have HPUT := Lib.hid hput
                          have HQ9 := Lib.hid hq9
                          obtain ⟨w9, hw9⟩ : ∃ w9, w9 = w1.setCells ga 0 [.int .i64 y0, .int .i64 y1, .int .i64 y2, .int .i64 y3, .int .i64 y4, .int .i64 y5, .int .i64 y6, .int .i64 y7, .int .i64 y8, .int .i64 y9, .int .i64 y10, .int .i64 0, .int .i64 0, .int .i64 0, .int .i64 0, .int .i64 0, .int .i64 0] := ⟨_, rfl⟩
                          rw [← hw9] at HPUT HQ9 ⊢
                          clear hput hk9 hq9 hb1 hw9
                          refine hK.out _ _ ?_
                          clear hK K
                          try simp only [Act.put]
                          go_wp2_with fail
                          go_meet
                          exact ⟨ga, rfl, HPUT.out, HQ9.out, HGW.out, HNE.out⟩
                      · go_simp
                        have hga := hA45.lt
                        obtain ⟨ga, hgae⟩ : ∃ ga, ga = wA45.heap.size := ⟨_, rfl⟩
                        have HNE : Hid (ga ≠ g) := by show _ ≠ _; omega
                        have HGW : Hid (W.heap.size ≤ ga) := by have := hA45.size; show _ ≤ _; omega
                        have hnew : HT (wA45.alloc (.cells #[.int .i64 0, .int .i64 0, .int .i64 0, .int .i64 0, .int .i64 0, .int .i64 0, .int .i64 0, .int .i64 0, .int .i64 0, .int .i64 0, .int .i64 0, .int .i64 0, .int .i64 0, .int .i64 0, .int .i64 0, .int .i64 0, .int .i64 0] 24)) ga 24 [.int .i64 0, .int .i64 0, .int .i64 0, .int .i64 0, .int .i64 0, .int .i64 0, .int .i64 0, .int .i64 0, .int .i64 0, .int .i64 0, .int .i64 0, .int .i64 0, .int .i64 0, .int .i64 0, .int .i64 0, .int .i64 0, .int .i64 0] := by rw [hgae]; exact HT.new (w := wA45)
                        rw [← hgae]
                        clear hga hgae
                        refine hK.out _ _ (fun w9 => QPost 98 W g l (.slice av n cv) s9 w9 ∧ HT w9 ga 24 [.int .i64 0, .int .i64 0, .int .i64 0, .int .i64 0, .int .i64 0, .int .i64 0, .int .i64 0, .int .i64 0, .int .i64 0, .int .i64 0, .int .i64 0, .int .i64 0, .int .i64 0, .int .i64 0, .int .i64 0, .int .i64 0, .int .i64 0]) QP.cls2 ⟨hA45.below ((Below.refl _ _).alloc (Nat.le_refl _) _), hnew⟩ ?_
                        clear hK K
                        try simp only [Act.put, List.setIfInBounds_toArray, List.set_cons_zero, List.set_cons_succ]
                        refine wpAnyU_ready (rs := [39]) (by kernel_rfl) (by simp) ?_
                        refine AllReadyU.cons (o := { dst := some 52, op := Op.call { callee := Callee.value (Operand.func 34), args := #[Operand.tmp 51], argTypes := #[96] }, type := 3, pos := "ref.go:150", after := #[{ on := 38, ground := Ground.data }, { on := 35, ground := Ground.chain }], guard := none }) rfl (fun wA39 hA39 K hK => ?_) AllReadyU.nil
                        go_simp
                        refine (q9 wA39 hA39.1).mono ?_
                        rintro e wn9 ⟨rfl, hn, hkn⟩
                        have ht9 := hA39.2.keptH hkn (fun e => HNE.out e)
                        refine hK.out _ _ (fun w9 => QPost 98 W g l (.slice av n cv) s10 w9 ∧ HT w9 ga 24 [.int .i64 0, .int .i64 0, .int .i64 0, .int .i64 0, .int .i64 0, .int .i64 0, .int .i64 0, .int .i64 0, .int .i64 0, .int .i64 0, .int .i64 0, .int .i64 0, .int .i64 0, .int .i64 0, .int .i64 0, .int .i64 0, .int .i64 0]) QP.cls2 ⟨hn, ht9⟩ ?_
                        clear hK K
                        try simp only [Act.put, List.setIfInBounds_toArray, List.set_cons_zero, List.set_cons_succ]
                        refine wpAnyU_ready (rs := [43]) (by kernel_rfl) (by simp) ?_
                        refine AllReadyU.cons (o := { dst := some 56, op := Op.call { callee := Callee.value (Operand.func 34), args := #[Operand.tmp 55], argTypes := #[96] }, type := 3, pos := "ref.go:150", after := #[{ on := 42, ground := Ground.data }, { on := 39, ground := Ground.chain }], guard := none }) rfl (fun wA43 hA43 K hK => ?_) AllReadyU.nil
                        go_simp
                        refine (q10 wA43 hA43.1).mono ?_
                        rintro e wn10 ⟨rfl, hn, hkn⟩
                        have ht10 := hA43.2.keptH hkn (fun e => HNE.out e)
                        refine hK.out _ _ (fun w9 => QPost 98 W g l (.slice av n cv) s11 w9 ∧ HT w9 ga 24 [.int .i64 0, .int .i64 0, .int .i64 0, .int .i64 0, .int .i64 0, .int .i64 0, .int .i64 0, .int .i64 0, .int .i64 0, .int .i64 0, .int .i64 0, .int .i64 0, .int .i64 0, .int .i64 0, .int .i64 0, .int .i64 0, .int .i64 0]) QP.cls2 ⟨hn, ht10⟩ ?_
                        clear hK K
                        try simp only [Act.put, List.setIfInBounds_toArray, List.set_cons_zero, List.set_cons_succ]
                        refine wpAnyU_take (i := 44) (oi := { dst := some 57, op := Op.build 24 #[(0, Operand.tmp 16), (1, Operand.tmp 20), (2, Operand.tmp 24), (3, Operand.tmp 28), (4, Operand.tmp 32), (5, Operand.tmp 36), (6, Operand.tmp 40), (7, Operand.tmp 44), (8, Operand.tmp 48), (9, Operand.tmp 52), (10, Operand.tmp 56)], type := 24, pos := "ref.go:150", after := #[{ on := 3, ground := Ground.data }, { on := 7, ground := Ground.data }, { on := 11, ground := Ground.data }, { on := 15, ground := Ground.data }, { on := 19, ground := Ground.data }, { on := 23, ground := Ground.data }, { on := 27, ground := Ground.data }, { on := 31, ground := Ground.data }, { on := 35, ground := Ground.data }, { on := 39, ground := Ground.data }, { on := 43, ground := Ground.data }], guard := none }) (v := (.agg #[.int .i64 y0, .int .i64 y1, .int .i64 y2, .int .i64 y3, .int .i64 y4, .int .i64 y5, .int .i64 y6, .int .i64 y7, .int .i64 y8, .int .i64 y9, .int .i64 y10, .int .i64 0, .int .i64 0, .int .i64 0, .int .i64 0, .int .i64 0, .int .i64 0])) rfl (by kernel_rfl) (by kernel_rfl) (by kernel_rfl) (by kernel_rfl) (by kernel_rfl) (fun _ _ _ h => h) QP.cls2 ?_ ?_
                        · refine Or.inl ⟨rfl, fun w hSw => ?_⟩
                          exact EffR.same (by go_simp)
                        try simp only [Act.put, List.setIfInBounds_toArray, List.set_cons_zero, List.set_cons_succ]
                        refine wpAnyU_last (o := { dst := none, op := Op.store 24 (Operand.tmp 5) (Operand.tmp 57), type := 0, pos := "ref.go:150", after := #[{ on := 45, ground := Ground.data }, { on := 44, ground := Ground.data }, { on := 43, ground := Ground.chain }, { on := 0, ground := Ground.phase }, { on := 1, ground := Ground.phase }, { on := 2, ground := Ground.phase }, { on := 3, ground := Ground.phase }, { on := 4, ground := Ground.phase }, { on := 5, ground := Ground.phase }, { on := 6, ground := Ground.phase }, { on := 7, ground := Ground.phase }, { on := 8, ground := Ground.phase }, { on := 9, ground := Ground.phase }, { on := 10, ground := Ground.phase }, { on := 11, ground := Ground.phase }, { on := 12, ground := Ground.phase }, { on := 13, ground := Ground.phase }, { on := 14, ground := Ground.phase }, { on := 15, ground := Ground.phase }, { on := 16, ground := Ground.phase }, { on := 17, ground := Ground.phase }, { on := 18, ground := Ground.phase }, { on := 19, ground := Ground.phase }, { on := 20, ground := Ground.phase }, { on := 21, ground := Ground.phase }, { on := 22, ground := Ground.phase }, { on := 23, ground := Ground.phase }, { on := 24, ground := Ground.phase }, { on := 25, ground := Ground.phase }, { on := 26, ground := Ground.phase }, { on := 27, ground := Ground.phase }, { on := 28, ground := Ground.phase }, { on := 29, ground := Ground.phase }, { on := 30, ground := Ground.phase }, { on := 31, ground := Ground.phase }, { on := 32, ground := Ground.phase }, { on := 33, ground := Ground.phase }, { on := 34, ground := Ground.phase }, { on := 35, ground := Ground.phase }, { on := 36, ground := Ground.phase }, { on := 37, ground := Ground.phase }, { on := 38, ground := Ground.phase }, { on := 39, ground := Ground.phase }, { on := 40, ground := Ground.phase }, { on := 41, ground := Ground.phase }, { on := 42, ground := Ground.phase }, { on := 43, ground := Ground.phase }, { on := 44, ground := Ground.phase }, { on := 45, ground := Ground.phase }], guard := none }) (by kernel_rfl) (by kernel_rfl) rfl (fun w1 hb1 K hK => ?_)
                        refine step_store_mid rfl 24 (.tmp 5) (.tmp 57) rfl ga 0 [.int .i64 y0, .int .i64 y1, .int .i64 y2, .int .i64 y3, .int .i64 y4, .int .i64 y5, .int .i64 y6, .int .i64 y7, .int .i64 y8, .int .i64 y9, .int .i64 y10, .int .i64 0, .int .i64 0, .int .i64 0, .int .i64 0, .int .i64 0, .int .i64 0] rfl rfl (fun j hj => ⟨hb1.2.isSome (by simpa using hj), hb1.2.frozen _⟩) (by rw [cmdSize]; rfl) (by simp [Value.oneCell']) ?_
                        have hput := hb1.2.puts (o := 0) (vs := [.int .i64 y0, .int .i64 y1, .int .i64 y2, .int .i64 y3, .int .i64 y4, .int .i64 y5, .int .i64 y6, .int .i64 y7, .int .i64 y8, .int .i64 y9, .int .i64 y10, .int .i64 0, .int .i64 0, .int .i64 0, .int .i64 0, .int .i64 0, .int .i64 0]) (by simp)
                        rw [splice_all (by simp)] at hput
                        have hk9 := setCells_kept ga [.int .i64 y0, .int .i64 y1, .int .i64 y2, .int .i64 y3, .int .i64 y4, .int .i64 y5, .int .i64 y6, .int .i64 y7, .int .i64 y8, .int .i64 y9, .int .i64 y10, .int .i64 0, .int .i64 0, .int .i64 0, .int .i64 0, .int .i64 0, .int .i64 0] 0 w1
                        have hq9 := hb1.1.kept hk9 (by have := HGW.out; have := HGG.out; omega) HGW.out
                        have HPUT := Lib.hid hput
                        have HQ9 := Lib.hid hq9
                        obtain ⟨w9, hw9⟩ : ∃ w9, w9 = w1.setCells ga 0 [.int .i64 y0, .int .i64 y1, .int .i64 y2, .int .i64 y3, .int .i64 y4, .int .i64 y5, .int .i64 y6, .int .i64 y7, .int .i64 y8, .int .i64 y9, .int .i64 y10, .int .i64 0, .int .i64 0, .int .i64 0, .int .i64 0, .int .i64 0, .int .i64 0] := ⟨_, rfl⟩
                        rw [← hw9] at HPUT HQ9 ⊢
                        clear hput hk9 hq9 hb1 hw9
                        refine hK.out _ _ ?_
                        clear hK K
                        try simp only [Act.put]
                        go_wp2_with fail
                        go_meet
                        exact ⟨ga, rfl, HPUT.out, HQ9.out, HGW.out, HNE.out⟩
                    · go_simp
                      have hga := hA45.lt
                      obtain ⟨ga, hgae⟩ : ∃ ga, ga = wA45.heap.size := ⟨_, rfl⟩
                      have HNE : Hid (ga ≠ g) := by show _ ≠ _; omega
                      have HGW : Hid (W.heap.size ≤ ga) := by have := hA45.size; show _ ≤ _; omega
                      have hnew : HT (wA45.alloc (.cells #[.int .i64 0, .int .i64 0, .int .i64 0, .int .i64 0, .int .i64 0, .int .i64 0, .int .i64 0, .int .i64 0, .int .i64 0, .int .i64 0, .int .i64 0, .int .i64 0, .int .i64 0, .int .i64 0, .int .i64 0, .int .i64 0, .int .i64 0] 24)) ga 24 [.int .i64 0, .int .i64 0, .int .i64 0, .int .i64 0, .int .i64 0, .int .i64 0, .int .i64 0, .int .i64 0, .int .i64 0, .int .i64 0, .int .i64 0, .int .i64 0, .int .i64 0, .int .i64 0, .int .i64 0, .int .i64 0, .int .i64 0] := by rw [hgae]; exact HT.new (w := wA45)
                      rw [← hgae]
                      clear hga hgae
                      refine hK.out _ _ (fun w9 => QPost 98 W g l (.slice av n cv) s8 w9 ∧ HT w9 ga 24 [.int .i64 0, .int .i64 0, .int .i64 0, .int .i64 0, .int .i64 0, .int .i64 0, .int .i64 0, .int .i64 0, .int .i64 0, .int .i64 0, .int .i64 0, .int .i64 0, .int .i64 0, .int .i64 0, .int .i64 0, .int .i64 0, .int .i64 0]) QP.cls2 ⟨hA45.below ((Below.refl _ _).alloc (Nat.le_refl _) _), hnew⟩ ?_
                      clear hK K
                      try simp only [Act.put, List.setIfInBounds_toArray, List.set_cons_zero, List.set_cons_succ]
                      refine wpAnyU_ready (rs := [35]) (by kernel_rfl) (by simp) ?_
                      refine AllReadyU.cons (o := { dst := some 48, op := Op.call { callee := Callee.value (Operand.func 34), args := #[Operand.tmp 47], argTypes := #[96] }, type := 3, pos := "ref.go:150", after := #[{ on := 34, ground := Ground.data }, { on := 31, ground := Ground.chain }], guard := none }) rfl (fun wA35 hA35 K hK => ?_) AllReadyU.nil
                      go_simp
                      refine (q8 wA35 hA35.1).mono ?_
                      rintro e wn8 ⟨rfl, hn, hkn⟩
                      have ht8 := hA35.2.keptH hkn (fun e => HNE.out e)
                      refine hK.out _ _ (fun w9 => QPost 98 W g l (.slice av n cv) s9 w9 ∧ HT w9 ga 24 [.int .i64 0, .int .i64 0, .int .i64 0, .int .i64 0, .int .i64 0, .int .i64 0, .int .i64 0, .int .i64 0, .int .i64 0, .int .i64 0, .int .i64 0, .int .i64 0, .int .i64 0, .int .i64 0, .int .i64 0, .int .i64 0, .int .i64 0]) QP.cls2 ⟨hn, ht8⟩ ?_
                      clear hK K
                      try simp only [Act.put, List.setIfInBounds_toArray, List.set_cons_zero, List.set_cons_succ]
                      refine wpAnyU_ready (rs := [39]) (by kernel_rfl) (by simp) ?_
                      refine AllReadyU.cons (o := { dst := some 52, op := Op.call { callee := Callee.value (Operand.func 34), args := #[Operand.tmp 51], argTypes := #[96] }, type := 3, pos := "ref.go:150", after := #[{ on := 38, ground := Ground.data }, { on := 35, ground := Ground.chain }], guard := none }) rfl (fun wA39 hA39 K hK => ?_) AllReadyU.nil
                      go_simp
                      refine (q9 wA39 hA39.1).mono ?_
                      rintro e wn9 ⟨rfl, hn, hkn⟩
                      have ht9 := hA39.2.keptH hkn (fun e => HNE.out e)
                      refine hK.out _ _ (fun w9 => QPost 98 W g l (.slice av n cv) s10 w9 ∧ HT w9 ga 24 [.int .i64 0, .int .i64 0, .int .i64 0, .int .i64 0, .int .i64 0, .int .i64 0, .int .i64 0, .int .i64 0, .int .i64 0, .int .i64 0, .int .i64 0, .int .i64 0, .int .i64 0, .int .i64 0, .int .i64 0, .int .i64 0, .int .i64 0]) QP.cls2 ⟨hn, ht9⟩ ?_
                      clear hK K
                      try simp only [Act.put, List.setIfInBounds_toArray, List.set_cons_zero, List.set_cons_succ]
                      refine wpAnyU_ready (rs := [43]) (by kernel_rfl) (by simp) ?_
                      refine AllReadyU.cons (o := { dst := some 56, op := Op.call { callee := Callee.value (Operand.func 34), args := #[Operand.tmp 55], argTypes := #[96] }, type := 3, pos := "ref.go:150", after := #[{ on := 42, ground := Ground.data }, { on := 39, ground := Ground.chain }], guard := none }) rfl (fun wA43 hA43 K hK => ?_) AllReadyU.nil
                      go_simp
                      refine (q10 wA43 hA43.1).mono ?_
                      rintro e wn10 ⟨rfl, hn, hkn⟩
                      have ht10 := hA43.2.keptH hkn (fun e => HNE.out e)
                      refine hK.out _ _ (fun w9 => QPost 98 W g l (.slice av n cv) s11 w9 ∧ HT w9 ga 24 [.int .i64 0, .int .i64 0, .int .i64 0, .int .i64 0, .int .i64 0, .int .i64 0, .int .i64 0, .int .i64 0, .int .i64 0, .int .i64 0, .int .i64 0, .int .i64 0, .int .i64 0, .int .i64 0, .int .i64 0, .int .i64 0, .int .i64 0]) QP.cls2 ⟨hn, ht10⟩ ?_
                      clear hK K
                      try simp only [Act.put, List.setIfInBounds_toArray, List.set_cons_zero, List.set_cons_succ]
                      refine wpAnyU_take (i := 44) (oi := { dst := some 57, op := Op.build 24 #[(0, Operand.tmp 16), (1, Operand.tmp 20), (2, Operand.tmp 24), (3, Operand.tmp 28), (4, Operand.tmp 32), (5, Operand.tmp 36), (6, Operand.tmp 40), (7, Operand.tmp 44), (8, Operand.tmp 48), (9, Operand.tmp 52), (10, Operand.tmp 56)], type := 24, pos := "ref.go:150", after := #[{ on := 3, ground := Ground.data }, { on := 7, ground := Ground.data }, { on := 11, ground := Ground.data }, { on := 15, ground := Ground.data }, { on := 19, ground := Ground.data }, { on := 23, ground := Ground.data }, { on := 27, ground := Ground.data }, { on := 31, ground := Ground.data }, { on := 35, ground := Ground.data }, { on := 39, ground := Ground.data }, { on := 43, ground := Ground.data }], guard := none }) (v := (.agg #[.int .i64 y0, .int .i64 y1, .int .i64 y2, .int .i64 y3, .int .i64 y4, .int .i64 y5, .int .i64 y6, .int .i64 y7, .int .i64 y8, .int .i64 y9, .int .i64 y10, .int .i64 0, .int .i64 0, .int .i64 0, .int .i64 0, .int .i64 0, .int .i64 0])) rfl (by kernel_rfl) (by kernel_rfl) (by kernel_rfl) (by kernel_rfl) (by kernel_rfl) (fun _ _ _ h => h) QP.cls2 ?_ ?_
                      · refine Or.inl ⟨rfl, fun w hSw => ?_⟩
                        exact EffR.same (by go_simp)
                      try simp only [Act.put, List.setIfInBounds_toArray, List.set_cons_zero, List.set_cons_succ]
                      refine wpAnyU_last (o := { dst := none, op := Op.store 24 (Operand.tmp 5) (Operand.tmp 57), type := 0, pos := "ref.go:150", after := #[{ on := 45, ground := Ground.data }, { on := 44, ground := Ground.data }, { on := 43, ground := Ground.chain }, { on := 0, ground := Ground.phase }, { on := 1, ground := Ground.phase }, { on := 2, ground := Ground.phase }, { on := 3, ground := Ground.phase }, { on := 4, ground := Ground.phase }, { on := 5, ground := Ground.phase }, { on := 6, ground := Ground.phase }, { on := 7, ground := Ground.phase }, { on := 8, ground := Ground.phase }, { on := 9, ground := Ground.phase }, { on := 10, ground := Ground.phase }, { on := 11, ground := Ground.phase }, { on := 12, ground := Ground.phase }, { on := 13, ground := Ground.phase }, { on := 14, ground := Ground.phase }, { on := 15, ground := Ground.phase }, { on := 16, ground := Ground.phase }, { on := 17, ground := Ground.phase }, { on := 18, ground := Ground.phase }, { on := 19, ground := Ground.phase }, { on := 20, ground := Ground.phase }, { on := 21, ground := Ground.phase }, { on := 22, ground := Ground.phase }, { on := 23, ground := Ground.phase }, { on := 24, ground := Ground.phase }, { on := 25, ground := Ground.phase }, { on := 26, ground := Ground.phase }, { on := 27, ground := Ground.phase }, { on := 28, ground := Ground.phase }, { on := 29, ground := Ground.phase }, { on := 30, ground := Ground.phase }, { on := 31, ground := Ground.phase }, { on := 32, ground := Ground.phase }, { on := 33, ground := Ground.phase }, { on := 34, ground := Ground.phase }, { on := 35, ground := Ground.phase }, { on := 36, ground := Ground.phase }, { on := 37, ground := Ground.phase }, { on := 38, ground := Ground.phase }, { on := 39, ground := Ground.phase }, { on := 40, ground := Ground.phase }, { on := 41, ground := Ground.phase }, { on := 42, ground := Ground.phase }, { on := 43, ground := Ground.phase }, { on := 44, ground := Ground.phase }, { on := 45, ground := Ground.phase }], guard := none }) (by kernel_rfl) (by kernel_rfl) rfl (fun w1 hb1 K hK => ?_)
                      refine step_store_mid rfl 24 (.tmp 5) (.tmp 57) rfl ga 0 [.int .i64 y0, .int .i64 y1, .int .i64 y2, .int .i64 y3, .int .i64 y4, .int .i64 y5, .int .i64 y6, .int .i64 y7, .int .i64 y8, .int .i64 y9, .int .i64 y10, .int .i64 0, .int .i64 0, .int .i64 0, .int .i64 0, .int .i64 0, .int .i64 0] rfl rfl (fun j hj => ⟨hb1.2.isSome (by simpa using hj), hb1.2.frozen _⟩) (by rw [cmdSize]; rfl) (by simp [Value.oneCell']) ?_
                      have hput := hb1.2.puts (o := 0) (vs := [.int .i64 y0, .int .i64 y1, .int .i64 y2, .int .i64 y3, .int .i64 y4, .int .i64 y5, .int .i64 y6, .int .i64 y7, .int .i64 y8, .int .i64 y9, .int .i64 y10, .int .i64 0, .int .i64 0, .int .i64 0, .int .i64 0, .int .i64 0, .int .i64 0]) (by simp)
                      rw [splice_all (by simp)] at hput
                      have hk9 := setCells_kept ga [.int .i64 y0, .int .i64 y1, .int .i64 y2, .int .i64 y3, .int .i64 y4, .int .i64 y5, .int .i64 y6, .int .i64 y7, .int .i64 y8, .int .i64 y9, .int .i64 y10, .int .i64 0, .int .i64 0, .int .i64 0, .int .i64 0, .int .i64 0, .int .i64 0] 0 w1
                      have hq9 := hb1.1.kept hk9 (by have := HGW.out; have := HGG.out; omega) HGW.out
                      have HPUT := Lib.hid hput
                      have HQ9 := Lib.hid hq9
                      obtain ⟨w9, hw9⟩ : ∃ w9, w9 = w1.setCells ga 0 [.int .i64 y0, .int .i64 y1, .int .i64 y2, .int .i64 y3, .int .i64 y4, .int .i64 y5, .int .i64 y6, .int .i64 y7, .int .i64 y8, .int .i64 y9, .int .i64 y10, .int .i64 0, .int .i64 0, .int .i64 0, .int .i64 0, .int .i64 0, .int .i64 0] := ⟨_, rfl⟩
                      rw [← hw9] at HPUT HQ9 ⊢
                      clear hput hk9 hq9 hb1 hw9
                      refine hK.out _ _ ?_
                      clear hK K
                      try simp only [Act.put]
                      go_wp2_with fail
                      go_meet
                      exact ⟨ga, rfl, HPUT.out, HQ9.out, HGW.out, HNE.out⟩
                  · go_simp
                    have hga := hA45.lt
                    obtain ⟨ga, hgae⟩ : ∃ ga, ga = wA45.heap.size := ⟨_, rfl⟩
                    have HNE : Hid (ga ≠ g) := by show _ ≠ _; omega
                    have HGW : Hid (W.heap.size ≤ ga) := by have := hA45.size; show _ ≤ _; omega
                    have hnew : HT (wA45.alloc (.cells #[.int .i64 0, .int .i64 0, .int .i64 0, .int .i64 0, .int .i64 0, .int .i64 0, .int .i64 0, .int .i64 0, .int .i64 0, .int .i64 0, .int .i64 0, .int .i64 0, .int .i64 0, .int .i64 0, .int .i64 0, .int .i64 0, .int .i64 0] 24)) ga 24 [.int .i64 0, .int .i64 0, .int .i64 0, .int .i64 0, .int .i64 0, .int .i64 0, .int .i64 0, .int .i64 0, .int .i64 0, .int .i64 0, .int .i64 0, .int .i64 0, .int .i64 0, .int .i64 0, .int .i64 0, .int .i64 0, .int .i64 0] := by rw [hgae]; exact HT.new (w := wA45)
                    rw [← hgae]
                    clear hga hgae
                    refine hK.out _ _ (fun w9 => QPost 98 W g l (.slice av n cv) s7 w9 ∧ HT w9 ga 24 [.int .i64 0, .int .i64 0, .int .i64 0, .int .i64 0, .int .i64 0, .int .i64 0, .int .i64 0, .int .i64 0, .int .i64 0, .int .i64 0, .int .i64 0, .int .i64 0, .int .i64 0, .int .i64 0, .int .i64 0, .int .i64 0, .int .i64 0]) QP.cls2 ⟨hA45.below ((Below.refl _ _).alloc (Nat.le_refl _) _), hnew⟩ ?_
                    clear hK K
                    try simp only [Act.put, List.setIfInBounds_toArray, List.set_cons_zero, List.set_cons_succ]
                    refine wpAnyU_ready (rs := [31]) (by kernel_rfl) (by simp) ?_
                    refine AllReadyU.cons (o := { dst := some 44, op := Op.call { callee := Callee.value (Operand.func 34), args := #[Operand.tmp 43], argTypes := #[96] }, type := 3, pos := "ref.go:150", after := #[{ on := 30, ground := Ground.data }, { on := 27, ground := Ground.chain }], guard := none }) rfl (fun wA31 hA31 K hK => ?_) AllReadyU.nil
                    go_simp
                    refine (q7 wA31 hA31.1).mono ?_
                    rintro e wn7 ⟨rfl, hn, hkn⟩
                    have ht7 := hA31.2.keptH hkn (fun e => HNE.out e)
                    refine hK.out _ _ (fun w9 => QPost 98 W g l (.slice av n cv) s8 w9 ∧ HT w9 ga 24 [.int .i64 0, .int .i64 0, .int .i64 0, .int .i64 0, .int .i64 0, .int .i64 0, .int .i64 0, .int .i64 0, .int .i64 0, .int .i64 0, .int .i64 0, .int .i64 0, .int .i64 0, .int .i64 0, .int .i64 0, .int .i64 0, .int .i64 0]) QP.cls2 ⟨hn, ht7⟩ ?_
                    clear hK K
                    try simp only [Act.put, List.setIfInBounds_toArray, List.set_cons_zero, List.set_cons_succ]
                    refine wpAnyU_ready (rs := [35]) (by kernel_rfl) (by simp) ?_
                    refine AllReadyU.cons (o := { dst := some 48, op := Op.call { callee := Callee.value (Operand.func 34), args := #[Operand.tmp 47], argTypes := #[96] }, type := 3, pos := "ref.go:150", after := #[{ on := 34, ground := Ground.data }, { on := 31, ground := Ground.chain }], guard := none }) rfl (fun wA35 hA35 K hK => ?_) AllReadyU.nil
                    go_simp
                    refine (q8 wA35 hA35.1).mono ?_
                    rintro e wn8 ⟨rfl, hn, hkn⟩
                    have ht8 := hA35.2.keptH hkn (fun e => HNE.out e)
                    refine hK.out _ _ (fun w9 => QPost 98 W g l (.slice av n cv) s9 w9 ∧ HT w9 ga 24 [.int .i64 0, .int .i64 0, .int .i64 0, .int .i64 0, .int .i64 0, .int .i64 0, .int .i64 0, .int .i64 0, .int .i64 0, .int .i64 0, .int .i64 0, .int .i64 0, .int .i64 0, .int .i64 0, .int .i64 0, .int .i64 0, .int .i64 0]) QP.cls2 ⟨hn, ht8⟩ ?_
                    clear hK K
                    try simp only [Act.put, List.setIfInBounds_toArray, List.set_cons_zero, List.set_cons_succ]
                    refine wpAnyU_ready (rs := [39]) (by kernel_rfl) (by simp) ?_
                    refine AllReadyU.cons (o := { dst := some 52, op := Op.call { callee := Callee.value (Operand.func 34), args := #[Operand.tmp 51], argTypes := #[96] }, type := 3, pos := "ref.go:150", after := #[{ on := 38, ground := Ground.data }, { on := 35, ground := Ground.chain }], guard := none }) rfl (fun wA39 hA39 K hK => ?_) AllReadyU.nil
                    go_simp
                    refine (q9 wA39 hA39.1).mono ?_
                    rintro e wn9 ⟨rfl, hn, hkn⟩
                    have ht9 := hA39.2.keptH hkn (fun e => HNE.out e)
                    refine hK.out _ _ (fun w9 => QPost 98 W g l (.slice av n cv) s10 w9 ∧ HT w9 ga 24 [.int .i64 0, .int .i64 0, .int .i64 0, .int .i64 0, .int .i64 0, .int .i64 0, .int .i64 0, .int .i64 0, .int .i64 0, .int .i64 0, .int .i64 0, .int .i64 0, .int .i64 0, .int .i64 0, .int .i64 0, .int .i64 0, .int .i64 0]) QP.cls2 ⟨hn, ht9⟩ ?_
                    clear hK K
                    try simp only [Act.put, List.setIfInBounds_toArray, List.set_cons_zero, List.set_cons_succ]
                    refine wpAnyU_ready (rs := [43]) (by kernel_rfl) (by simp) ?_
                    refine AllReadyU.cons (o := { dst := some 56, op := Op.call { callee := Callee.value (Operand.func 34), args := #[Operand.tmp 55], argTypes := #[96] }, type := 3, pos := "ref.go:150", after := #[{ on := 42, ground := Ground.data }, { on := 39, ground := Ground.chain }], guard := none }) rfl (fun wA43 hA43 K hK => ?_) AllReadyU.nil
                    go_simp
                    refine (q10 wA43 hA43.1).mono ?_
                    rintro e wn10 ⟨rfl, hn, hkn⟩
                    have ht10 := hA43.2.keptH hkn (fun e => HNE.out e)
                    refine hK.out _ _ (fun w9 => QPost 98 W g l (.slice av n cv) s11 w9 ∧ HT w9 ga 24 [.int .i64 0, .int .i64 0, .int .i64 0, .int .i64 0, .int .i64 0, .int .i64 0, .int .i64 0, .int .i64 0, .int .i64 0, .int .i64 0, .int .i64 0, .int .i64 0, .int .i64 0, .int .i64 0, .int .i64 0, .int .i64 0, .int .i64 0]) QP.cls2 ⟨hn, ht10⟩ ?_
                    clear hK K
                    try simp only [Act.put, List.setIfInBounds_toArray, List.set_cons_zero, List.set_cons_succ]
                    refine wpAnyU_take (i := 44) (oi := { dst := some 57, op := Op.build 24 #[(0, Operand.tmp 16), (1, Operand.tmp 20), (2, Operand.tmp 24), (3, Operand.tmp 28), (4, Operand.tmp 32), (5, Operand.tmp 36), (6, Operand.tmp 40), (7, Operand.tmp 44), (8, Operand.tmp 48), (9, Operand.tmp 52), (10, Operand.tmp 56)], type := 24, pos := "ref.go:150", after := #[{ on := 3, ground := Ground.data }, { on := 7, ground := Ground.data }, { on := 11, ground := Ground.data }, { on := 15, ground := Ground.data }, { on := 19, ground := Ground.data }, { on := 23, ground := Ground.data }, { on := 27, ground := Ground.data }, { on := 31, ground := Ground.data }, { on := 35, ground := Ground.data }, { on := 39, ground := Ground.data }, { on := 43, ground := Ground.data }], guard := none }) (v := (.agg #[.int .i64 y0, .int .i64 y1, .int .i64 y2, .int .i64 y3, .int .i64 y4, .int .i64 y5, .int .i64 y6, .int .i64 y7, .int .i64 y8, .int .i64 y9, .int .i64 y10, .int .i64 0, .int .i64 0, .int .i64 0, .int .i64 0, .int .i64 0, .int .i64 0])) rfl (by kernel_rfl) (by kernel_rfl) (by kernel_rfl) (by kernel_rfl) (by kernel_rfl) (fun _ _ _ h => h) QP.cls2 ?_ ?_
                    · refine Or.inl ⟨rfl, fun w hSw => ?_⟩
                      exact EffR.same (by go_simp)
                    try simp only [Act.put, List.setIfInBounds_toArray, List.set_cons_zero, List.set_cons_succ]
                    refine wpAnyU_last (o := { dst := none, op := Op.store 24 (Operand.tmp 5) (Operand.tmp 57), type := 0, pos := "ref.go:150", after := #[{ on := 45, ground := Ground.data }, { on := 44, ground := Ground.data }, { on := 43, ground := Ground.chain }, { on := 0, ground := Ground.phase }, { on := 1, ground := Ground.phase }, { on := 2, ground := Ground.phase }, { on := 3, ground := Ground.phase }, { on := 4, ground := Ground.phase }, { on := 5, ground := Ground.phase }, { on := 6, ground := Ground.phase }, { on := 7, ground := Ground.phase }, { on := 8, ground := Ground.phase }, { on := 9, ground := Ground.phase }, { on := 10, ground := Ground.phase }, { on := 11, ground := Ground.phase }, { on := 12, ground := Ground.phase }, { on := 13, ground := Ground.phase }, { on := 14, ground := Ground.phase }, { on := 15, ground := Ground.phase }, { on := 16, ground := Ground.phase }, { on := 17, ground := Ground.phase }, { on := 18, ground := Ground.phase }, { on := 19, ground := Ground.phase }, { on := 20, ground := Ground.phase }, { on := 21, ground := Ground.phase }, { on := 22, ground := Ground.phase }, { on := 23, ground := Ground.phase }, { on := 24, ground := Ground.phase }, { on := 25, ground := Ground.phase }, { on := 26, ground := Ground.phase }, { on := 27, ground := Ground.phase }, { on := 28, ground := Ground.phase }, { on := 29, ground := Ground.phase }, { on := 30, ground := Ground.phase }, { on := 31, ground := Ground.phase }, { on := 32, ground := Ground.phase }, { on := 33, ground := Ground.phase }, { on := 34, ground := Ground.phase }, { on := 35, ground := Ground.phase }, { on := 36, ground := Ground.phase }, { on := 37, ground := Ground.phase }, { on := 38, ground := Ground.phase }, { on := 39, ground := Ground.phase }, { on := 40, ground := Ground.phase }, { on := 41, ground := Ground.phase }, { on := 42, ground := Ground.phase }, { on := 43, ground := Ground.phase }, { on := 44, ground := Ground.phase }, { on := 45, ground := Ground.phase }], guard := none }) (by kernel_rfl) (by kernel_rfl) rfl (fun w1 hb1 K hK => ?_)
                    refine step_store_mid rfl 24 (.tmp 5) (.tmp 57) rfl ga 0 [.int .i64 y0, .int .i64 y1, .int .i64 y2, .int .i64 y3, .int .i64 y4, .int .i64 y5, .int .i64 y6, .int .i64 y7, .int .i64 y8, .int .i64 y9, .int .i64 y10, .int .i64 0, .int .i64 0, .int .i64 0, .int .i64 0, .int .i64 0, .int .i64 0] rfl rfl (fun j hj => ⟨hb1.2.isSome (by simpa using hj), hb1.2.frozen _⟩) (by rw [cmdSize]; rfl) (by simp [Value.oneCell']) ?_
                    have hput := hb1.2.puts (o := 0) (vs := [.int .i64 y0, .int .i64 y1, .int .i64 y2, .int .i64 y3, .int .i64 y4, .int .i64 y5, .int .i64 y6, .int .i64 y7, .int .i64 y8, .int .i64 y9, .int .i64 y10, .int .i64 0, .int .i64 0, .int .i64 0, .int .i64 0, .int .i64 0, .int .i64 0]) (by simp)
                    rw [splice_all (by simp)] at hput
                    have hk9 := setCells_kept ga [.int .i64 y0, .int .i64 y1, .int .i64 y2, .int .i64 y3, .int .i64 y4, .int .i64 y5, .int .i64 y6, .int .i64 y7, .int .i64 y8, .int .i64 y9, .int .i64 y10, .int .i64 0, .int .i64 0, .int .i64 0, .int .i64 0, .int .i64 0, .int .i64 0] 0 w1
                    have hq9 := hb1.1.kept hk9 (by have := HGW.out; have := HGG.out; omega) HGW.out
                    have HPUT := Lib.hid hput
                    have HQ9 := Lib.hid hq9
                    obtain ⟨w9, hw9⟩ : ∃ w9, w9 = w1.setCells ga 0 [.int .i64 y0, .int .i64 y1, .int .i64 y2, .int .i64 y3, .int .i64 y4, .int .i64 y5, .int .i64 y6, .int .i64 y7, .int .i64 y8, .int .i64 y9, .int .i64 y10, .int .i64 0, .int .i64 0, .int .i64 0, .int .i64 0, .int .i64 0, .int .i64 0] := ⟨_, rfl⟩
                    rw [← hw9] at HPUT HQ9 ⊢
                    clear hput hk9 hq9 hb1 hw9
                    refine hK.out _ _ ?_
                    clear hK K
                    try simp only [Act.put]
                    go_wp2_with fail
                    go_meet
                    exact ⟨ga, rfl, HPUT.out, HQ9.out, HGW.out, HNE.out⟩
                · go_simp
                  have hga := hA45.lt
                  obtain ⟨ga, hgae⟩ : ∃ ga, ga = wA45.heap.size := ⟨_, rfl⟩
                  have HNE : Hid (ga ≠ g) := by show _ ≠ _; omega
                  have HGW : Hid (W.heap.size ≤ ga) := by have := hA45.size; show _ ≤ _; omega
                  have hnew : HT (wA45.alloc (.cells #[.int .i64 0, .int .i64 0, .int .i64 0, .int .i64 0, .int .i64 0, .int .i64 0, .int .i64 0, .int .i64 0, .int .i64 0, .int .i64 0, .int .i64 0, .int .i64 0, .int .i64 0, .int .i64 0, .int .i64 0, .int .i64 0, .int .i64 0] 24)) ga 24 [.int .i64 0, .int .i64 0, .int .i64 0, .int .i64 0, .int .i64 0, .int .i64 0, .int .i64 0, .int .i64 0, .int .i64 0, .int .i64 0, .int .i64 0, .int .i64 0, .int .i64 0, .int .i64 0, .int .i64 0, .int .i64 0, .int .i64 0] := by rw [hgae]; exact HT.new (w := wA45)
                  rw [← hgae]
                  clear hga hgae
                  refine hK.out _ _ (fun w9 => QPost 98 W g l (.slice av n cv) s6 w9 ∧ HT w9 ga 24 [.int .i64 0, .int .i64 0, .int .i64 0, .int .i64 0, .int .i64 0, .int .i64 0, .int .i64 0, .int .i64 0, .int .i64 0, .int .i64 0, .int .i64 0, .int .i64 0, .int .i64 0, .int .i64 0, .int .i64 0, .int .i64 0, .int .i64 0]) QP.cls2 ⟨hA45.below ((Below.refl _ _).alloc (Nat.le_refl _) _), hnew⟩ ?_
                  clear hK K
                  try simp only [Act.put, List.setIfInBounds_toArray, List.set_cons_zero, List.set_cons_succ]
                  refine wpAnyU_ready (rs := [27]) (by kernel_rfl) (by simp) ?_
                  refine AllReadyU.cons (o := { dst := some 40, op := Op.call { callee := Callee.value (Operand.func 34), args := #[Operand.tmp 39], argTypes := #[96] }, type := 3, pos := "ref.go:150", after := #[{ on := 26, ground := Ground.data }, { on := 23, ground := Ground.chain }], guard := none }) rfl (fun wA27 hA27 K hK => ?_) AllReadyU.nil
                  go_simp
                  refine (q6 wA27 hA27.1).mono ?_
                  rintro e wn6 ⟨rfl, hn, hkn⟩
                  have ht6 := hA27.2.keptH hkn (fun e => HNE.out e)
                  refine hK.out _ _ (fun w9 => QPost 98 W g l (.slice av n cv) s7 w9 ∧ HT w9 ga 24 [.int .i64 0, .int .i64 0, .int .i64 0, .int .i64 0, .int .i64 0, .int .i64 0, .int .i64 0, .int .i64 0, .int .i64 0, .int .i64 0, .int .i64 0, .int .i64 0, .int .i64 0, .int .i64 0, .int .i64 0, .int .i64 0, .int .i64 0]) QP.cls2 ⟨hn, ht6⟩ ?_
                  clear hK K
                  try simp only [Act.put, List.setIfInBounds_toArray, List.set_cons_zero, List.set_cons_succ]
                  refine wpAnyU_ready (rs := [31]) (by kernel_rfl) (by simp) ?_
                  refine AllReadyU.cons (o := { dst := some 44, op := Op.call { callee := Callee.value (Operand.func 34), args := #[Operand.tmp 43], argTypes := #[96] }, type := 3, pos := "ref.go:150", after := #[{ on := 30, ground := Ground.data }, { on := 27, ground := Ground.chain }], guard := none }) rfl (fun wA31 hA31 K hK => ?_) AllReadyU.nil
                  go_simp
                  refine (q7 wA31 hA31.1).mono ?_
                  rintro e wn7 ⟨rfl, hn, hkn⟩
                  have ht7 := hA31.2.keptH hkn (fun e => HNE.out e)
                  refine hK.out _ _ (fun w9 => QPost 98 W g l (.slice av n cv) s8 w9 ∧ HT w9 ga 24 [.int .i64 0, .int .i64 0, .int .i64 0, .int .i64 0, .int .i64 0, .int .i64 0, .int .i64 0, .int .i64 0, .int .i64 0, .int .i64 0, .int .i64 0, .int .i64 0, .int .i64 0, .int .i64 0, .int .i64 0, .int .i64 0, .int .i64 0]) QP.cls2 ⟨hn, ht7⟩ ?_
                  clear hK K
                  try simp only [Act.put, List.setIfInBounds_toArray, List.set_cons_zero, List.set_cons_succ]
                  refine wpAnyU_ready (rs := [35]) (by kernel_rfl) (by simp) ?_
                  refine AllReadyU.cons (o := { dst := some 48, op := Op.call { callee := Callee.value (Operand.func 34), args := #[Operand.tmp 47], argTypes := #[96] }, type := 3, pos := "ref.go:150", after := #[{ on := 34, ground := Ground.data }, { on := 31, ground := Ground.chain }], guard := none }) rfl (fun wA35 hA35 K hK => ?_) AllReadyU.nil
                  go_simp
                  refine (q8 wA35 hA35.1).mono ?_
                  rintro e wn8 ⟨rfl, hn, hkn⟩
                  have ht8 := hA35.2.keptH hkn (fun e => HNE.out e)
                  refine hK.out _ _ (fun w9 => QPost 98 W g l (.slice av n cv) s9 w9 ∧ HT w9 ga 24 [.int .i64 0, .int .i64 0, .int .i64 0, .int .i64 0, .int .i64 0, .int .i64 0, .int .i64 0, .int .i64 0, .int .i64 0, .int .i64 0, .int .i64 0, .int .i64 0, .int .i64 0, .int .i64 0, .int .i64 0, .int .i64 0, .int .i64 0]) QP.cls2 ⟨hn, ht8⟩ ?_
                  clear hK K
                  try simp only [Act.put, List.setIfInBounds_toArray, List.set_cons_zero, List.set_cons_succ]
                  refine wpAnyU_ready (rs := [39]) (by kernel_rfl) (by simp) ?_
                  refine AllReadyU.cons (o := { dst := some 52, op := Op.call { callee := Callee.value (Operand.func 34), args := #[Operand.tmp 51], argTypes := #[96] }, type := 3, pos := "ref.go:150", after := #[{ on := 38, ground := Ground.data }, { on := 35, ground := Ground.chain }], guard := none }) rfl (fun wA39 hA39 K hK => ?_) AllReadyU.nil
                  go_simp
                  refine (q9 wA39 hA39.1).mono ?_
                  rintro e wn9 ⟨rfl, hn, hkn⟩
                  have ht9 := hA39.2.keptH hkn (fun e => HNE.out e)
                  refine hK.out _ _ (fun w9 => QPost 98 W g l (.slice av n cv) s10 w9 ∧ HT w9 ga 24 [.int .i64 0, .int .i64 0, .int .i64 0, .int .i64 0, .int .i64 0, .int .i64 0, .int .i64 0, .int .i64 0, .int .i64 0, .int .i64 0, .int .i64 0, .int .i64 0, .int .i64 0, .int .i64 0, .int .i64 0, .int .i64 0, .int .i64 0]) QP.cls2 ⟨hn, ht9⟩ ?_
                  clear hK K
                  try simp only [Act.put, List.setIfInBounds_toArray, List.set_cons_zero, List.set_cons_succ]
                  refine wpAnyU_ready (rs := [43]) (by kernel_rfl) (by simp) ?_
                  refine AllReadyU.cons (o := { dst := some 56, op := Op.call { callee := Callee.value (Operand.func 34), args := #[Operand.tmp 55], argTypes := #[96] }, type := 3, pos := "ref.go:150", after := #[{ on := 42, ground := Ground.data }, { on := 39, ground := Ground.chain }], guard := none }) rfl (fun wA43 hA43 K hK => ?_) AllReadyU.nil
                  go_simp
                  refine (q10 wA43 hA43.1).mono ?_
                  rintro e wn10 ⟨rfl, hn, hkn⟩
                  have ht10 := hA43.2.keptH hkn (fun e => HNE.out e)
                  refine hK.out _ _ (fun w9 => QPost 98 W g l (.slice av n cv) s11 w9 ∧ HT w9 ga 24 [.int .i64 0, .int .i64 0, .int .i64 0, .int .i64 0, .int .i64 0, .int .i64 0, .int .i64 0, .int .i64 0, .int .i64 0, .int .i64 0, .int .i64 0, .int .i64 0, .int .i64 0, .int .i64 0, .int .i64 0, .int .i64 0, .int .i64 0]) QP.cls2 ⟨hn, ht10⟩ ?_
                  clear hK K
                  try simp only [Act.put, List.setIfInBounds_toArray, List.set_cons_zero, List.set_cons_succ]
                  refine wpAnyU_take (i := 44) (oi := { dst := some 57, op := Op.build 24 #[(0, Operand.tmp 16), (1, Operand.tmp 20), (2, Operand.tmp 24), (3, Operand.tmp 28), (4, Operand.tmp 32), (5, Operand.tmp 36), (6, Operand.tmp 40), (7, Operand.tmp 44), (8, Operand.tmp 48), (9, Operand.tmp 52), (10, Operand.tmp 56)], type := 24, pos := "ref.go:150", after := #[{ on := 3, ground := Ground.data }, { on := 7, ground := Ground.data }, { on := 11, ground := Ground.data }, { on := 15, ground := Ground.data }, { on := 19, ground := Ground.data }, { on := 23, ground := Ground.data }, { on := 27, ground := Ground.data }, { on := 31, ground := Ground.data }, { on := 35, ground := Ground.data }, { on := 39, ground := Ground.data }, { on := 43, ground := Ground.data }], guard := none }) (v := (.agg #[.int .i64 y0, .int .i64 y1, .int .i64 y2, .int .i64 y3, .int .i64 y4, .int .i64 y5, .int .i64 y6, .int .i64 y7, .int .i64 y8, .int .i64 y9, .int .i64 y10, .int .i64 0, .int .i64 0, .int .i64 0, .int .i64 0, .int .i64 0, .int .i64 0])) rfl (by kernel_rfl) (by kernel_rfl) (by kernel_rfl) (by kernel_rfl) (by kernel_rfl) (fun _ _ _ h => h) QP.cls2 ?_ ?_
                  · refine Or.inl ⟨rfl, fun w hSw => ?_⟩
                    exact EffR.same (by go_simp)
                  try simp only [Act.put, List.setIfInBounds_toArray, List.set_cons_zero, List.set_cons_succ]
                  refine wpAnyU_last (o := { dst := none, op := Op.store 24 (Operand.tmp 5) (Operand.tmp 57), type := 0, pos := "ref.go:150", after := #[{ on := 45, ground := Ground.data }, { on := 44, ground := Ground.data }, { on := 43, ground := Ground.chain }, { on := 0, ground := Ground.phase }, { on := 1, ground := Ground.phase }, { on := 2, ground := Ground.phase }, { on := 3, ground := Ground.phase }, { on := 4, ground := Ground.phase }, { on := 5, ground := Ground.phase }, { on := 6, ground := Ground.phase }, { on := 7, ground := Ground.phase }, { on := 8, ground := Ground.phase }, { on := 9, ground := Ground.phase }, { on := 10, ground := Ground.phase }, { on := 11, ground := Ground.phase }, { on := 12, ground := Ground.phase }, { on := 13, ground := Ground.phase }, { on := 14, ground := Ground.phase }, { on := 15, ground := Ground.phase }, { on := 16, ground := Ground.phase }, { on := 17, ground := Ground.phase }, { on := 18, ground := Ground.phase }, { on := 19, ground := Ground.phase }, { on := 20, ground := Ground.phase }, { on := 21, ground := Ground.phase }, { on := 22, ground := Ground.phase }, { on := 23, ground := Ground.phase }, { on := 24, ground := Ground.phase }, { on := 25, ground := Ground.phase }, { on := 26, ground := Ground.phase }, { on := 27, ground := Ground.phase }, { on := 28, ground := Ground.phase }, { on := 29, ground := Ground.phase }, { on := 30, ground := Ground.phase }, { on := 31, ground := Ground.phase }, { on := 32, ground := Ground.phase }, { on := 33, ground := Ground.phase }, { on := 34, ground := Ground.phase }, { on := 35, ground := Ground.phase }, { on := 36, ground := Ground.phase }, { on := 37, ground := Ground.phase }, { on := 38, ground := Ground.phase }, { on := 39, ground := Ground.phase }, { on := 40, ground := Ground.phase }, { on := 41, ground := Ground.phase }, { on := 42, ground := Ground.phase }, { on := 43, ground := Ground.phase }, { on := 44, ground := Ground.phase }, { on := 45, ground := Ground.phase }], guard := none }) (by kernel_rfl) (by kernel_rfl) rfl (fun w1 hb1 K hK => ?_)
                  refine step_store_mid rfl 24 (.tmp 5) (.tmp 57) rfl ga 0 [.int .i64 y0, .int .i64 y1, .int .i64 y2, .int .i64 y3, .int .i64 y4, .int .i64 y5, .int .i64 y6, .int .i64 y7, .int .i64 y8, .int .i64 y9, .int .i64 y10, .int .i64 0, .int .i64 0, .int .i64 0, .int .i64 0, .int .i64 0, .int .i64 0] rfl rfl (fun j hj => ⟨hb1.2.isSome (by simpa using hj), hb1.2.frozen _⟩) (by rw [cmdSize]; rfl) (by simp [Value.oneCell']) ?_
                  have hput := hb1.2.puts (o := 0) (vs := [.int .i64 y0, .int .i64 y1, .int .i64 y2, .int .i64 y3, .int .i64 y4, .int .i64 y5, .int .i64 y6, .int .i64 y7, .int .i64 y8, .int .i64 y9, .int .i64 y10, .int .i64 0, .int .i64 0, .int .i64 0, .int .i64 0, .int .i64 0, .int .i64 0]) (by simp)
                  rw [splice_all (by simp)] at hput
                  have hk9 := setCells_kept ga [.int .i64 y0, .int .i64 y1, .int .i64 y2, .int .i64 y3, .int .i64 y4, .int .i64 y5, .int .i64 y6, .int .i64 y7, .int .i64 y8, .int .i64 y9, .int .i64 y10, .int .i64 0, .int .i64 0, .int .i64 0, .int .i64 0, .int .i64 0, .int .i64 0] 0 w1
                  have hq9 := hb1.1.kept hk9 (by have := HGW.out; have := HGG.out; omega) HGW.out
                  have HPUT := Lib.hid hput
                  have HQ9 := Lib.hid hq9
                  obtain ⟨w9, hw9⟩ : ∃ w9, w9 = w1.setCells ga 0 [.int .i64 y0, .int .i64 y1, .int .i64 y2, .int .i64 y3, .int .i64 y4, .int .i64 y5, .int .i64 y6, .int .i64 y7, .int .i64 y8, .int .i64 y9, .int .i64 y10, .int .i64 0, .int .i64 0, .int .i64 0, .int .i64 0, .int .i64 0, .int .i64 0] := ⟨_, rfl⟩
                  rw [← hw9] at HPUT HQ9 ⊢
                  clear hput hk9 hq9 hb1 hw9
                  refine hK.out _ _ ?_
                  clear hK K
                  try simp only [Act.put]
                  go_wp2_with fail
                  go_meet
                  exact ⟨ga, rfl, HPUT.out, HQ9.out, HGW.out, HNE.out⟩
              · go_simp
                have hga := hA45.lt
                obtain ⟨ga, hgae⟩ : ∃ ga, ga = wA45.heap.size := ⟨_, rfl⟩
                have HNE : Hid (ga ≠ g) := by show _ ≠ _; omega
                have HGW : Hid (W.heap.size ≤ ga) := by have := hA45.size; show _ ≤ _; omega
                have hnew : HT (wA45.alloc (.cells #[.int .i64 0, .int .i64 0, .int .i64 0, .int .i64 0, .int .i64 0, .int .i64 0, .int .i64 0, .int .i64 0, .int .i64 0, .int .i64 0, .int .i64 0, .int .i64 0, .int .i64 0, .int .i64 0, .int .i64 0, .int .i64 0, .int .i64 0] 24)) ga 24 [.int .i64 0, .int .i64 0, .int .i64 0, .int .i64 0, .int .i64 0, .int .i64 0, .int .i64 0, .int .i64 0, .int .i64 0, .int .i64 0, .int .i64 0, .int .i64 0, .int .i64 0, .int .i64 0, .int .i64 0, .int .i64 0, .int .i64 0] := by rw [hgae]; exact HT.new (w := wA45)
                rw [← hgae]
                clear hga hgae
                refine hK.out _ _ (fun w9 => QPost 98 W g l (.slice av n cv) s5 w9 ∧ HT w9 ga 24 [.int .i64 0, .int .i64 0, .int .i64 0, .int .i64 0, .int .i64 0, .int .i64 0, .int .i64 0, .int .i64 0, .int .i64 0, .int .i64 0, .int .i64 0, .int .i64 0, .int .i64 0, .int .i64 0, .int .i64 0, .int .i64 0, .int .i64 0]) QP.cls2 ⟨hA45.below ((Below.refl _ _).alloc (Nat.le_refl _) _), hnew⟩ ?_
                clear hK K
                try simp only [Act.put, List.setIfInBounds_toArray, List.set_cons_zero, List.set_cons_succ]
                refine wpAnyU_ready (rs := [23]) (by kernel_rfl) (by simp) ?_
                refine AllReadyU.cons (o := { dst := some 36, op := Op.call { callee := Callee.value (Operand.func 34), args := #[Operand.tmp 35], argTypes := #[96] }, type := 3, pos := "ref.go:150", after := #[{ on := 22, ground := Ground.data }, { on := 19, ground := Ground.chain }], guard := none }) rfl (fun wA23 hA23 K hK => ?_) AllReadyU.nil
                go_simp
                refine (q5 wA23 hA23.1).mono ?_
                rintro e wn5 ⟨rfl, hn, hkn⟩
                have ht5 := hA23.2.keptH hkn (fun e => HNE.out e)
                refine hK.out _ _ (fun w9 => QPost 98 W g l (.slice av n cv) s6 w9 ∧ HT w9 ga 24 [.int .i64 0, .int .i64 0, .int .i64 0, .int .i64 0, .int .i64 0, .int .i64 0, .int .i64 0, .int .i64 0, .int .i64 0, .int .i64 0, .int .i64 0, .int .i64 0, .int .i64 0, .int .i64 0, .int .i64 0, .int .i64 0, .int .i64 0]) QP.cls2 ⟨hn, ht5⟩ ?_
                clear hK K
                try simp only [Act.put, List.setIfInBounds_toArray, List.set_cons_zero, List.set_cons_succ]
                refine wpAnyU_ready (rs := [27]) (by kernel_rfl) (by simp) ?_
                refine AllReadyU.cons (o := { dst := some 40, op := Op.call { callee := Callee.value (Operand.func 34), args := #[Operand.tmp 39], argTypes := #[96] }, type := 3, pos := "ref.go:150", after := #[{ on := 26, ground := Ground.data }, { on := 23, ground := Ground.chain }], guard := none }) rfl (fun wA27 hA27 K hK => ?_) AllReadyU.nil
                go_simp
                refine (q6 wA27 hA27.1).mono ?_
                rintro e wn6 ⟨rfl, hn, hkn⟩
                have ht6 := hA27.2.keptH hkn (fun e => HNE.out e)
                refine hK.out _ _ (fun w9 => QPost 98 W g l (.slice av n cv) s7 w9 ∧ HT w9 ga 24 [.int .i64 0, .int .i64 0, .int .i64 0, .int .i64 0, .int .i64 0, .int .i64 0, .int .i64 0, .int .i64 0, .int .i64 0, .int .i64 0, .int .i64 0, .int .i64 0, .int .i64 0, .int .i64 0, .int .i64 0, .int .i64 0, .int .i64 0]) QP.cls2 ⟨hn, ht6⟩ ?_
                clear hK K
                try simp only [Act.put, List.setIfInBounds_toArray, List.set_cons_zero, List.set_cons_succ]
                refine wpAnyU_ready (rs := [31]) (by kernel_rfl) (by simp) ?_
                refine AllReadyU.cons (o := { dst := some 44, op := Op.call { callee := Callee.value (Operand.func 34), args := #[Operand.tmp 43], argTypes := #[96] }, type := 3, pos := "ref.go:150", after := #[{ on := 30, ground := Ground.data }, { on := 27, ground := Ground.chain }], guard := none }) rfl (fun wA31 hA31 K hK => ?_) AllReadyU.nil
                go_simp
                refine (q7 wA31 hA31.1).mono ?_
                rintro e wn7 ⟨rfl, hn, hkn⟩
                have ht7 := hA31.2.keptH hkn (fun e => HNE.out e)
                refine hK.out _ _ (fun w9 => QPost 98 W g l (.slice av n cv) s8 w9 ∧ HT w9 ga 24 [.int .i64 0, .int .i64 0, .int .i64 0, .int .i64 0, .int .i64 0, .int .i64 0, .int .i64 0, .int .i64 0, .int .i64 0, .int .i64 0, .int .i64 0, .int .i64 0, .int .i64 0, .int .i64 0, .int .i64 0, .int .i64 0, .int .i64 0]) QP.cls2 ⟨hn, ht7⟩ ?_
                clear hK K
                try simp only [Act.put, List.setIfInBounds_toArray, List.set_cons_zero, List.set_cons_succ]
                refine wpAnyU_ready (rs := [35]) (by kernel_rfl) (by simp) ?_
                refine AllReadyU.cons (o := { dst := some 48, op := Op.call { callee := Callee.value (Operand.func 34), args := #[Operand.tmp 47], argTypes := #[96] }, type := 3, pos := "ref.go:150", after := #[{ on := 34, ground := Ground.data }, { on := 31, ground := Ground.chain }], guard := none }) rfl (fun wA35 hA35 K hK => ?_) AllReadyU.nil
                go_simp
                refine (q8 wA35 hA35.1).mono ?_
                rintro e wn8 ⟨rfl, hn, hkn⟩
                have ht8 := hA35.2.keptH hkn (fun e => HNE.out e)
                refine hK.out _ _ (fun w9 => QPost 98 W g l (.slice av n cv) s9 w9 ∧ HT w9 ga 24 [.int .i64 0, .int .i64 0, .int .i64 0, .int .i64 0, .int .i64 0, .int .i64 0, .int .i64 0, .int .i64 0, .int .i64 0, .int .i64 0, .int .i64 0, .int .i64 0, .int .i64 0, .int .i64 0, .int .i64 0, .int .i64 0, .int .i64 0]) QP.cls2 ⟨hn, ht8⟩ ?_
                clear hK K
                try simp only [Act.put, List.setIfInBounds_toArray, List.set_cons_zero, List.set_cons_succ]
                refine wpAnyU_ready (rs := [39]) (by kernel_rfl) (by simp) ?_
                refine AllReadyU.cons (o := { dst := some 52, op := Op.call { callee := Callee.value (Operand.func 34), args := #[Operand.tmp 51], argTypes := #[96] }, type := 3, pos := "ref.go:150", after := #[{ on := 38, ground := Ground.data }, { on := 35, ground := Ground.chain }], guard := none }) rfl (fun wA39 hA39 K hK => ?_) AllReadyU.nil
                go_simp
                refine (q9 wA39 hA39.1).mono ?_
                rintro e wn9 ⟨rfl, hn, hkn⟩
                have ht9 := hA39.2.keptH hkn (fun e => HNE.out e)
                refine hK.out _ _ (fun w9 => QPost 98 W g l (.slice av n cv) s10 w9 ∧ HT w9 ga 24 [.int .i64 0, .int .i64 0, .int .i64 0, .int .i64 0, .int .i64 0, .int .i64 0, .int .i64 0, .int .i64 0, .int .i64 0, .int .i64 0, .int .i64 0, .int .i64 0, .int .i64 0, .int .i64 0, .int .i64 0, .int .i64 0, .int .i64 0]) QP.cls2 ⟨hn, ht9⟩ ?_
                clear hK K
                try simp only [Act.put, List.setIfInBounds_toArray, List.set_cons_zero, List.set_cons_succ]
                refine wpAnyU_ready (rs := [43]) (by kernel_rfl) (by simp) ?_
                refine AllReadyU.cons (o := { dst := some 56, op := Op.call { callee := Callee.value (Operand.func 34), args := #[Operand.tmp 55], argTypes := #[96] }, type := 3, pos := "ref.go:150", after := #[{ on := 42, ground := Ground.data }, { on := 39, ground := Ground.chain }], guard := none }) rfl (fun wA43 hA43 K hK => ?_) AllReadyU.nil
                go_simp
                refine (q10 wA43 hA43.1).mono ?_
                rintro e wn10 ⟨rfl, hn, hkn⟩
                have ht10 := hA43.2.keptH hkn (fun e => HNE.out e)
                refine hK.out _ _ (fun w9 => QPost 98 W g l (.slice av n cv) s11 w9 ∧ HT w9 ga 24 [.int .i64 0, .int .i64 0, .int .i64 0, .int .i64 0, .int .i64 0, .int .i64 0, .int .i64 0, .int .i64 0, .int .i64 0, .int .i64 0, .int .i64 0, .int .i64 0, .int .i64 0, .int .i64 0, .int .i64 0, .int .i64 0, .int .i64 0]) QP.cls2 ⟨hn, ht10⟩ ?_
                clear hK K
                try simp only [Act.put, List.setIfInBounds_toArray, List.set_cons_zero, List.set_cons_succ]
                refine wpAnyU_take (i := 44) (oi := { dst := some 57, op := Op.build 24 #[(0, Operand.tmp 16), (1, Operand.tmp 20), (2, Operand.tmp 24), (3, Operand.tmp 28), (4, Operand.tmp 32), (5, Operand.tmp 36), (6, Operand.tmp 40), (7, Operand.tmp 44), (8, Operand.tmp 48), (9, Operand.tmp 52), (10, Operand.tmp 56)], type := 24, pos := "ref.go:150", after := #[{ on := 3, ground := Ground.data }, { on := 7, ground := Ground.data }, { on := 11, ground := Ground.data }, { on := 15, ground := Ground.data }, { on := 19, ground := Ground.data }, { on := 23, ground := Ground.data }, { on := 27, ground := Ground.data }, { on := 31, ground := Ground.data }, { on := 35, ground := Ground.data }, { on := 39, ground := Ground.data }, { on := 43, ground := Ground.data }], guard := none }) (v := (.agg #[.int .i64 y0, .int .i64 y1, .int .i64 y2, .int .i64 y3, .int .i64 y4, .int .i64 y5, .int .i64 y6, .int .i64 y7, .int .i64 y8, .int .i64 y9, .int .i64 y10, .int .i64 0, .int .i64 0, .int .i64 0, .int .i64 0, .int .i64 0, .int .i64 0])) rfl (by kernel_rfl) (by kernel_rfl) (by kernel_rfl) (by kernel_rfl) (by kernel_rfl) (fun _ _ _ h => h) QP.cls2 ?_ ?_
                · refine Or.inl ⟨rfl, fun w hSw => ?_⟩
                  exact EffR.same (by go_simp)
                try simp only [Act.put, List.setIfInBounds_toArray, List.set_cons_zero, List.set_cons_succ]
                refine wpAnyU_last (o := { dst := none, op := Op.store 24 (Operand.tmp 5) (Operand.tmp 57), type := 0, pos := "ref.go:150", after := #[{ on := 45, ground := Ground.data }, { on := 44, ground := Ground.data }, { on := 43, ground := Ground.chain }, { on := 0, ground := Ground.phase }, { on := 1, ground := Ground.phase }, { on := 2, ground := Ground.phase }, { on := 3, ground := Ground.phase }, { on := 4, ground := Ground.phase }, { on := 5, ground := Ground.phase }, { on := 6, ground := Ground.phase }, { on := 7, ground := Ground.phase }, { on := 8, ground := Ground.phase }, { on := 9, ground := Ground.phase }, { on := 10, ground := Ground.phase }, { on := 11, ground := Ground.phase }, { on := 12, ground := Ground.phase }, { on := 13, ground := Ground.phase }, { on := 14, ground := Ground.phase }, { on := 15, ground := Ground.phase }, { on := 16, ground := Ground.phase }, { on := 17, ground := Ground.phase }, { on := 18, ground := Ground.phase }, { on := 19, ground := Ground.phase }, { on := 20, ground := Ground.phase }, { on := 21, ground := Ground.phase }, { on := 22, ground := Ground.phase }, { on := 23, ground := Ground.phase }, { on := 24, ground := Ground.phase }, { on := 25, ground := Ground.phase }, { on := 26, ground := Ground.phase }, { on := 27, ground := Ground.phase }, { on := 28, ground := Ground.phase }, { on := 29, ground := Ground.phase }, { on := 30, ground := Ground.phase }, { on := 31, ground := Ground.phase }, { on := 32, ground := Ground.phase }, { on := 33, ground := Ground.phase }, { on := 34, ground := Ground.phase }, { on := 35, ground := Ground.phase }, { on := 36, ground := Ground.phase }, { on := 37, ground := Ground.phase }, { on := 38, ground := Ground.phase }, { on := 39, ground := Ground.phase }, { on := 40, ground := Ground.phase }, { on := 41, ground := Ground.phase }, { on := 42, ground := Ground.phase }, { on := 43, ground := Ground.phase }, { on := 44, ground := Ground.phase }, { on := 45, ground := Ground.phase }], guard := none }) (by kernel_rfl) (by kernel_rfl) rfl (fun w1 hb1 K hK => ?_)
                refine step_store_mid rfl 24 (.tmp 5) (.tmp 57) rfl ga 0 [.int .i64 y0, .int .i64 y1, .int .i64 y2, .int .i64 y3, .int .i64 y4, .int .i64 y5, .int .i64 y6, .int .i64 y7, .int .i64 y8, .int .i64 y9, .int .i64 y10, .int .i64 0, .int .i64 0, .int .i64 0, .int .i64 0, .int .i64 0, .int .i64 0] rfl rfl (fun j hj => ⟨hb1.2.isSome (by simpa using hj), hb1.2.frozen _⟩) (by rw [cmdSize]; rfl) (by simp [Value.oneCell']) ?_
                have hput := hb1.2.puts (o := 0) (vs := [.int .i64 y0, .int .i64 y1, .int .i64 y2, .int .i64 y3, .int .i64 y4, .int .i64 y5, .int .i64 y6, .int .i64 y7, .int .i64 y8, .int .i64 y9, .int .i64 y10, .int .i64 0, .int .i64 0, .int .i64 0, .int .i64 0, .int .i64 0, .int .i64 0]) (by simp)
                rw [splice_all (by simp)] at hput
                have hk9 := setCells_kept ga [.int .i64 y0, .int .i64 y1, .int .i64 y2, .int .i64 y3, .int .i64 y4, .int .i64 y5, .int .i64 y6, .int .i64 y7, .int .i64 y8, .int .i64 y9, .int .i64 y10, .int .i64 0, .int .i64 0, .int .i64 0, .int .i64 0, .int .i64 0, .int .i64 0] 0 w1
                have hq9 := hb1.1.kept hk9 (by have := HGW.out; have := HGG.out; omega) HGW.out
                have HPUT := Lib.hid hput
                have HQ9 := Lib.hid hq9
                obtain ⟨w9, hw9⟩ : ∃ w9, w9 = w1.setCells ga 0 [.int .i64 y0, .int .i64 y1, .int .i64 y2, .int .i64 y3, .int .i64 y4, .int .i64 y5, .int .i64 y6, .int .i64 y7, .int .i64 y8, .int .i64 y9, .int .i64 y10, .int .i64 0, .int .i64 0, .int .i64 0, .int .i64 0, .int .i64 0, .int .i64 0] := ⟨_, rfl⟩
                rw [← hw9] at HPUT HQ9 ⊢
                clear hput hk9 hq9 hb1 hw9
                refine hK.out _ _ ?_
                clear hK K
                try simp only [Act.put]
                go_wp2_with fail
                go_meet
                exact ⟨ga, rfl, HPUT.out, HQ9.out, HGW.out, HNE.out⟩
            · go_simp
              have hga := hA45.lt
              obtain ⟨ga, hgae⟩ : ∃ ga, ga = wA45.heap.size := ⟨_, rfl⟩
              have HNE : Hid (ga ≠ g) := by show _ ≠ _; omega
              have HGW : Hid (W.heap.size ≤ ga) := by have := hA45.size; show _ ≤ _; omega
              have hnew : HT (wA45.alloc (.cells #[.int .i64 0, .int .i64 0, .int .i64 0, .int .i64 0, .int .i64 0, .int .i64 0, .int .i64 0, .int .i64 0, .int .i64 0, .int .i64 0, .int .i64 0, .int .i64 0, .int .i64 0, .int .i64 0, .int .i64 0, .int .i64 0, .int .i64 0] 24)) ga 24 [.int .i64 0, .int .i64 0, .int .i64 0, .int .i64 0, .int .i64 0, .int .i64 0, .int .i64 0, .int .i64 0, .int .i64 0, .int .i64 0, .int .i64 0, .int .i64 0, .int .i64 0, .int .i64 0, .int .i64 0, .int .i64 0, .int .i64 0] := by rw [hgae]; exact HT.new (w := wA45)
              rw [← hgae]
              clear hga hgae
              refine hK.out _ _ (fun w9 => QPost 98 W g l (.slice av n cv) s4 w9 ∧ HT w9 ga 24 [.int .i64 0, .int .i64 0, .int .i64 0, .int .i64 0, .int .i64 0, .int .i64 0, .int .i64 0, .int .i64 0, .int .i64 0, .int .i64 0, .int .i64 0, .int .i64 0, .int .i64 0, .int .i64 0, .int .i64 0, .int .i64 0, .int .i64 0]) QP.cls2 ⟨hA45.below ((Below.refl _ _).alloc (Nat.le_refl _) _), hnew⟩ ?_
              clear hK K
              try simp only [Act.put, List.setIfInBounds_toArray, List.set_cons_zero, List.set_cons_succ]
              refine wpAnyU_ready (rs := [19]) (by kernel_rfl) (by simp) ?_
              refine AllReadyU.cons (o := { dst := some 32, op := Op.call { callee := Callee.value (Operand.func 34), args := #[Operand.tmp 31], argTypes := #[96] }, type := 3, pos := "ref.go:150", after := #[{ on := 18, ground := Ground.data }, { on := 15, ground := Ground.chain }], guard := none }) rfl (fun wA19 hA19 K hK => ?_) AllReadyU.nil
              go_simp
              refine (q4 wA19 hA19.1).mono ?_
              rintro e wn4 ⟨rfl, hn, hkn⟩
              have ht4 := hA19.2.keptH hkn (fun e => HNE.out e)
              refine hK.out _ _ (fun w9 => QPost 98 W g l (.slice av n cv) s5 w9 ∧ HT w9 ga 24 [.int .i64 0, .int .i64 0, .int .i64 0, .int .i64 0, .int .i64 0, .int .i64 0, .int .i64 0, .int .i64 0, .int .i64 0, .int .i64 0, .int .i64 0, .int .i64 0, .int .i64 0, .int .i64 0, .int .i64 0, .int .i64 0, .int .i64 0]) QP.cls2 ⟨hn, ht4⟩ ?_
              clear hK K
              try simp only [Act.put, List.setIfInBounds_toArray, List.set_cons_zero, List.set_cons_succ]
              refine wpAnyU_ready (rs := [23]) (by kernel_rfl) (by simp) ?_
              refine AllReadyU.cons (o := { dst := some 36, op := Op.call { callee := Callee.value (Operand.func 34), args := #[Operand.tmp 35], argTypes := #[96] }, type := 3, pos := "ref.go:150", after := #[{ on := 22, ground := Ground.data }, { on := 19, ground := Ground.chain }], guard := none }) rfl (fun wA23 hA23 K hK => ?_) AllReadyU.nil
              go_simp
              refine (q5 wA23 hA23.1).mono ?_
              rintro e wn5 ⟨rfl, hn, hkn⟩
              have ht5 := hA23.2.keptH hkn (fun e => HNE.out e)
              refine hK.out _ _ (fun w9 => QPost 98 W g l (.slice av n cv) s6 w9 ∧ HT w9 ga 24 [.int .i64 0, .int .i64 0, .int .i64 0, .int .i64 0, .int .i64 0, .int .i64 0, .int .i64 0, .int .i64 0, .int .i64 0, .int .i64 0, .int .i64 0, .int .i64 0, .int .i64 0, .int .i64 0, .int .i64 0, .int .i64 0, .int .i64 0]) QP.cls2 ⟨hn, ht5⟩ ?_
              clear hK K
              try simp only [Act.put, List.setIfInBounds_toArray, List.set_cons_zero, List.set_cons_succ]
              refine wpAnyU_ready (rs := [27]) (by kernel_rfl) (by simp) ?_
              refine AllReadyU.cons (o := { dst := some 40, op := Op.call { callee := Callee.value (Operand.func 34), args := #[Operand.tmp 39], argTypes := #[96] }, type := 3, pos := "ref.go:150", after := #[{ on := 26, ground := Ground.data }, { on := 23, ground := Ground.chain }], guard := none }) rfl (fun wA27 hA27 K hK => ?_) AllReadyU.nil
              go_simp
              refine (q6 wA27 hA27.1).mono ?_
              rintro e wn6 ⟨rfl, hn, hkn⟩
              have ht6 := hA27.2.keptH hkn (fun e => HNE.out e)
              refine hK.out _ _ (fun w9 => QPost 98 W g l (.slice av n cv) s7 w9 ∧ HT w9 ga 24 [.int .i64 0, .int .i64 0, .int .i64 0, .int .i64 0, .int .i64 0, .int .i64 0, .int .i64 0, .int .i64 0, .int .i64 0, .int .i64 0, .int .i64 0, .int .i64 0, .int .i64 0, .int .i64 0, .int .i64 0, .int .i64 0, .int .i64 0]) QP.cls2 ⟨hn, ht6⟩ ?_
              clear hK K
              try simp only [Act.put, List.setIfInBounds_toArray, List.set_cons_zero, List.set_cons_succ]
              refine wpAnyU_ready (rs := [31]) (by kernel_rfl) (by simp) ?_
              refine AllReadyU.cons (o := { dst := some 44, op := Op.call { callee := Callee.value (Operand.func 34), args := #[Operand.tmp 43], argTypes := #[96] }, type := 3, pos := "ref.go:150", after := #[{ on := 30, ground := Ground.data }, { on := 27, ground := Ground.chain }], guard := none }) rfl (fun wA31 hA31 K hK => ?_) AllReadyU.nil
              go_simp
              refine (q7 wA31 hA31.1).mono ?_
              rintro e wn7 ⟨rfl, hn, hkn⟩
              have ht7 := hA31.2.keptH hkn (fun e => HNE.out e)
              refine hK.out _ _ (fun w9 => QPost 98 W g l (.slice av n cv) s8 w9 ∧ HT w9 ga 24 [.int .i64 0, .int .i64 0, .int .i64 0, .int .i64 0, .int .i64 0, .int .i64 0, .int .i64 0, .int .i64 0, .int .i64 0, .int .i64 0, .int .i64 0, .int .i64 0, .int .i64 0, .int .i64 0, .int .i64 0, .int .i64 0, .int .i64 0]) QP.cls2 ⟨hn, ht7⟩ ?_
              clear hK K
              try simp only [Act.put, List.setIfInBounds_toArray, List.set_cons_zero, List.set_cons_succ]
              refine wpAnyU_ready (rs := [35]) (by kernel_rfl) (by simp) ?_
              refine AllReadyU.cons (o := { dst := some 48, op := Op.call { callee := Callee.value (Operand.func 34), args := #[Operand.tmp 47], argTypes := #[96] }, type := 3, pos := "ref.go:150", after := #[{ on := 34, ground := Ground.data }, { on := 31, ground := Ground.chain }], guard := none }) rfl (fun wA35 hA35 K hK => ?_) AllReadyU.nil
              go_simp
              refine (q8 wA35 hA35.1).mono ?_
              rintro e wn8 ⟨rfl, hn, hkn⟩
              have ht8 := hA35.2.keptH hkn (fun e => HNE.out e)
              refine hK.out _ _ (fun w9 => QPost 98 W g l (.slice av n cv) s9 w9 ∧ HT w9 ga 24 [.int .i64 0, .int .i64 0, .int .i64 0, .int .i64 0, .int .i64 0, .int .i64 0, .int .i64 0, .int .i64 0, .int .i64 0, .int .i64 0, .int .i64 0, .int .i64 0, .int .i64 0, .int .i64 0, .int .i64 0, .int .i64 0, .int .i64 0]) QP.cls2 ⟨hn, ht8⟩ ?_
              clear hK K
              try simp only [Act.put, List.setIfInBounds_toArray, List.set_cons_zero, List.set_cons_succ]
              refine wpAnyU_ready (rs := [39]) (by kernel_rfl) (by simp) ?_
              refine AllReadyU.cons (o := { dst := some 52, op := Op.call { callee := Callee.value (Operand.func 34), args := #[Operand.tmp 51], argTypes := #[96] }, type := 3, pos := "ref.go:150", after := #[{ on := 38, ground := Ground.data }, { on := 35, ground := Ground.chain }], guard := none }) rfl (fun wA39 hA39 K hK => ?_) AllReadyU.nil
              go_simp
              refine (q9 wA39 hA39.1).mono ?_
              rintro e wn9 ⟨rfl, hn, hkn⟩
              have ht9 := hA39.2.keptH hkn (fun e => HNE.out e)
              refine hK.out _ _ (fun w9 => QPost 98 W g l (.slice av n cv) s10 w9 ∧ HT w9 ga 24 [.int .i64 0, .int .i64 0, .int .i64 0, .int .i64 0, .int .i64 0, .int .i64 0, .int .i64 0, .int .i64 0, .int .i64 0, .int .i64 0, .int .i64 0, .int .i64 0, .int .i64 0, .int .i64 0, .int .i64 0, .int .i64 0, .int .i64 0]) QP.cls2 ⟨hn, ht9⟩ ?_
              clear hK K
              try simp only [Act.put, List.setIfInBounds_toArray, List.set_cons_zero, List.set_cons_succ]
              refine wpAnyU_ready (rs := [43]) (by kernel_rfl) (by simp) ?_
              refine AllReadyU.cons (o := { dst := some 56, op := Op.call { callee := Callee.value (Operand.func 34), args := #[Operand.tmp 55], argTypes := #[96] }, type := 3, pos := "ref.go:150", after := #[{ on := 42, ground := Ground.data }, { on := 39, ground := Ground.chain }], guard := none }) rfl (fun wA43 hA43 K hK => ?_) AllReadyU.nil
              go_simp
              refine (q10 wA43 hA43.1).mono ?_
              rintro e wn10 ⟨rfl, hn, hkn⟩
              have ht10 := hA43.2.keptH hkn (fun e => HNE.out e)
              refine hK.out _ _ (fun w9 => QPost 98 W g l (.slice av n cv) s11 w9 ∧ HT w9 ga 24 [.int .i64 0, .int .i64 0, .int .i64 0, .int .i64 0, .int .i64 0, .int .i64 0, .int .i64 0, .int .i64 0, .int .i64 0, .int .i64 0, .int .i64 0, .int .i64 0, .int .i64 0, .int .i64 0, .int .i64 0, .int .i64 0, .int .i64 0]) QP.cls2 ⟨hn, ht10⟩ ?_
              clear hK K
              try simp only [Act.put, List.setIfInBounds_toArray, List.set_cons_zero, List.set_cons_succ]
              refine wpAnyU_take (i := 44) (oi := { dst := some 57, op := Op.build 24 #[(0, Operand.tmp 16), (1, Operand.tmp 20), (2, Operand.tmp 24), (3, Operand.tmp 28), (4, Operand.tmp 32), (5, Operand.tmp 36), (6, Operand.tmp 40), (7, Operand.tmp 44), (8, Operand.tmp 48), (9, Operand.tmp 52), (10, Operand.tmp 56)], type := 24, pos := "ref.go:150", after := #[{ on := 3, ground := Ground.data }, { on := 7, ground := Ground.data }, { on := 11, ground := Ground.data }, { on := 15, ground := Ground.data }, { on := 19, ground := Ground.data }, { on := 23, ground := Ground.data }, { on := 27, ground := Ground.data }, { on := 31, ground := Ground.data }, { on := 35, ground := Ground.data }, { on := 39, ground := Ground.data }, { on := 43, ground := Ground.data }], guard := none }) (v := (.agg #[.int .i64 y0, .int .i64 y1, .int .i64 y2, .int .i64 y3, .int .i64 y4, .int .i64 y5, .int .i64 y6, .int .i64 y7, .int .i64 y8, .int .i64 y9, .int .i64 y10, .int .i64 0, .int .i64 0, .int .i64 0, .int .i64 0, .int .i64 0, .int .i64 0])) rfl (by kernel_rfl) (by kernel_rfl) (by kernel_rfl) (by kernel_rfl) (by kernel_rfl) (fun _ _ _ h => h) QP.cls2 ?_ ?_
              · refine Or.inl ⟨rfl, fun w hSw => ?_⟩
                exact EffR.same (by go_simp)
              try simp only [Act.put, List.setIfInBounds_toArray, List.set_cons_zero, List.set_cons_succ]
              refine wpAnyU_last (o := { dst := none, op := Op.store 24 (Operand.tmp 5) (Operand.tmp 57), type := 0, pos := "ref.go:150", after := #[{ on := 45, ground := Ground.data }, { on := 44, ground := Ground.data }, { on := 43, ground := Ground.chain }, { on := 0, ground := Ground.phase }, { on := 1, ground := Ground.phase }, { on := 2, ground := Ground.phase }, { on := 3, ground := Ground.phase }, { on := 4, ground := Ground.phase }, { on := 5, ground := Ground.phase }, { on := 6, ground := Ground.phase }, { on := 7, ground := Ground.phase }, { on := 8, ground := Ground.phase }, { on := 9, ground := Ground.phase }, { on := 10, ground := Ground.phase }, { on := 11, ground := Ground.phase }, { on := 12, ground := Ground.phase }, { on := 13, ground := Ground.phase }, { on := 14, ground := Ground.phase }, { on := 15, ground := Ground.phase }, { on := 16, ground := Ground.phase }, { on := 17, ground := Ground.phase }, { on := 18, ground := Ground.phase }, { on := 19, ground := Ground.phase }, { on := 20, ground := Ground.phase }, { on := 21, ground := Ground.phase }, { on := 22, ground := Ground.phase }, { on := 23, ground := Ground.phase }, { on := 24, ground := Ground.phase }, { on := 25, ground := Ground.phase }, { on := 26, ground := Ground.phase }, { on := 27, ground := Ground.phase }, { on := 28, ground := Ground.phase }, { on := 29, ground := Ground.phase }, { on := 30, ground := Ground.phase }, { on := 31, ground := Ground.phase }, { on := 32, ground := Ground.phase }, { on := 33, ground := Ground.phase }, { on := 34, ground := Ground.phase }, { on := 35, ground := Ground.phase }, { on := 36, ground := Ground.phase }, { on := 37, ground := Ground.phase }, { on := 38, ground := Ground.phase }, { on := 39, ground := Ground.phase }, { on := 40, ground := Ground.phase }, { on := 41, ground := Ground.phase }, { on := 42, ground := Ground.phase }, { on := 43, ground := Ground.phase }, { on := 44, ground := Ground.phase }, { on := 45, ground := Ground.phase }], guard := none }) (by kernel_rfl) (by kernel_rfl) rfl (fun w1 hb1 K hK => ?_)
              refine step_store_mid rfl 24 (.tmp 5) (.tmp 57) rfl ga 0 [.int .i64 y0, .int .i64 y1, .int .i64 y2, .int .i64 y3, .int .i64 y4, .int .i64 y5, .int .i64 y6, .int .i64 y7, .int .i64 y8, .int .i64 y9, .int .i64 y10, .int .i64 0, .int .i64 0, .int .i64 0, .int .i64 0, .int .i64 0, .int .i64 0] rfl rfl (fun j hj => ⟨hb1.2.isSome (by simpa using hj), hb1.2.frozen _⟩) (by rw [cmdSize]; rfl) (by simp [Value.oneCell']) ?_
              have hput := hb1.2.puts (o := 0) (vs := [.int .i64 y0, .int .i64 y1, .int .i64 y2, .int .i64 y3, .int .i64 y4, .int .i64 y5, .int .i64 y6, .int .i64 y7, .int .i64 y8, .int .i64 y9, .int .i64 y10, .int .i64 0, .int .i64 0, .int .i64 0, .int .i64 0, .int .i64 0, .int .i64 0]) (by simp)
              rw [splice_all (by simp)] at hput
              have hk9 := setCells_kept ga [.int .i64 y0, .int .i64 y1, .int .i64 y2, .int .i64 y3, .int .i64 y4, .int .i64 y5, .int .i64 y6, .int .i64 y7, .int .i64 y8, .int .i64 y9, .int .i64 y10, .int .i64 0, .int .i64 0, .int .i64 0, .int .i64 0, .int .i64 0, .int .i64 0] 0 w1
              have hq9 := hb1.1.kept hk9 (by have := HGW.out; have := HGG.out; omega) HGW.out
              have HPUT := Lib.hid hput
              have HQ9 := Lib.hid hq9
              obtain ⟨w9, hw9⟩ : ∃ w9, w9 = w1.setCells ga 0 [.int .i64 y0, .int .i64 y1, .int .i64 y2, .int .i64 y3, .int .i64 y4, .int .i64 y5, .int .i64 y6, .int .i64 y7, .int .i64 y8, .int .i64 y9, .int .i64 y10, .int .i64 0, .int .i64 0, .int .i64 0, .int .i64 0, .int .i64 0, .int .i64 0] := ⟨_, rfl⟩
              rw [← hw9] at HPUT HQ9 ⊢
              clear hput hk9 hq9 hb1 hw9
              refine hK.out _ _ ?_
              clear hK K
              try simp only [Act.put]
              go_wp2_with fail
              go_meet
              exact ⟨ga, rfl, HPUT.out, HQ9.out, HGW.out, HNE.out⟩
          · go_simp
            have hga := hA45.lt
            obtain ⟨ga, hgae⟩ : ∃ ga, ga = wA45.heap.size := ⟨_, rfl⟩
            have HNE : Hid (ga ≠ g) := by show _ ≠ _; omega
            have HGW : Hid (W.heap.size ≤ ga) := by have := hA45.size; show _ ≤ _; omega
            have hnew : HT (wA45.alloc (.cells #[.int .i64 0, .int .i64 0, .int .i64 0, .int .i64 0, .int .i64 0, .int .i64 0, .int .i64 0, .int .i64 0, .int .i64 0, .int .i64 0, .int .i64 0, .int .i64 0, .int .i64 0, .int .i64 0, .int .i64 0, .int .i64 0, .int .i64 0] 24)) ga 24 [.int .i64 0, .int .i64 0, .int .i64 0, .int .i64 0, .int .i64 0, .int .i64 0, .int .i64 0, .int .i64 0, .int .i64 0, .int .i64 0, .int .i64 0, .int .i64 0, .int .i64 0, .int .i64 0, .int .i64 0, .int .i64 0, .int .i64 0] := by rw [hgae]; exact HT.new (w := wA45)
            rw [← hgae]
            clear hga hgae
            refine hK.out _ _ (fun w9 => QPost 98 W g l (.slice av n cv) s3 w9 ∧ HT w9 ga 24 [.int .i64 0, .int .i64 0, .int .i64 0, .int .i64 0, .int .i64 0, .int .i64 0, .int .i64 0, .int .i64 0, .int .i64 0, .int .i64 0, .int .i64 0, .int .i64 0, .int .i64 0, .int .i64 0, .int .i64 0, .int .i64 0, .int .i64 0]) QP.cls2 ⟨hA45.below ((Below.refl _ _).alloc (Nat.le_refl _) _), hnew⟩ ?_
            clear hK K
            try simp only [Act.put, List.setIfInBounds_toArray, List.set_cons_zero, List.set_cons_succ]
            refine wpAnyU_ready (rs := [15]) (by kernel_rfl) (by simp) ?_
            refine AllReadyU.cons (o := { dst := some 28, op := Op.call { callee := Callee.value (Operand.func 34), args := #[Operand.tmp 27], argTypes := #[96] }, type := 3, pos := "ref.go:150", after := #[{ on := 14, ground := Ground.data }, { on := 11, ground := Ground.chain }], guard := none }) rfl (fun wA15 hA15 K hK => ?_) AllReadyU.nil
            go_simp
            refine (q3 wA15 hA15.1).mono ?_
            rintro e wn3 ⟨rfl, hn, hkn⟩
            have ht3 := hA15.2.keptH hkn (fun e => HNE.out e)
            refine hK.out _ _ (fun w9 => QPost 98 W g l (.slice av n cv) s4 w9 ∧ HT w9 ga 24 [.int .i64 0, .int .i64 0, .int .i64 0, .int .i64 0, .int .i64 0, .int .i64 0, .int .i64 0, .int .i64 0, .int .i64 0, .int .i64 0, .int .i64 0, .int .i64 0, .int .i64 0, .int .i64 0, .int .i64 0, .int .i64 0, .int .i64 0]) QP.cls2 ⟨hn, ht3⟩ ?_
            clear hK K
            try simp only [Act.put, List.setIfInBounds_toArray, List.set_cons_zero, List.set_cons_succ]
            refine wpAnyU_ready (rs := [19]) (by kernel_rfl) (by simp) ?_
            refine AllReadyU.cons (o := { dst := some 32, op := Op.call { callee := Callee.value (Operand.func 34), args := #[Operand.tmp 31], argTypes := #[96] }, type := 3, pos := "ref.go:150", after := #[{ on := 18, ground := Ground.data }, { on := 15, ground := Ground.chain }], guard := none }) rfl (fun wA19 hA19 K hK => ?_) AllReadyU.nil
            go_simp
            refine (q4 wA19 hA19.1).mono ?_
            rintro e wn4 ⟨rfl, hn, hkn⟩
            have ht4 := hA19.2.keptH hkn (fun e => HNE.out e)
            refine hK.out _ _ (fun w9 => QPost 98 W g l (.slice av n cv) s5 w9 ∧ HT w9 ga 24 [.int .i64 0, .int .i64 0, .int .i64 0, .int .i64 0, .int .i64 0, .int .i64 0, .int .i64 0, .int .i64 0, .int .i64 0, .int .i64 0, .int .i64 0, .int .i64 0, .int .i64 0, .int .i64 0, .int .i64 0, .int .i64 0, .int .i64 0]) QP.cls2 ⟨hn, ht4⟩ ?_
            clear hK K
            try simp only [Act.put, List.setIfInBounds_toArray, List.set_cons_zero, List.set_cons_succ]
            refine wpAnyU_ready (rs := [23]) (by kernel_rfl) (by simp) ?_
            refine AllReadyU.cons (o := { dst := some 36, op := Op.call { callee := Callee.value (Operand.func 34), args := #[Operand.tmp 35], argTypes := #[96] }, type := 3, pos := "ref.go:150", after := #[{ on := 22, ground := Ground.data }, { on := 19, ground := Ground.chain }], guard := none }) rfl (fun wA23 hA23 K hK => ?_) AllReadyU.nil
            go_simp
            refine (q5 wA23 hA23.1).mono ?_
            rintro e wn5 ⟨rfl, hn, hkn⟩
            have ht5 := hA23.2.keptH hkn (fun e => HNE.out e)
            refine hK.out _ _ (fun w9 => QPost 98 W g l (.slice av n cv) s6 w9 ∧ HT w9 ga 24 [.int .i64 0, .int .i64 0, .int .i64 0, .int .i64 0, .int .i64 0, .int .i64 0, .int .i64 0, .int .i64 0, .int .i64 0, .int .i64 0, .int .i64 0, .int .i64 0, .int .i64 0, .int .i64 0, .int .i64 0, .int .i64 0, .int .i64 0]) QP.cls2 ⟨hn, ht5⟩ ?_
            clear hK K
            try simp only [Act.put, List.setIfInBounds_toArray, List.set_cons_zero, List.set_cons_succ]
            refine wpAnyU_ready (rs := [27]) (by kernel_rfl) (by simp) ?_
            refine AllReadyU.cons (o := { dst := some 40, op := Op.call { callee := Callee.value (Operand.func 34), args := #[Operand.tmp 39], argTypes := #[96] }, type := 3, pos := "ref.go:150", after := #[{ on := 26, ground := Ground.data }, { on := 23, ground := Ground.chain }], guard := none }) rfl (fun wA27 hA27 K hK => ?_) AllReadyU.nil
            go_simp
            refine (q6 wA27 hA27.1).mono ?_
            rintro e wn6 ⟨rfl, hn, hkn⟩
            have ht6 := hA27.2.keptH hkn (fun e => HNE.out e)
            refine hK.out _ _ (fun w9 => QPost 98 W g l (.slice av n cv) s7 w9 ∧ HT w9 ga 24 [.int .i64 0, .int .i64 0, .int .i64 0, .int .i64 0, .int .i64 0, .int .i64 0, .int .i64 0, .int .i64 0, .int .i64 0, .int .i64 0, .int .i64 0, .int .i64 0, .int .i64 0, .int .i64 0, .int .i64 0, .int .i64 0, .int .i64 0]) QP.cls2 ⟨hn, ht6⟩ ?_
            clear hK K
            try simp only [Act.put, List.setIfInBounds_toArray, List.set_cons_zero, List.set_cons_succ]
            refine wpAnyU_ready (rs := [31]) (by kernel_rfl) (by simp) ?_
            refine AllReadyU.cons (o := { dst := some 44, op := Op.call { callee := Callee.value (Operand.func 34), args := #[Operand.tmp 43], argTypes := #[96] }, type := 3, pos := "ref.go:150", after := #[{ on := 30, ground := Ground.data }, { on := 27, ground := Ground.chain }], guard := none }) rfl (fun wA31 hA31 K hK => ?_) AllReadyU.nil
            go_simp
            refine (q7 wA31 hA31.1).mono ?_
            rintro e wn7 ⟨rfl, hn, hkn⟩
            have ht7 := hA31.2.keptH hkn (fun e => HNE.out e)
            refine hK.out _ _ (fun w9 => QPost 98 W g l (.slice av n cv) s8 w9 ∧ HT w9 ga 24 [.int .i64 0, .int .i64 0, .int .i64 0, .int .i64 0, .int .i64 0, .int .i64 0, .int .i64 0, .int .i64 0, .int .i64 0, .int .i64 0, .int .i64 0, .int .i64 0, .int .i64 0, .int .i64 0, .int .i64 0, .int .i64 0, .int .i64 0]) QP.cls2 ⟨hn, ht7⟩ ?_
            clear hK K
            try simp only [Act.put, List.setIfInBounds_toArray, List.set_cons_zero, List.set_cons_succ]
            refine wpAnyU_ready (rs := [35]) (by kernel_rfl) (by simp) ?_
            refine AllReadyU.cons (o := { dst := some 48, op := Op.call { callee := Callee.value (Operand.func 34), args := #[Operand.tmp 47], argTypes := #[96] }, type := 3, pos := "ref.go:150", after := #[{ on := 34, ground := Ground.data }, { on := 31, ground := Ground.chain }], guard := none }) rfl (fun wA35 hA35 K hK => ?_) AllReadyU.nil
            go_simp
            refine (q8 wA35 hA35.1).mono ?_
            rintro e wn8 ⟨rfl, hn, hkn⟩
            have ht8 := hA35.2.keptH hkn (fun e => HNE.out e)
            refine hK.out _ _ (fun w9 => QPost 98 W g l (.slice av n cv) s9 w9 ∧ HT w9 ga 24 [.int .i64 0, .int .i64 0, .int .i64 0, .int .i64 0, .int .i64 0, .int .i64 0, .int .i64 0, .int .i64 0, .int .i64 0, .int .i64 0, .int .i64 0, .int .i64 0, .int .i64 0, .int .i64 0, .int .i64 0, .int .i64 0, .int .i64 0]) QP.cls2 ⟨hn, ht8⟩ ?_
            clear hK K
            try simp only [Act.put, List.setIfInBounds_toArray, List.set_cons_zero, List.set_cons_succ]
            refine wpAnyU_ready (rs := [39]) (by kernel_rfl) (by simp) ?_
            refine AllReadyU.cons (o := { dst := some 52, op := Op.call { callee := Callee.value (Operand.func 34), args := #[Operand.tmp 51], argTypes := #[96] }, type := 3, pos := "ref.go:150", after := #[{ on := 38, ground := Ground.data }, { on := 35, ground := Ground.chain }], guard := none }) rfl (fun wA39 hA39 K hK => ?_) AllReadyU.nil
            go_simp
            refine (q9 wA39 hA39.1).mono ?_
            rintro e wn9 ⟨rfl, hn, hkn⟩
            have ht9 := hA39.2.keptH hkn (fun e => HNE.out e)
            refine hK.out _ _ (fun w9 => QPost 98 W g l (.slice av n cv) s10 w9 ∧ HT w9 ga 24 [.int .i64 0, .int .i64 0, .int .i64 0, .int .i64 0, .int .i64 0, .int .i64 0, .int .i64 0, .int .i64 0, .int .i64 0, .int .i64 0, .int .i64 0, .int .i64 0, .int .i64 0, .int .i64 0, .int .i64 0, .int .i64 0, .int .i64 0]) QP.cls2 ⟨hn, ht9⟩ ?_
            clear hK K
            try simp only [Act.put, List.setIfInBounds_toArray, List.set_cons_zero, List.set_cons_succ]
            refine wpAnyU_ready (rs := [43]) (by kernel_rfl) (by simp) ?_
            refine AllReadyU.cons (o := { dst := some 56, op := Op.call { callee := Callee.value (Operand.func 34), args := #[Operand.tmp 55], argTypes := #[96] }, type := 3, pos := "ref.go:150", after := #[{ on := 42, ground := Ground.data }, { on := 39, ground := Ground.chain }], guard := none }) rfl (fun wA43 hA43 K hK => ?_) AllReadyU.nil
            go_simp
            refine (q10 wA43 hA43.1).mono ?_
            rintro e wn10 ⟨rfl, hn, hkn⟩
            have ht10 := hA43.2.keptH hkn (fun e => HNE.out e)
            refine hK.out _ _ (fun w9 => QPost 98 W g l (.slice av n cv) s11 w9 ∧ HT w9 ga 24 [.int .i64 0, .int .i64 0, .int .i64 0, .int .i64 0, .int .i64 0, .int .i64 0, .int .i64 0, .int .i64 0, .int .i64 0, .int .i64 0, .int .i64 0, .int .i64 0, .int .i64 0, .int .i64 0, .int .i64 0, .int .i64 0, .int .i64 0]) QP.cls2 ⟨hn, ht10⟩ ?_
            clear hK K
            try simp only [Act.put, List.setIfInBounds_toArray, List.set_cons_zero, List.set_cons_succ]
            refine wpAnyU_take (i := 44) (oi := { dst := some 57, op := Op.build 24 #[(0, Operand.tmp 16), (1, Operand.tmp 20), (2, Operand.tmp 24), (3, Operand.tmp 28), (4, Operand.tmp 32), (5, Operand.tmp 36), (6, Operand.tmp 40), (7, Operand.tmp 44), (8, Operand.tmp 48), (9, Operand.tmp 52), (10, Operand.tmp 56)], type := 24, pos := "ref.go:150", after := #[{ on := 3, ground := Ground.data }, { on := 7, ground := Ground.data }, { on := 11, ground := Ground.data }, { on := 15, ground := Ground.data }, { on := 19, ground := Ground.data }, { on := 23, ground := Ground.data }, { on := 27, ground := Ground.data }, { on := 31, ground := Ground.data }, { on := 35, ground := Ground.data }, { on := 39, ground := Ground.data }, { on := 43, ground := Ground.data }], guard := none }) (v := (.agg #[.int .i64 y0, .int .i64 y1, .int .i64 y2, .int .i64 y3, .int .i64 y4, .int .i64 y5, .int .i64 y6, .int .i64 y7, .int .i64 y8, .int .i64 y9, .int .i64 y10, .int .i64 0, .int .i64 0, .int .i64 0, .int .i64 0, .int .i64 0, .int .i64 0])) rfl (by kernel_rfl) (by kernel_rfl) (by kernel_rfl) (by kernel_rfl) (by kernel_rfl) (fun _ _ _ h => h) QP.cls2 ?_ ?_
            · refine Or.inl ⟨rfl, fun w hSw => ?_⟩
              exact EffR.same (by go_simp)
            try simp only [Act.put, List.setIfInBounds_toArray, List.set_cons_zero, List.set_cons_succ]
            refine wpAnyU_last (o := { dst := none, op := Op.store 24 (Operand.tmp 5) (Operand.tmp 57), type := 0, pos := "ref.go:150", after := #[{ on := 45, ground := Ground.data }, { on := 44, ground := Ground.data }, { on := 43, ground := Ground.chain }, { on := 0, ground := Ground.phase }, { on := 1, ground := Ground.phase }, { on := 2, ground := Ground.phase }, { on := 3, ground := Ground.phase }, { on := 4, ground := Ground.phase }, { on := 5, ground := Ground.phase }, { on := 6, ground := Ground.phase }, { on := 7, ground := Ground.phase }, { on := 8, ground := Ground.phase }, { on := 9, ground := Ground.phase }, { on := 10, ground := Ground.phase }, { on := 11, ground := Ground.phase }, { on := 12, ground := Ground.phase }, { on := 13, ground := Ground.phase }, { on := 14, ground := Ground.phase }, { on := 15, ground := Ground.phase }, { on := 16, ground := Ground.phase }, { on := 17, ground := Ground.phase }, { on := 18, ground := Ground.phase }, { on := 19, ground := Ground.phase }, { on := 20, ground := Ground.phase }, { on := 21, ground := Ground.phase }, { on := 22, ground := Ground.phase }, { on := 23, ground := Ground.phase }, { on := 24, ground := Ground.phase }, { on := 25, ground := Ground.phase }, { on := 26, ground := Ground.phase }, { on := 27, ground := Ground.phase }, { on := 28, ground := Ground.phase }, { on := 29, ground := Ground.phase }, { on := 30, ground := Ground.phase }, { on := 31, ground := Ground.phase }, { on := 32, ground := Ground.phase }, { on := 33, ground := Ground.phase }, { on := 34, ground := Ground.phase }, { on := 35, ground := Ground.phase }, { on := 36, ground := Ground.phase }, { on := 37, ground := Ground.phase }, { on := 38, ground := Ground.phase }, { on := 39, ground := Ground.phase }, { on := 40, ground := Ground.phase }, { on := 41, ground := Ground.phase }, { on := 42, ground := Ground.phase }, { on := 43, ground := Ground.phase }, { on := 44, ground := Ground.phase }, { on := 45, ground := Ground.phase }], guard := none }) (by kernel_rfl) (by kernel_rfl) rfl (fun w1 hb1 K hK => ?_)
            refine step_store_mid rfl 24 (.tmp 5) (.tmp 57) rfl ga 0 [.int .i64 y0, .int .i64 y1, .int .i64 y2, .int .i64 y3, .int .i64 y4, .int .i64 y5, .int .i64 y6, .int .i64 y7, .int .i64 y8, .int .i64 y9, .int .i64 y10, .int .i64 0, .int .i64 0, .int .i64 0, .int .i64 0, .int .i64 0, .int .i64 0] rfl rfl (fun j hj => ⟨hb1.2.isSome (by simpa using hj), hb1.2.frozen _⟩) (by rw [cmdSize]; rfl) (by simp [Value.oneCell']) ?_
            have hput := hb1.2.puts (o := 0) (vs := [.int .i64 y0, .int .i64 y1, .int .i64 y2, .int .i64 y3, .int .i64 y4, .int .i64 y5, .int .i64 y6, .int .i64 y7, .int .i64 y8, .int .i64 y9, .int .i64 y10, .int .i64 0, .int .i64 0, .int .i64 0, .int .i64 0, .int .i64 0, .int .i64 0]) (by simp)
            rw [splice_all (by simp)] at hput
            have hk9 := setCells_kept ga [.int .i64 y0, .int .i64 y1, .int .i64 y2, .int .i64 y3, .int .i64 y4, .int .i64 y5, .int .i64 y6, .int .i64 y7, .int .i64 y8, .int .i64 y9, .int .i64 y10, .int .i64 0, .int .i64 0, .int .i64 0, .int .i64 0, .int .i64 0, .int .i64 0] 0 w1
            have hq9 := hb1.1.kept hk9 (by have := HGW.out; have := HGG.out; omega) HGW.out
            have HPUT := Lib.hid hput
            have HQ9 := Lib.hid hq9
            obtain ⟨w9, hw9⟩ : ∃ w9, w9 = w1.setCells ga 0 [.int .i64 y0, .int .i64 y1, .int .i64 y2, .int .i64 y3, .int .i64 y4, .int .i64 y5, .int .i64 y6, .int .i64 y7, .int .i64 y8, .int .i64 y9, .int .i64 y10, .int .i64 0, .int .i64 0, .int .i64 0, .int .i64 0, .int .i64 0, .int .i64 0] := ⟨_, rfl⟩
            rw [← hw9] at HPUT HQ9 ⊢
            clear hput hk9 hq9 hb1 hw9
            refine hK.out _ _ ?_
            clear hK K
            try simp only [Act.put]
            go_wp2_with fail
            go_meet
            exact ⟨ga, rfl, HPUT.out, HQ9.out, HGW.out, HNE.out⟩
        · go_simp
          have hga := hA45.lt
          obtain ⟨ga, hgae⟩ : ∃ ga, ga = wA45.heap.size := ⟨_, rfl⟩
          have HNE : Hid (ga ≠ g) := by show _ ≠ _; omega
          have HGW : Hid (W.heap.size ≤ ga) := by have := hA45.size; show _ ≤ _; omega
          have hnew : HT (wA45.alloc (.cells #[.int .i64 0, .int .i64 0, .int .i64 0, .int .i64 0, .int .i64 0, .int .i64 0, .int .i64 0, .int .i64 0, .int .i64 0, .int .i64 0, .int .i64 0, .int .i64 0, .int .i64 0, .int .i64 0, .int .i64 0, .int .i64 0, .int .i64 0] 24)) ga 24 [.int .i64 0, .int .i64 0, .int .i64 0, .int .i64 0, .int .i64 0, .int .i64 0, .int .i64 0, .int .i64 0, .int .i64 0, .int .i64 0, .int .i64 0, .int .i64 0, .int .i64 0, .int .i64 0, .int .i64 0, .int .i64 0, .int .i64 0] := by rw [hgae]; exact HT.new (w := wA45)
          rw [← hgae]
          clear hga hgae
          refine hK.out _ _ (fun w9 => QPost 98 W g l (.slice av n cv) s2 w9 ∧ HT w9 ga 24 [.int .i64 0, .int .i64 0, .int .i64 0, .int .i64 0, .int .i64 0, .int .i64 0, .int .i64 0, .int .i64 0, .int .i64 0, .int .i64 0, .int .i64 0, .int .i64 0, .int .i64 0, .int .i64 0, .int .i64 0, .int .i64 0, .int .i64 0]) QP.cls2 ⟨hA45.below ((Below.refl _ _).alloc (Nat.le_refl _) _), hnew⟩ ?_
          clear hK K
          try simp only [Act.put, List.setIfInBounds_toArray, List.set_cons_zero, List.set_cons_succ]
          refine wpAnyU_ready (rs := [11]) (by kernel_rfl) (by simp) ?_
          refine AllReadyU.cons (o := { dst := some 24, op := Op.call { callee := Callee.value (Operand.func 34), args := #[Operand.tmp 23], argTypes := #[96] }, type := 3, pos := "ref.go:150", after := #[{ on := 10, ground := Ground.data }, { on := 7, ground := Ground.chain }], guard := none }) rfl (fun wA11 hA11 K hK => ?_) AllReadyU.nil
          go_simp
          refine (q2 wA11 hA11.1).mono ?_
          rintro e wn2 ⟨rfl, hn, hkn⟩
          have ht2 := hA11.2.keptH hkn (fun e => HNE.out e)
          refine hK.out _ _ (fun w9 => QPost 98 W g l (.slice av n cv) s3 w9 ∧ HT w9 ga 24 [.int .i64 0, .int .i64 0, .int .i64 0, .int .i64 0, .int .i64 0, .int .i64 0, .int .i64 0, .int .i64 0, .int .i64 0, .int .i64 0, .int .i64 0, .int .i64 0, .int .i64 0, .int .i64 0, .int .i64 0, .int .i64 0, .int .i64 0]) QP.cls2 ⟨hn, ht2⟩ ?_
          clear hK K
          try simp only [Act.put, List.setIfInBounds_toArray, List.set_cons_zero, List.set_cons_succ]
          refine wpAnyU_ready (rs := [15]) (by kernel_rfl) (by simp) ?_
          refine AllReadyU.cons (o := { dst := some 28, op := Op.call { callee := Callee.value (Operand.func 34), args := #[Operand.tmp 27], argTypes := #[96] }, type := 3, pos := "ref.go:150", after := #[{ on := 14, ground := Ground.data }, { on := 11, ground := Ground.chain }], guard := none }) rfl (fun wA15 hA15 K hK => ?_) AllReadyU.nil
          go_simp
          refine (q3 wA15 hA15.1).mono ?_
          rintro e wn3 ⟨rfl, hn, hkn⟩
          have ht3 := hA15.2.keptH hkn (fun e => HNE.out e)
          refine hK.out _ _ (fun w9 => QPost 98 W g l (.slice av n cv) s4 w9 ∧ HT w9 ga 24 [.int .i64 0, .int .i64 0, .int .i64 0, .int .i64 0, .int .i64 0, .int .i64 0, .int .i64 0, .int .i64 0, .int .i64 0, .int .i64 0, .int .i64 0, .int .i64 0, .int .i64 0, .int .i64 0, .int .i64 0, .int .i64 0, .int .i64 0]) QP.cls2 ⟨hn, ht3⟩ ?_
          clear hK K
          try simp only [Act.put, List.setIfInBounds_toArray, List.set_cons_zero, List.set_cons_succ]
          refine wpAnyU_ready (rs := [19]) (by kernel_rfl) (by simp) ?_
          refine AllReadyU.cons (o := { dst := some 32, op := Op.call { callee := Callee.value (Operand.func 34), args := #[Operand.tmp 31], argTypes := #[96] }, type := 3, pos := "ref.go:150", after := #[{ on := 18, ground := Ground.data }, { on := 15, ground := Ground.chain }], guard := none }) rfl (fun wA19 hA19 K hK => ?_) AllReadyU.nil
          go_simp
          refine (q4 wA19 hA19.1).mono ?_
          rintro e wn4 ⟨rfl, hn, hkn⟩
          have ht4 := hA19.2.keptH hkn (fun e => HNE.out e)
          refine hK.out _ _ (fun w9 => QPost 98 W g l (.slice av n cv) s5 w9 ∧ HT w9 ga 24 [.int .i64 0, .int .i64 0, .int .i64 0, .int .i64 0, .int .i64 0, .int .i64 0, .int .i64 0, .int .i64 0, .int .i64 0, .int .i64 0, .int .i64 0, .int .i64 0, .int .i64 0, .int .i64 0, .int .i64 0, .int .i64 0, .int .i64 0]) QP.cls2 ⟨hn, ht4⟩ ?_
          clear hK K
          try simp only [Act.put, List.setIfInBounds_toArray, List.set_cons_zero, List.set_cons_succ]
          refine wpAnyU_ready (rs := [23]) (by kernel_rfl) (by simp) ?_
          refine AllReadyU.cons (o := { dst := some 36, op := Op.call { callee := Callee.value (Operand.func 34), args := #[Operand.tmp 35], argTypes := #[96] }, type := 3, pos := "ref.go:150", after := #[{ on := 22, ground := Ground.data }, { on := 19, ground := Ground.chain }], guard := none }) rfl (fun wA23 hA23 K hK => ?_) AllReadyU.nil
          go_simp
          refine (q5 wA23 hA23.1).mono ?_
          rintro e wn5 ⟨rfl, hn, hkn⟩
          have ht5 := hA23.2.keptH hkn (fun e => HNE.out e)
          refine hK.out _ _ (fun w9 => QPost 98 W g l (.slice av n cv) s6 w9 ∧ HT w9 ga 24 [.int .i64 0, .int .i64 0, .int .i64 0, .int .i64 0, .int .i64 0, .int .i64 0, .int .i64 0, .int .i64 0, .int .i64 0, .int .i64 0, .int .i64 0, .int .i64 0, .int .i64 0, .int .i64 0, .int .i64 0, .int .i64 0, .int .i64 0]) QP.cls2 ⟨hn, ht5⟩ ?_
          clear hK K
          try simp only [Act.put, List.setIfInBounds_toArray, List.set_cons_zero, List.set_cons_succ]
          refine wpAnyU_ready (rs := [27]) (by kernel_rfl) (by simp) ?_
          refine AllReadyU.cons (o := { dst := some 40, op := Op.call { callee := Callee.value (Operand.func 34), args := #[Operand.tmp 39], argTypes := #[96] }, type := 3, pos := "ref.go:150", after := #[{ on := 26, ground := Ground.data }, { on := 23, ground := Ground.chain }], guard := none }) rfl (fun wA27 hA27 K hK => ?_) AllReadyU.nil
          go_simp
          refine (q6 wA27 hA27.1).mono ?_
          rintro e wn6 ⟨rfl, hn, hkn⟩
          have ht6 := hA27.2.keptH hkn (fun e => HNE.out e)
          refine hK.out _ _ (fun w9 => QPost 98 W g l (.slice av n cv) s7 w9 ∧ HT w9 ga 24 [.int .i64 0, .int .i64 0, .int .i64 0, .int .i64 0, .int .i64 0, .int .i64 0, .int .i64 0, .int .i64 0, .int .i64 0, .int .i64 0, .int .i64 0, .int .i64 0, .int .i64 0, .int .i64 0, .int .i64 0, .int .i64 0, .int .i64 0]) QP.cls2 ⟨hn, ht6⟩ ?_
          clear hK K
          try simp only [Act.put, List.setIfInBounds_toArray, List.set_cons_zero, List.set_cons_succ]
          refine wpAnyU_ready (rs := [31]) (by kernel_rfl) (by simp) ?_
          refine AllReadyU.cons (o := { dst := some 44, op := Op.call { callee := Callee.value (Operand.func 34), args := #[Operand.tmp 43], argTypes := #[96] }, type := 3, pos := "ref.go:150", after := #[{ on := 30, ground := Ground.data }, { on := 27, ground := Ground.chain }], guard := none }) rfl (fun wA31 hA31 K hK => ?_) AllReadyU.nil
          go_simp
          refine (q7 wA31 hA31.1).mono ?_
          rintro e wn7 ⟨rfl, hn, hkn⟩
          have ht7 := hA31.2.keptH hkn (fun e => HNE.out e)
          refine hK.out _ _ (fun w9 => QPost 98 W g l (.slice av n cv) s8 w9 ∧ HT w9 ga 24 [.int .i64 0, .int .i64 0, .int .i64 0, .int .i64 0, .int .i64 0, .int .i64 0, .int .i64 0, .int .i64 0, .int .i64 0, .int .i64 0, .int .i64 0, .int .i64 0, .int .i64 0, .int .i64 0, .int .i64 0, .int .i64 0, .int .i64 0]) QP.cls2 ⟨hn, ht7⟩ ?_
          clear hK K
          try simp only [Act.put, List.setIfInBounds_toArray, List.set_cons_zero, List.set_cons_succ]
          refine wpAnyU_ready (rs := [35]) (by kernel_rfl) (by simp) ?_
          refine AllReadyU.cons (o := { dst := some 48, op := Op.call { callee := Callee.value (Operand.func 34), args := #[Operand.tmp 47], argTypes := #[96] }, type := 3, pos := "ref.go:150", after := #[{ on := 34, ground := Ground.data }, { on := 31, ground := Ground.chain }], guard := none }) rfl (fun wA35 hA35 K hK => ?_) AllReadyU.nil
          go_simp
          refine (q8 wA35 hA35.1).mono ?_
          rintro e wn8 ⟨rfl, hn, hkn⟩
          have ht8 := hA35.2.keptH hkn (fun e => HNE.out e)
          refine hK.out _ _ (fun w9 => QPost 98 W g l (.slice av n cv) s9 w9 ∧ HT w9 ga 24 [.int .i64 0, .int .i64 0, .int .i64 0, .int .i64 0, .int .i64 0, .int .i64 0, .int .i64 0, .int .i64 0, .int .i64 0, .int .i64 0, .int .i64 0, .int .i64 0, .int .i64 0, .int .i64 0, .int .i64 0, .int .i64 0, .int .i64 0]) QP.cls2 ⟨hn, ht8⟩ ?_
          clear hK K
          try simp only [Act.put, List.setIfInBounds_toArray, List.set_cons_zero, List.set_cons_succ]
          refine wpAnyU_ready (rs := [39]) (by kernel_rfl) (by simp) ?_
          refine AllReadyU.cons (o := { dst := some 52, op := Op.call { callee := Callee.value (Operand.func 34), args := #[Operand.tmp 51], argTypes := #[96] }, type := 3, pos := "ref.go:150", after := #[{ on := 38, ground := Ground.data }, { on := 35, ground := Ground.chain }], guard := none }) rfl (fun wA39 hA39 K hK => ?_) AllReadyU.nil
          go_simp
          refine (q9 wA39 hA39.1).mono ?_
          rintro e wn9 ⟨rfl, hn, hkn⟩
          have ht9 := hA39.2.keptH hkn (fun e => HNE.out e)
          refine hK.out _ _ (fun w9 => QPost 98 W g l (.slice av n cv) s10 w9 ∧ HT w9 ga 24 [.int .i64 0, .int .i64 0, .int .i64 0, .int .i64 0, .int .i64 0, .int .i64 0, .int .i64 0, .int .i64 0, .int .i64 0, .int .i64 0, .int .i64 0, .int .i64 0, .int .i64 0, .int .i64 0, .int .i64 0, .int .i64 0, .int .i64 0]) QP.cls2 ⟨hn, ht9⟩ ?_
          clear hK K
          try simp only [Act.put, List.setIfInBounds_toArray, List.set_cons_zero, List.set_cons_succ]
          refine wpAnyU_ready (rs := [43]) (by kernel_rfl) (by simp) ?_
          refine AllReadyU.cons (o := { dst := some 56, op := Op.call { callee := Callee.value (Operand.func 34), args := #[Operand.tmp 55], argTypes := #[96] }, type := 3, pos := "ref.go:150", after := #[{ on := 42, ground := Ground.data }, { on := 39, ground := Ground.chain }], guard := none }) rfl (fun wA43 hA43 K hK => ?_) AllReadyU.nil
          go_simp
          refine (q10 wA43 hA43.1).mono ?_
          rintro e wn10 ⟨rfl, hn, hkn⟩
          have ht10 := hA43.2.keptH hkn (fun e => HNE.out e)
          refine hK.out _ _ (fun w9 => QPost 98 W g l (.slice av n cv) s11 w9 ∧ HT w9 ga 24 [.int .i64 0, .int .i64 0, .int .i64 0, .int .i64 0, .int .i64 0, .int .i64 0, .int .i64 0, .int .i64 0, .int .i64 0, .int .i64 0, .int .i64 0, .int .i64 0, .int .i64 0, .int .i64 0, .int .i64 0, .int .i64 0, .int .i64 0]) QP.cls2 ⟨hn, ht10⟩ ?_
          clear hK K
          try simp only [Act.put, List.setIfInBounds_toArray, List.set_cons_zero, List.set_cons_succ]
          refine wpAnyU_take (i := 44) (oi := { dst := some 57, op := Op.build 24 #[(0, Operand.tmp 16), (1, Operand.tmp 20), (2, Operand.tmp 24), (3, Operand.tmp 28), (4, Operand.tmp 32), (5, Operand.tmp 36), (6, Operand.tmp 40), (7, Operand.tmp 44), (8, Operand.tmp 48), (9, Operand.tmp 52), (10, Operand.tmp 56)], type := 24, pos := "ref.go:150", after := #[{ on := 3, ground := Ground.data }, { on := 7, ground := Ground.data }, { on := 11, ground := Ground.data }, { on := 15, ground := Ground.data }, { on := 19, ground := Ground.data }, { on := 23, ground := Ground.data }, { on := 27, ground := Ground.data }, { on := 31, ground := Ground.data }, { on := 35, ground := Ground.data }, { on := 39, ground := Ground.data }, { on := 43, ground := Ground.data }], guard := none }) (v := (.agg #[.int .i64 y0, .int .i64 y1, .int .i64 y2, .int .i64 y3, .int .i64 y4, .int .i64 y5, .int .i64 y6, .int .i64 y7, .int .i64 y8, .int .i64 y9, .int .i64 y10, .int .i64 0, .int .i64 0, .int .i64 0, .int .i64 0, .int .i64 0, .int .i64 0])) rfl (by kernel_rfl) (by kernel_rfl) (by kernel_rfl) (by kernel_rfl) (by kernel_rfl) (fun _ _ _ h => h) QP.cls2 ?_ ?_
          · refine Or.inl ⟨rfl, fun w hSw => ?_⟩
            exact EffR.same (by go_simp)
          try simp only [Act.put, List.setIfInBounds_toArray, List.set_cons_zero, List.set_cons_succ]
          refine wpAnyU_last (o := { dst := none, op := Op.store 24 (Operand.tmp 5) (Operand.tmp 57), type := 0, pos := "ref.go:150", after := #[{ on := 45, ground := Ground.data }, { on := 44, ground := Ground.data }, { on := 43, ground := Ground.chain }, { on := 0, ground := Ground.phase }, { on := 1, ground := Ground.phase }, { on := 2, ground := Ground.phase }, { on := 3, ground := Ground.phase }, { on := 4, ground := Ground.phase }, { on := 5, ground := Ground.phase }, { on := 6, ground := Ground.phase }, { on := 7, ground := Ground.phase }, { on := 8, ground := Ground.phase }, { on := 9, ground := Ground.phase }, { on := 10, ground := Ground.phase }, { on := 11, ground := Ground.phase }, { on := 12, ground := Ground.phase }, { on := 13, ground := Ground.phase }, { on := 14, ground := Ground.phase }, { on := 15, ground := Ground.phase }, { on := 16, ground := Ground.phase }, { on := 17, ground := Ground.phase }, { on := 18, ground := Ground.phase }, { on := 19, ground := Ground.phase }, { on := 20, ground := Ground.phase }, { on := 21, ground := Ground.phase }, { on := 22, ground := Ground.phase }, { on := 23, ground := Ground.phase }, { on := 24, ground := Ground.phase }, { on := 25, ground := Ground.phase }, { on := 26, ground := Ground.phase }, { on := 27, ground := Ground.phase }, { on := 28, ground := Ground.phase }, { on := 29, ground := Ground.phase }, { on := 30, ground := Ground.phase }, { on := 31, ground := Ground.phase }, { on := 32, ground := Ground.phase }, { on := 33, ground := Ground.phase }, { on := 34, ground := Ground.phase }, { on := 35, ground := Ground.phase }, { on := 36, ground := Ground.phase }, { on := 37, ground := Ground.phase }, { on := 38, ground := Ground.phase }, { on := 39, ground := Ground.phase }, { on := 40, ground := Ground.phase }, { on := 41, ground := Ground.phase }, { on := 42, ground := Ground.phase }, { on := 43, ground := Ground.phase }, { on := 44, ground := Ground.phase }, { on := 45, ground := Ground.phase }], guard := none }) (by kernel_rfl) (by kernel_rfl) rfl (fun w1 hb1 K hK => ?_)
          refine step_store_mid rfl 24 (.tmp 5) (.tmp 57) rfl ga 0 [.int .i64 y0, .int .i64 y1, .int .i64 y2, .int .i64 y3, .int .i64 y4, .int .i64 y5, .int .i64 y6, .int .i64 y7, .int .i64 y8, .int .i64 y9, .int .i64 y10, .int .i64 0, .int .i64 0, .int .i64 0, .int .i64 0, .int .i64 0, .int .i64 0] rfl rfl (fun j hj => ⟨hb1.2.isSome (by simpa using hj), hb1.2.frozen _⟩) (by rw [cmdSize]; rfl) (by simp [Value.oneCell']) ?_
          have hput := hb1.2.puts (o := 0) (vs := [.int .i64 y0, .int .i64 y1, .int .i64 y2, .int .i64 y3, .int .i64 y4, .int .i64 y5, .int .i64 y6, .int .i64 y7, .int .i64 y8, .int .i64 y9, .int .i64 y10, .int .i64 0, .int .i64 0, .int .i64 0, .int .i64 0, .int .i64 0, .int .i64 0]) (by simp)
          rw [splice_all (by simp)] at hput
          have hk9 := setCells_kept ga [.int .i64 y0, .int .i64 y1, .int .i64 y2, .int .i64 y3, .int .i64 y4, .int .i64 y5, .int .i64 y6, .int .i64 y7, .int .i64 y8, .int .i64 y9, .int .i64 y10, .int .i64 0, .int .i64 0, .int .i64 0, .int .i64 0, .int .i64 0, .int .i64 0] 0 w1
          have hq9 := hb1.1.kept hk9 (by have := HGW.out; have := HGG.out; omega) HGW.out
          have HPUT := Lib.hid hput
          have HQ9 := Lib.hid hq9
          obtain ⟨w9, hw9⟩ : ∃ w9, w9 = w1.setCells ga 0 [.int .i64 y0, .int .i64 y1, .int .i64 y2, .int .i64 y3, .int .i64 y4, .int .i64 y5, .int .i64 y6, .int .i64 y7, .int .i64 y8, .int .i64 y9, .int .i64 y10, .int .i64 0, .int .i64 0, .int .i64 0, .int .i64 0, .int .i64 0, .int .i64 0] := ⟨_, rfl⟩
          rw [← hw9] at HPUT HQ9 ⊢
          clear hput hk9 hq9 hb1 hw9
          refine hK.out _ _ ?_
          clear hK K
          try simp only [Act.put]
          go_wp2_with fail
          go_meet
          exact ⟨ga, rfl, HPUT.out, HQ9.out, HGW.out, HNE.out⟩
      · go_simp
        have hga := hA45.lt
        obtain ⟨ga, hgae⟩ : ∃ ga, ga = wA45.heap.size := ⟨_, rfl⟩
        have HNE : Hid (ga ≠ g) := by show _ ≠ _; omega
        have HGW : Hid (W.heap.size ≤ ga) := by have := hA45.size; show _ ≤ _; omega
        have hnew : HT (wA45.alloc (.cells #[.int .i64 0, .int .i64 0, .int .i64 0, .int .i64 0, .int .i64 0, .int .i64 0, .int .i64 0, .int .i64 0, .int .i64 0, .int .i64 0, .int .i64 0, .int .i64 0, .int .i64 0, .int .i64 0, .int .i64 0, .int .i64 0, .int .i64 0] 24)) ga 24 [.int .i64 0, .int .i64 0, .int .i64 0, .int .i64 0, .int .i64 0, .int .i64 0, .int .i64 0, .int .i64 0, .int .i64 0, .int .i64 0, .int .i64 0, .int .i64 0, .int .i64 0, .int .i64 0, .int .i64 0, .int .i64 0, .int .i64 0] := by rw [hgae]; exact HT.new (w := wA45)
        rw [← hgae]
        clear hga hgae
        refine hK.out _ _ (fun w9 => QPost 98 W g l (.slice av n cv) s1 w9 ∧ HT w9 ga 24 [.int .i64 0, .int .i64 0, .int .i64 0, .int .i64 0, .int .i64 0, .int .i64 0, .int .i64 0, .int .i64 0, .int .i64 0, .int .i64 0, .int .i64 0, .int .i64 0, .int .i64 0, .int .i64 0, .int .i64 0, .int .i64 0, .int .i64 0]) QP.cls2 ⟨hA45.below ((Below.refl _ _).alloc (Nat.le_refl _) _), hnew⟩ ?_
        clear hK K
        try simp only [Act.put, List.setIfInBounds_toArray, List.set_cons_zero, List.set_cons_succ]
        refine wpAnyU_ready (rs := [7]) (by kernel_rfl) (by simp) ?_
        refine AllReadyU.cons (o := { dst := some 20, op := Op.call { callee := Callee.value (Operand.func 34), args := #[Operand.tmp 19], argTypes := #[96] }, type := 3, pos := "ref.go:150", after := #[{ on := 6, ground := Ground.data }, { on := 3, ground := Ground.chain }], guard := none }) rfl (fun wA7 hA7 K hK => ?_) AllReadyU.nil
        go_simp
        refine (q1 wA7 hA7.1).mono ?_
        rintro e wn1 ⟨rfl, hn, hkn⟩
        have ht1 := hA7.2.keptH hkn (fun e => HNE.out e)
        refine hK.out _ _ (fun w9 => QPost 98 W g l (.slice av n cv) s2 w9 ∧ HT w9 ga 24 [.int .i64 0, .int .i64 0, .int .i64 0, .int .i64 0, .int .i64 0, .int .i64 0, .int .i64 0, .int .i64 0, .int .i64 0, .int .i64 0, .int .i64 0, .int .i64 0, .int .i64 0, .int .i64 0, .int .i64 0, .int .i64 0, .int .i64 0]) QP.cls2 ⟨hn, ht1⟩ ?_
        clear hK K
        try simp only [Act.put, List.setIfInBounds_toArray, List.set_cons_zero, List.set_cons_succ]
        refine wpAnyU_ready (rs := [11]) (by kernel_rfl) (by simp) ?_
        refine AllReadyU.cons (o := { dst := some 24, op := Op.call { callee := Callee.value (Operand.func 34), args := #[Operand.tmp 23], argTypes := #[96] }, type := 3, pos := "ref.go:150", after := #[{ on := 10, ground := Ground.data }, { on := 7, ground := Ground.chain }], guard := none }) rfl (fun wA11 hA11 K hK => ?_) AllReadyU.nil
        go_simp
        refine (q2 wA11 hA11.1).mono ?_
        rintro e wn2 ⟨rfl, hn, hkn⟩
        have ht2 := hA11.2.keptH hkn (fun e => HNE.out e)
        refine hK.out _ _ (fun w9 => QPost 98 W g l (.slice av n cv) s3 w9 ∧ HT w9 ga 24 [.int .i64 0, .int .i64 0, .int .i64 0, .int .i64 0, .int .i64 0, .int .i64 0, .int .i64 0, .int .i64 0, .int .i64 0, .int .i64 0, .int .i64 0, .int .i64 0, .int .i64 0, .int .i64 0, .int .i64 0, .int .i64 0, .int .i64 0]) QP.cls2 ⟨hn, ht2⟩ ?_
        clear hK K
        try simp only [Act.put, List.setIfInBounds_toArray, List.set_cons_zero, List.set_cons_succ]
        refine wpAnyU_ready (rs := [15]) (by kernel_rfl) (by simp) ?_
        refine AllReadyU.cons (o := { dst := some 28, op := Op.call { callee := Callee.value (Operand.func 34), args := #[Operand.tmp 27], argTypes := #[96] }, type := 3, pos := "ref.go:150", after := #[{ on := 14, ground := Ground.data }, { on := 11, ground := Ground.chain }], guard := none }) rfl (fun wA15 hA15 K hK => ?_) AllReadyU.nil
        go_simp
        refine (q3 wA15 hA15.1).mono ?_
        rintro e wn3 ⟨rfl, hn, hkn⟩
        have ht3 := hA15.2.keptH hkn (fun e => HNE.out e)
        refine hK.out _ _ (fun w9 => QPost 98 W g l (.slice av n cv) s4 w9 ∧ HT w9 ga 24 [.int .i64 0, .int .i64 0, .int .i64 0, .int .i64 0, .int .i64 0, .int .i64 0, .int .i64 0, .int .i64 0, .int .i64 0, .int .i64 0, .int .i64 0, .int .i64 0, .int .i64 0, .int .i64 0, .int .i64 0, .int .i64 0, .int .i64 0]) QP.cls2 ⟨hn, ht3⟩ ?_
        clear hK K
        try simp only [Act.put, List.setIfInBounds_toArray, List.set_cons_zero, List.set_cons_succ]
        refine wpAnyU_ready (rs := [19]) (by kernel_rfl) (by simp) ?_
        refine AllReadyU.cons (o := { dst := some 32, op := Op.call { callee := Callee.value (Operand.func 34), args := #[Operand.tmp 31], argTypes := #[96] }, type := 3, pos := "ref.go:150", after := #[{ on := 18, ground := Ground.data }, { on := 15, ground := Ground.chain }], guard := none }) rfl (fun wA19 hA19 K hK => ?_) AllReadyU.nil
        go_simp
        refine (q4 wA19 hA19.1).mono ?_
        rintro e wn4 ⟨rfl, hn, hkn⟩
        have ht4 := hA19.2.keptH hkn (fun e => HNE.out e)
        refine hK.out _ _ (fun w9 => QPost 98 W g l (.slice av n cv) s5 w9 ∧ HT w9 ga 24 [.int .i64 0, .int .i64 0, .int .i64 0, .int .i64 0, .int .i64 0, .int .i64 0, .int .i64 0, .int .i64 0, .int .i64 0, .int .i64 0, .int .i64 0, .int .i64 0, .int .i64 0, .int .i64 0, .int .i64 0, .int .i64 0, .int .i64 0]) QP.cls2 ⟨hn, ht4⟩ ?_
        clear hK K
        try simp only [Act.put, List.setIfInBounds_toArray, List.set_cons_zero, List.set_cons_succ]
        refine wpAnyU_ready (rs := [23]) (by kernel_rfl) (by simp) ?_
        refine AllReadyU.cons (o := { dst := some 36, op := Op.call { callee := Callee.value (Operand.func 34), args := #[Operand.tmp 35], argTypes := #[96] }, type := 3, pos := "ref.go:150", after := #[{ on := 22, ground := Ground.data }, { on := 19, ground := Ground.chain }], guard := none }) rfl (fun wA23 hA23 K hK => ?_) AllReadyU.nil
        go_simp
        refine (q5 wA23 hA23.1).mono ?_
        rintro e wn5 ⟨rfl, hn, hkn⟩
        have ht5 := hA23.2.keptH hkn (fun e => HNE.out e)
        refine hK.out _ _ (fun w9 => QPost 98 W g l (.slice av n cv) s6 w9 ∧ HT w9 ga 24 [.int .i64 0, .int .i64 0, .int .i64 0, .int .i64 0, .int .i64 0, .int .i64 0, .int .i64 0, .int .i64 0, .int .i64 0, .int .i64 0, .int .i64 0, .int .i64 0, .int .i64 0, .int .i64 0, .int .i64 0, .int .i64 0, .int .i64 0]) QP.cls2 ⟨hn, ht5⟩ ?_
        clear hK K
        try simp only [Act.put, List.setIfInBounds_toArray, List.set_cons_zero, List.set_cons_succ]
        refine wpAnyU_ready (rs := [27]) (by kernel_rfl) (by simp) ?_
        refine AllReadyU.cons (o := { dst := some 40, op := Op.call { callee := Callee.value (Operand.func 34), args := #[Operand.tmp 39], argTypes := #[96] }, type := 3, pos := "ref.go:150", after := #[{ on := 26, ground := Ground.data }, { on := 23, ground := Ground.chain }], guard := none }) rfl (fun wA27 hA27 K hK => ?_) AllReadyU.nil
        go_simp
        refine (q6 wA27 hA27.1).mono ?_
        rintro e wn6 ⟨rfl, hn, hkn⟩
        have ht6 := hA27.2.keptH hkn (fun e => HNE.out e)
        refine hK.out _ _ (fun w9 => QPost 98 W g l (.slice av n cv) s7 w9 ∧ HT w9 ga 24 [.int .i64 0, .int .i64 0, .int .i64 0, .int .i64 0, .int .i64 0, .int .i64 0, .int .i64 0, .int .i64 0, .int .i64 0, .int .i64 0, .int .i64 0, .int .i64 0, .int .i64 0, .int .i64 0, .int .i64 0, .int .i64 0, .int .i64 0]) QP.cls2 ⟨hn, ht6⟩ ?_
        clear hK K
        try simp only [Act.put, List.setIfInBounds_toArray, List.set_cons_zero, List.set_cons_succ]
        refine wpAnyU_ready (rs := [31]) (by kernel_rfl) (by simp) ?_
        refine AllReadyU.cons (o := { dst := some 44, op := Op.call { callee := Callee.value (Operand.func 34), args := #[Operand.tmp 43], argTypes := #[96] }, type := 3, pos := "ref.go:150", after := #[{ on := 30, ground := Ground.data }, { on := 27, ground := Ground.chain }], guard := none }) rfl (fun wA31 hA31 K hK => ?_) AllReadyU.nil
        go_simp
        refine (q7 wA31 hA31.1).mono ?_
        rintro e wn7 ⟨rfl, hn, hkn⟩
        have ht7 := hA31.2.keptH hkn (fun e => HNE.out e)
        refine hK.out _ _ (fun w9 => QPost 98 W g l (.slice av n cv) s8 w9 ∧ HT w9 ga 24 [.int .i64 0, .int .i64 0, .int .i64 0, .int .i64 0, .int .i64 0, .int .i64 0, .int .i64 0, .int .i64 0, .int .i64 0, .int .i64 0, .int .i64 0, .int .i64 0, .int .i64 0, .int .i64 0, .int .i64 0, .int .i64 0, .int .i64 0]) QP.cls2 ⟨hn, ht7⟩ ?_
        clear hK K
        try simp only [Act.put, List.setIfInBounds_toArray, List.set_cons_zero, List.set_cons_succ]
        refine wpAnyU_ready (rs := [35]) (by kernel_rfl) (by simp) ?_
        refine AllReadyU.cons (o := { dst := some 48, op := Op.call { callee := Callee.value (Operand.func 34), args := #[Operand.tmp 47], argTypes := #[96] }, type := 3, pos := "ref.go:150", after := #[{ on := 34, ground := Ground.data }, { on := 31, ground := Ground.chain }], guard := none }) rfl (fun wA35 hA35 K hK => ?_) AllReadyU.nil
        go_simp
        refine (q8 wA35 hA35.1).mono ?_
        rintro e wn8 ⟨rfl, hn, hkn⟩
        have ht8 := hA35.2.keptH hkn (fun e => HNE.out e)
        refine hK.out _ _ (fun w9 => QPost 98 W g l (.slice av n cv) s9 w9 ∧ HT w9 ga 24 [.int .i64 0, .int .i64 0, .int .i64 0, .int .i64 0, .int .i64 0, .int .i64 0, .int .i64 0, .int .i64 0, .int .i64 0, .int .i64 0, .int .i64 0, .int .i64 0, .int .i64 0, .int .i64 0, .int .i64 0, .int .i64 0, .int .i64 0]) QP.cls2 ⟨hn, ht8⟩ ?_
        clear hK K
        try simp only [Act.put, List.setIfInBounds_toArray, List.set_cons_zero, List.set_cons_succ]
        refine wpAnyU_ready (rs := [39]) (by kernel_rfl) (by simp) ?_
        refine AllReadyU.cons (o := { dst := some 52, op := Op.call { callee := Callee.value (Operand.func 34), args := #[Operand.tmp 51], argTypes := #[96] }, type := 3, pos := "ref.go:150", after := #[{ on := 38, ground := Ground.data }, { on := 35, ground := Ground.chain }], guard := none }) rfl (fun wA39 hA39 K hK => ?_) AllReadyU.nil
        go_simp
        refine (q9 wA39 hA39.1).mono ?_
        rintro e wn9 ⟨rfl, hn, hkn⟩
        have ht9 := hA39.2.keptH hkn (fun e => HNE.out e)
        refine hK.out _ _ (fun w9 => QPost 98 W g l (.slice av n cv) s10 w9 ∧ HT w9 ga 24 [.int .i64 0, .int .i64 0, .int .i64 0, .int .i64 0, .int .i64 0, .int .i64 0, .int .i64 0, .int .i64 0, .int .i64 0, .int .i64 0, .int .i64 0, .int .i64 0, .int .i64 0, .int .i64 0, .int .i64 0, .int .i64 0, .int .i64 0]) QP.cls2 ⟨hn, ht9⟩ ?_
        clear hK K
        try simp only [Act.put, List.setIfInBounds_toArray, List.set_cons_zero, List.set_cons_succ]
        refine wpAnyU_ready (rs := [43]) (by kernel_rfl) (by simp) ?_
        refine AllReadyU.cons (o := { dst := some 56, op := Op.call { callee := Callee.value (Operand.func 34), args := #[Operand.tmp 55], argTypes := #[96] }, type := 3, pos := "ref.go:150", after := #[{ on := 42, ground := Ground.data }, { on := 39, ground := Ground.chain }], guard := none }) rfl (fun wA43 hA43 K hK => ?_) AllReadyU.nil
        go_simp
        refine (q10 wA43 hA43.1).mono ?_
        rintro e wn10 ⟨rfl, hn, hkn⟩
        have ht10 := hA43.2.keptH hkn (fun e => HNE.out e)
        refine hK.out _ _ (fun w9 => QPost 98 W g l (.slice av n cv) s11 w9 ∧ HT w9 ga 24 [.int .i64 0, .int .i64 0, .int .i64 0, .int .i64 0, .int .i64 0, .int .i64 0, .int .i64 0, .int .i64 0, .int .i64 0, .int .i64 0, .int .i64 0, .int .i64 0, .int .i64 0, .int .i64 0, .int .i64 0, .int .i64 0, .int .i64 0]) QP.cls2 ⟨hn, ht10⟩ ?_
        clear hK K
        try simp only [Act.put, List.setIfInBounds_toArray, List.set_cons_zero, List.set_cons_succ]
        refine wpAnyU_take (i := 44) (oi := { dst := some 57, op := Op.build 24 #[(0, Operand.tmp 16), (1, Operand.tmp 20), (2, Operand.tmp 24), (3, Operand.tmp 28), (4, Operand.tmp 32), (5, Operand.tmp 36), (6, Operand.tmp 40), (7, Operand.tmp 44), (8, Operand.tmp 48), (9, Operand.tmp 52), (10, Operand.tmp 56)], type := 24, pos := "ref.go:150", after := #[{ on := 3, ground := Ground.data }, { on := 7, ground := Ground.data }, { on := 11, ground := Ground.data }, { on := 15, ground := Ground.data }, { on := 19, ground := Ground.data }, { on := 23, ground := Ground.data }, { on := 27, ground := Ground.data }, { on := 31, ground := Ground.data }, { on := 35, ground := Ground.data }, { on := 39, ground := Ground.data }, { on := 43, ground := Ground.data }], guard := none }) (v := (.agg #[.int .i64 y0, .int .i64 y1, .int .i64 y2, .int .i64 y3, .int .i64 y4, .int .i64 y5, .int .i64 y6, .int .i64 y7, .int .i64 y8, .int .i64 y9, .int .i64 y10, .int .i64 0, .int .i64 0, .int .i64 0, .int .i64 0, .int .i64 0, .int .i64 0])) rfl (by kernel_rfl) (by kernel_rfl) (by kernel_rfl) (by kernel_rfl) (by kernel_rfl) (fun _ _ _ h => h) QP.cls2 ?_ ?_
        · refine Or.inl ⟨rfl, fun w hSw => ?_⟩
          exact EffR.same (by go_simp)
        try simp only [Act.put, List.setIfInBounds_toArray, List.set_cons_zero, List.set_cons_succ]
        refine wpAnyU_last (o := { dst := none, op := Op.store 24 (Operand.tmp 5) (Operand.tmp 57), type := 0, pos := "ref.go:150", after := #[{ on := 45, ground := Ground.data }, { on := 44, ground := Ground.data }, { on := 43, ground := Ground.chain }, { on := 0, ground := Ground.phase }, { on := 1, ground := Ground.phase }, { on := 2, ground := Ground.phase }, { on := 3, ground := Ground.phase }, { on := 4, ground := Ground.phase }, { on := 5, ground := Ground.phase }, { on := 6, ground := Ground.phase }, { on := 7, ground := Ground.phase }, { on := 8, ground := Ground.phase }, { on := 9, ground := Ground.phase }, { on := 10, ground := Ground.phase }, { on := 11, ground := Ground.phase }, { on := 12, ground := Ground.phase }, { on := 13, ground := Ground.phase }, { on := 14, ground := Ground.phase }, { on := 15, ground := Ground.phase }, { on := 16, ground := Ground.phase }, { on := 17, ground := Ground.phase }, { on := 18, ground := Ground.phase }, { on := 19, ground := Ground.phase }, { on := 20, ground := Ground.phase }, { on := 21, ground := Ground.phase }, { on := 22, ground := Ground.phase }, { on := 23, ground := Ground.phase }, { on := 24, ground := Ground.phase }, { on := 25, ground := Ground.phase }, { on := 26, ground := Ground.phase }, { on := 27, ground := Ground.phase }, { on := 28, ground := Ground.phase }, { on := 29, ground := Ground.phase }, { on := 30, ground := Ground.phase }, { on := 31, ground := Ground.phase }, { on := 32, ground := Ground.phase }, { on := 33, ground := Ground.phase }, { on := 34, ground := Ground.phase }, { on := 35, ground := Ground.phase }, { on := 36, ground := Ground.phase }, { on := 37, ground := Ground.phase }, { on := 38, ground := Ground.phase }, { on := 39, ground := Ground.phase }, { on := 40, ground := Ground.phase }, { on := 41, ground := Ground.phase }, { on := 42, ground := Ground.phase }, { on := 43, ground := Ground.phase }, { on := 44, ground := Ground.phase }, { on := 45, ground := Ground.phase }], guard := none }) (by kernel_rfl) (by kernel_rfl) rfl (fun w1 hb1 K hK => ?_)
        refine step_store_mid rfl 24 (.tmp 5) (.tmp 57) rfl ga 0 [.int .i64 y0, .int .i64 y1, .int .i64 y2, .int .i64 y3, .int .i64 y4, .int .i64 y5, .int .i64 y6, .int .i64 y7, .int .i64 y8, .int .i64 y9, .int .i64 y10, .int .i64 0, .int .i64 0, .int .i64 0, .int .i64 0, .int .i64 0, .int .i64 0] rfl rfl (fun j hj => ⟨hb1.2.isSome (by simpa using hj), hb1.2.frozen _⟩) (by rw [cmdSize]; rfl) (by simp [Value.oneCell']) ?_
        have hput := hb1.2.puts (o := 0) (vs := [.int .i64 y0, .int .i64 y1, .int .i64 y2, .int .i64 y3, .int .i64 y4, .int .i64 y5, .int .i64 y6, .int .i64 y7, .int .i64 y8, .int .i64 y9, .int .i64 y10, .int .i64 0, .int .i64 0, .int .i64 0, .int .i64 0, .int .i64 0, .int .i64 0]) (by simp)
        rw [splice_all (by simp)] at hput
        have hk9 := setCells_kept ga [.int .i64 y0, .int .i64 y1, .int .i64 y2, .int .i64 y3, .int .i64 y4, .int .i64 y5, .int .i64 y6, .int .i64 y7, .int .i64 y8, .int .i64 y9, .int .i64 y10, .int .i64 0, .int .i64 0, .int .i64 0, .int .i64 0, .int .i64 0, .int .i64 0] 0 w1
        have hq9 := hb1.1.kept hk9 (by have := HGW.out; have := HGG.out; omega) HGW.out
        have HPUT := Lib.hid hput
        have HQ9 := Lib.hid hq9
        obtain ⟨w9, hw9⟩ : ∃ w9, w9 = w1.setCells ga 0 [.int .i64 y0, .int .i64 y1, .int .i64 y2, .int .i64 y3, .int .i64 y4, .int .i64 y5, .int .i64 y6, .int .i64 y7, .int .i64 y8, .int .i64 y9, .int .i64 y10, .int .i64 0, .int .i64 0, .int .i64 0, .int .i64 0, .int .i64 0, .int .i64 0] := ⟨_, rfl⟩
        rw [← hw9] at HPUT HQ9 ⊢
        clear hput hk9 hq9 hb1 hw9
        refine hK.out _ _ ?_
        clear hK K
        try simp only [Act.put]
        go_wp2_with fail
        go_meet
        exact ⟨ga, rfl, HPUT.out, HQ9.out, HGW.out, HNE.out⟩
    · go_simp
      have hga := hA45.lt
      obtain ⟨ga, hgae⟩ : ∃ ga, ga = wA45.heap.size := ⟨_, rfl⟩
      have HNE : Hid (ga ≠ g) := by show _ ≠ _; omega
      have HGW : Hid (W.heap.size ≤ ga) := by have := hA45.size; show _ ≤ _; omega
      have hnew : HT (wA45.alloc (.cells #[.int .i64 0, .int .i64 0, .int .i64 0, .int .i64 0, .int .i64 0, .int .i64 0, .int .i64 0, .int .i64 0, .int .i64 0, .int .i64 0, .int .i64 0, .int .i64 0, .int .i64 0, .int .i64 0, .int .i64 0, .int .i64 0, .int .i64 0] 24)) ga 24 [.int .i64 0, .int .i64 0, .int .i64 0, .int .i64 0, .int .i64 0, .int .i64 0, .int .i64 0, .int .i64 0, .int .i64 0, .int .i64 0, .int .i64 0, .int .i64 0, .int .i64 0, .int .i64 0, .int .i64 0, .int .i64 0, .int .i64 0] := by rw [hgae]; exact HT.new (w := wA45)
      rw [← hgae]
      clear hga hgae
      refine hK.out _ _ (fun w9 => QPost 98 W g l (.slice av n cv) s0 w9 ∧ HT w9 ga 24 [.int .i64 0, .int .i64 0, .int .i64 0, .int .i64 0, .int .i64 0, .int .i64 0, .int .i64 0, .int .i64 0, .int .i64 0, .int .i64 0, .int .i64 0, .int .i64 0, .int .i64 0, .int .i64 0, .int .i64 0, .int .i64 0, .int .i64 0]) QP.cls2 ⟨hA45.below ((Below.refl _ _).alloc (Nat.le_refl _) _), hnew⟩ ?_
      clear hK K
      try simp only [Act.put, List.setIfInBounds_toArray, List.set_cons_zero, List.set_cons_succ]
      refine wpAnyU_ready (rs := [3]) (by kernel_rfl) (by simp) ?_
      refine AllReadyU.cons (o := { dst := some 16, op := Op.call { callee := Callee.value (Operand.func 34), args := #[Operand.tmp 15], argTypes := #[96] }, type := 3, pos := "ref.go:150", after := #[{ on := 2, ground := Ground.data }], guard := none }) rfl (fun wA3 hA3 K hK => ?_) AllReadyU.nil
      go_simp
      refine (q0 wA3 hA3.1).mono ?_
      rintro e wn0 ⟨rfl, hn, hkn⟩
      have ht0 := hA3.2.keptH hkn (fun e => HNE.out e)
      refine hK.out _ _ (fun w9 => QPost 98 W g l (.slice av n cv) s1 w9 ∧ HT w9 ga 24 [.int .i64 0, .int .i64 0, .int .i64 0, .int .i64 0, .int .i64 0, .int .i64 0, .int .i64 0, .int .i64 0, .int .i64 0, .int .i64 0, .int .i64 0, .int .i64 0, .int .i64 0, .int .i64 0, .int .i64 0, .int .i64 0, .int .i64 0]) QP.cls2 ⟨hn, ht0⟩ ?_
      clear hK K
      try simp only [Act.put, List.setIfInBounds_toArray, List.set_cons_zero, List.set_cons_succ]
      refine wpAnyU_ready (rs := [7]) (by kernel_rfl) (by simp) ?_
      refine AllReadyU.cons (o := { dst := some 20, op := Op.call { callee := Callee.value (Operand.func 34), args := #[Operand.tmp 19], argTypes := #[96] }, type := 3, pos := "ref.go:150", after := #[{ on := 6, ground := Ground.data }, { on := 3, ground := Ground.chain }], guard := none }) rfl (fun wA7 hA7 K hK => ?_) AllReadyU.nil
      go_simp
      refine (q1 wA7 hA7.1).mono ?_
      rintro e wn1 ⟨rfl, hn, hkn⟩
      have ht1 := hA7.2.keptH hkn (fun e => HNE.out e)
      refine hK.out _ _ (fun w9 => QPost 98 W g l (.slice av n cv) s2 w9 ∧ HT w9 ga 24 [.int .i64 0, .int .i64 0, .int .i64 0, .int .i64 0, .int .i64 0, .int .i64 0, .int .i64 0, .int .i64 0, .int .i64 0, .int .i64 0, .int .i64 0, .int .i64 0, .int .i64 0, .int .i64 0, .int .i64 0, .int .i64 0, .int .i64 0]) QP.cls2 ⟨hn, ht1⟩ ?_
      clear hK K
      try simp only [Act.put, List.setIfInBounds_toArray, List.set_cons_zero, List.set_cons_succ]
      refine wpAnyU_ready (rs := [11]) (by kernel_rfl) (by simp) ?_
      refine AllReadyU.cons (o := { dst := some 24, op := Op.call { callee := Callee.value (Operand.func 34), args := #[Operand.tmp 23], argTypes := #[96] }, type := 3, pos := "ref.go:150", after := #[{ on := 10, ground := Ground.data }, { on := 7, ground := Ground.chain }], guard := none }) rfl (fun wA11 hA11 K hK => ?_) AllReadyU.nil
      go_simp
      refine (q2 wA11 hA11.1).mono ?_
      rintro e wn2 ⟨rfl, hn, hkn⟩
      have ht2 := hA11.2.keptH hkn (fun e => HNE.out e)
      refine hK.out _ _ (fun w9 => QPost 98 W g l (.slice av n cv) s3 w9 ∧ HT w9 ga 24 [.int .i64 0, .int .i64 0, .int .i64 0, .int .i64 0, .int .i64 0, .int .i64 0, .int .i64 0, .int .i64 0, .int .i64 0, .int .i64 0, .int .i64 0, .int .i64 0, .int .i64 0, .int .i64 0, .int .i64 0, .int .i64 0, .int .i64 0]) QP.cls2 ⟨hn, ht2⟩ ?_
      clear hK K
      try simp only [Act.put, List.setIfInBounds_toArray, List.set_cons_zero, List.set_cons_succ]
      refine wpAnyU_ready (rs := [15]) (by kernel_rfl) (by simp) ?_
      refine AllReadyU.cons (o := { dst := some 28, op := Op.call { callee := Callee.value (Operand.func 34), args := #[Operand.tmp 27], argTypes := #[96] }, type := 3, pos := "ref.go:150", after := #[{ on := 14, ground := Ground.data }, { on := 11, ground := Ground.chain }], guard := none }) rfl (fun wA15 hA15 K hK => ?_) AllReadyU.nil
      go_simp
      refine (q3 wA15 hA15.1).mono ?_
      rintro e wn3 ⟨rfl, hn, hkn⟩
      have ht3 := hA15.2.keptH hkn (fun e => HNE.out e)
      refine hK.out _ _ (fun w9 => QPost 98 W g l (.slice av n cv) s4 w9 ∧ HT w9 ga 24 [.int .i64 0, .int .i64 0, .int .i64 0, .int .i64 0, .int .i64 0, .int .i64 0, .int .i64 0, .int .i64 0, .int .i64 0, .int .i64 0, .int .i64 0, .int .i64 0, .int .i64 0, .int .i64 0, .int .i64 0, .int .i64 0, .int .i64 0]) QP.cls2 ⟨hn, ht3⟩ ?_
      clear hK K
      try simp only [Act.put, List.setIfInBounds_toArray, List.set_cons_zero, List.set_cons_succ]
      refine wpAnyU_ready (rs := [19]) (by kernel_rfl) (by simp) ?_
      refine AllReadyU.cons (o := { dst := some 32, op := Op.call { callee := Callee.value (Operand.func 34), args := #[Operand.tmp 31], argTypes := #[96] }, type := 3, pos := "ref.go:150", after := #[{ on := 18, ground := Ground.data }, { on := 15, ground := Ground.chain }], guard := none }) rfl (fun wA19 hA19 K hK => ?_) AllReadyU.nil
      go_simp
      refine (q4 wA19 hA19.1).mono ?_
      rintro e wn4 ⟨rfl, hn, hkn⟩
      have ht4 := hA19.2.keptH hkn (fun e => HNE.out e)
      refine hK.out _ _ (fun w9 => QPost 98 W g l (.slice av n cv) s5 w9 ∧ HT w9 ga 24 [.int .i64 0, .int .i64 0, .int .i64 0, .int .i64 0, .int .i64 0, .int .i64 0, .int .i64 0, .int .i64 0, .int .i64 0, .int .i64 0, .int .i64 0, .int .i64 0, .int .i64 0, .int .i64 0, .int .i64 0, .int .i64 0, .int .i64 0]) QP.cls2 ⟨hn, ht4⟩ ?_
      clear hK K
      try simp only [Act.put, List.setIfInBounds_toArray, List.set_cons_zero, List.set_cons_succ]
      refine wpAnyU_ready (rs := [23]) (by kernel_rfl) (by simp) ?_
      refine AllReadyU.cons (o := { dst := some 36, op := Op.call { callee := Callee.value (Operand.func 34), args := #[Operand.tmp 35], argTypes := #[96] }, type := 3, pos := "ref.go:150", after := #[{ on := 22, ground := Ground.data }, { on := 19, ground := Ground.chain }], guard := none }) rfl (fun wA23 hA23 K hK => ?_) AllReadyU.nil
      go_simp
      refine (q5 wA23 hA23.1).mono ?_
      rintro e wn5 ⟨rfl, hn, hkn⟩
      have ht5 := hA23.2.keptH hkn (fun e => HNE.out e)
      refine hK.out _ _ (fun w9 => QPost 98 W g l (.slice av n cv) s6 w9 ∧ HT w9 ga 24 [.int .i64 0, .int .i64 0, .int .i64 0, .int .i64 0, .int .i64 0, .int .i64 0, .int .i64 0, .int .i64 0, .int .i64 0, .int .i64 0, .int .i64 0, .int .i64 0, .int .i64 0, .int .i64 0, .int .i64 0, .int .i64 0, .int .i64 0]) QP.cls2 ⟨hn, ht5⟩ ?_
      clear hK K
      try simp only [Act.put, List.setIfInBounds_toArray, List.set_cons_zero, List.set_cons_succ]
      refine wpAnyU_ready (rs := [27]) (by kernel_rfl) (by simp) ?_
      refine AllReadyU.cons (o := { dst := some 40, op := Op.call { callee := Callee.value (Operand.func 34), args := #[Operand.tmp 39], argTypes := #[96] }, type := 3, pos := "ref.go:150", after := #[{ on := 26, ground := Ground.data }, { on := 23, ground := Ground.chain }], guard := none }) rfl (fun wA27 hA27 K hK => ?_) AllReadyU.nil
      go_simp
      refine (q6 wA27 hA27.1).mono ?_
      rintro e wn6 ⟨rfl, hn, hkn⟩
      have ht6 := hA27.2.keptH hkn (fun e => HNE.out e)
      refine hK.out _ _ (fun w9 => QPost 98 W g l (.slice av n cv) s7 w9 ∧ HT w9 ga 24 [.int .i64 0, .int .i64 0, .int .i64 0, .int .i64 0, .int .i64 0, .int .i64 0, .int .i64 0, .int .i64 0, .int .i64 0, .int .i64 0, .int .i64 0, .int .i64 0, .int .i64 0, .int .i64 0, .int .i64 0, .int .i64 0, .int .i64 0]) QP.cls2 ⟨hn, ht6⟩ ?_
      clear hK K
      try simp only [Act.put, List.setIfInBounds_toArray, List.set_cons_zero, List.set_cons_succ]
      refine wpAnyU_ready (rs := [31]) (by kernel_rfl) (by simp) ?_
      refine AllReadyU.cons (o := { dst := some 44, op := Op.call { callee := Callee.value (Operand.func 34), args := #[Operand.tmp 43], argTypes := #[96] }, type := 3, pos := "ref.go:150", after := #[{ on := 30, ground := Ground.data }, { on := 27, ground := Ground.chain }], guard := none }) rfl (fun wA31 hA31 K hK => ?_) AllReadyU.nil
      go_simp
      refine (q7 wA31 hA31.1).mono ?_
      rintro e wn7 ⟨rfl, hn, hkn⟩
      have ht7 := hA31.2.keptH hkn (fun e => HNE.out e)
      refine hK.out _ _ (fun w9 => QPost 98 W g l (.slice av n cv) s8 w9 ∧ HT w9 ga 24 [.int .i64 0, .int .i64 0, .int .i64 0, .int .i64 0, .int .i64 0, .int .i64 0, .int .i64 0, .int .i64 0, .int .i64 0, .int .i64 0, .int .i64 0, .int .i64 0, .int .i64 0, .int .i64 0, .int .i64 0, .int .i64 0, .int .i64 0]) QP.cls2 ⟨hn, ht7⟩ ?_
      clear hK K
      try simp only [Act.put, List.setIfInBounds_toArray, List.set_cons_zero, List.set_cons_succ]
      refine wpAnyU_ready (rs := [35]) (by kernel_rfl) (by simp) ?_
      refine AllReadyU.cons (o := { dst := some 48, op := Op.call { callee := Callee.value (Operand.func 34), args := #[Operand.tmp 47], argTypes := #[96] }, type := 3, pos := "ref.go:150", after := #[{ on := 34, ground := Ground.data }, { on := 31, ground := Ground.chain }], guard := none }) rfl (fun wA35 hA35 K hK => ?_) AllReadyU.nil
      go_simp
      refine (q8 wA35 hA35.1).mono ?_
      rintro e wn8 ⟨rfl, hn, hkn⟩
      have ht8 := hA35.2.keptH hkn (fun e => HNE.out e)
      refine hK.out _ _ (fun w9 => QPost 98 W g l (.slice av n cv) s9 w9 ∧ HT w9 ga 24 [.int .i64 0, .int .i64 0, .int .i64 0, .int .i64 0, .int .i64 0, .int .i64 0, .int .i64 0, .int .i64 0, .int .i64 0, .int .i64 0, .int .i64 0, .int .i64 0, .int .i64 0, .int .i64 0, .int .i64 0, .int .i64 0, .int .i64 0]) QP.cls2 ⟨hn, ht8⟩ ?_
      clear hK K
      try simp only [Act.put, List.setIfInBounds_toArray, List.set_cons_zero, List.set_cons_succ]
      refine wpAnyU_ready (rs := [39]) (by kernel_rfl) (by simp) ?_
      refine AllReadyU.cons (o := { dst := some 52, op := Op.call { callee := Callee.value (Operand.func 34), args := #[Operand.tmp 51], argTypes := #[96] }, type := 3, pos := "ref.go:150", after := #[{ on := 38, ground := Ground.data }, { on := 35, ground := Ground.chain }], guard := none }) rfl (fun wA39 hA39 K hK => ?_) AllReadyU.nil
      go_simp
      refine (q9 wA39 hA39.1).mono ?_
      rintro e wn9 ⟨rfl, hn, hkn⟩
      have ht9 := hA39.2.keptH hkn (fun e => HNE.out e)
      refine hK.out _ _ (fun w9 => QPost 98 W g l (.slice av n cv) s10 w9 ∧ HT w9 ga 24 [.int .i64 0, .int .i64 0, .int .i64 0, .int .i64 0, .int .i64 0, .int .i64 0, .int .i64 0, .int .i64 0, .int .i64 0, .int .i64 0, .int .i64 0, .int .i64 0, .int .i64 0, .int .i64 0, .int .i64 0, .int .i64 0, .int .i64 0]) QP.cls2 ⟨hn, ht9⟩ ?_
      clear hK K
      try simp only [Act.put, List.setIfInBounds_toArray, List.set_cons_zero, List.set_cons_succ]
      refine wpAnyU_ready (rs := [43]) (by kernel_rfl) (by simp) ?_
      refine AllReadyU.cons (o := { dst := some 56, op := Op.call { callee := Callee.value (Operand.func 34), args := #[Operand.tmp 55], argTypes := #[96] }, type := 3, pos := "ref.go:150", after := #[{ on := 42, ground := Ground.data }, { on := 39, ground := Ground.chain }], guard := none }) rfl (fun wA43 hA43 K hK => ?_) AllReadyU.nil
      go_simp
      refine (q10 wA43 hA43.1).mono ?_
      rintro e wn10 ⟨rfl, hn, hkn⟩
      have ht10 := hA43.2.keptH hkn (fun e => HNE.out e)
      refine hK.out _ _ (fun w9 => QPost 98 W g l (.slice av n cv) s11 w9 ∧ HT w9 ga 24 [.int .i64 0, .int .i64 0, .int .i64 0, .int .i64 0, .int .i64 0, .int .i64 0, .int .i64 0, .int .i64 0, .int .i64 0, .int .i64 0, .int .i64 0, .int .i64 0, .int .i64 0, .int .i64 0, .int .i64 0, .int .i64 0, .int .i64 0]) QP.cls2 ⟨hn, ht10⟩ ?_
      clear hK K
      try simp only [Act.put, List.setIfInBounds_toArray, List.set_cons_zero, List.set_cons_succ]
      refine wpAnyU_take (i := 44) (oi := { dst := some 57, op := Op.build 24 #[(0, Operand.tmp 16), (1, Operand.tmp 20), (2, Operand.tmp 24), (3, Operand.tmp 28), (4, Operand.tmp 32), (5, Operand.tmp 36), (6, Operand.tmp 40), (7, Operand.tmp 44), (8, Operand.tmp 48), (9, Operand.tmp 52), (10, Operand.tmp 56)], type := 24, pos := "ref.go:150", after := #[{ on := 3, ground := Ground.data }, { on := 7, ground := Ground.data }, { on := 11, ground := Ground.data }, { on := 15, ground := Ground.data }, { on := 19, ground := Ground.data }, { on := 23, ground := Ground.data }, { on := 27, ground := Ground.data }, { on := 31, ground := Ground.data }, { on := 35, ground := Ground.data }, { on := 39, ground := Ground.data }, { on := 43, ground := Ground.data }], guard := none }) (v := (.agg #[.int .i64 y0, .int .i64 y1, .int .i64 y2, .int .i64 y3, .int .i64 y4, .int .i64 y5, .int .i64 y6, .int .i64 y7, .int .i64 y8, .int .i64 y9, .int .i64 y10, .int .i64 0, .int .i64 0, .int .i64 0, .int .i64 0, .int .i64 0, .int .i64 0])) rfl (by kernel_rfl) (by kernel_rfl) (by kernel_rfl) (by kernel_rfl) (by kernel_rfl) (fun _ _ _ h => h) QP.cls2 ?_ ?_
      · refine Or.inl ⟨rfl, fun w hSw => ?_⟩
        exact EffR.same (by go_simp)
      try simp only [Act.put, List.setIfInBounds_toArray, List.set_cons_zero, List.set_cons_succ]
      refine wpAnyU_last (o := { dst := none, op := Op.store 24 (Operand.tmp 5) (Operand.tmp 57), type := 0, pos := "ref.go:150", after := #[{ on := 45, ground := Ground.data }, { on := 44, ground := Ground.data }, { on := 43, ground := Ground.chain }, { on := 0, ground := Ground.phase }, { on := 1, ground := Ground.phase }, { on := 2, ground := Ground.phase }, { on := 3, ground := Ground.phase }, { on := 4, ground := Ground.phase }, { on := 5, ground := Ground.phase }, { on := 6, ground := Ground.phase }, { on := 7, ground := Ground.phase }, { on := 8, ground := Ground.phase }, { on := 9, ground := Ground.phase }, { on := 10, ground := Ground.phase }, { on := 11, ground := Ground.phase }, { on := 12, ground := Ground.phase }, { on := 13, ground := Ground.phase }, { on := 14, ground := Ground.phase }, { on := 15, ground := Ground.phase }, { on := 16, ground := Ground.phase }, { on := 17, ground := Ground.phase }, { on := 18, ground := Ground.phase }, { on := 19, ground := Ground.phase }, { on := 20, ground := Ground.phase }, { on := 21, ground := Ground.phase }, { on := 22, ground := Ground.phase }, { on := 23, ground := Ground.phase }, { on := 24, ground := Ground.phase }, { on := 25, ground := Ground.phase }, { on := 26, ground := Ground.phase }, { on := 27, ground := Ground.phase }, { on := 28, ground := Ground.phase }, { on := 29, ground := Ground.phase }, { on := 30, ground := Ground.phase }, { on := 31, ground := Ground.phase }, { on := 32, ground := Ground.phase }, { on := 33, ground := Ground.phase }, { on := 34, ground := Ground.phase }, { on := 35, ground := Ground.phase }, { on := 36, ground := Ground.phase }, { on := 37, ground := Ground.phase }, { on := 38, ground := Ground.phase }, { on := 39, ground := Ground.phase }, { on := 40, ground := Ground.phase }, { on := 41, ground := Ground.phase }, { on := 42, ground := Ground.phase }, { on := 43, ground := Ground.phase }, { on := 44, ground := Ground.phase }, { on := 45, ground := Ground.phase }], guard := none }) (by kernel_rfl) (by kernel_rfl) rfl (fun w1 hb1 K hK => ?_)
      refine step_store_mid rfl 24 (.tmp 5) (.tmp 57) rfl ga 0 [.int .i64 y0, .int .i64 y1, .int .i64 y2, .int .i64 y3, .int .i64 y4, .int .i64 y5, .int .i64 y6, .int .i64 y7, .int .i64 y8, .int .i64 y9, .int .i64 y10, .int .i64 0, .int .i64 0, .int .i64 0, .int .i64 0, .int .i64 0, .int .i64 0] rfl rfl (fun j hj => ⟨hb1.2.isSome (by simpa using hj), hb1.2.frozen _⟩) (by rw [cmdSize]; rfl) (by simp [Value.oneCell']) ?_
      have hput := hb1.2.puts (o := 0) (vs := [.int .i64 y0, .int .i64 y1, .int .i64 y2, .int .i64 y3, .int .i64 y4, .int .i64 y5, .int .i64 y6, .int .i64 y7, .int .i64 y8, .int .i64 y9, .int .i64 y10, .int .i64 0, .int .i64 0, .int .i64 0, .int .i64 0, .int .i64 0, .int .i64 0]) (by simp)
      rw [splice_all (by simp)] at hput
      have hk9 := setCells_kept ga [.int .i64 y0, .int .i64 y1, .int .i64 y2, .int .i64 y3, .int .i64 y4, .int .i64 y5, .int .i64 y6, .int .i64 y7, .int .i64 y8, .int .i64 y9, .int .i64 y10, .int .i64 0, .int .i64 0, .int .i64 0, .int .i64 0, .int .i64 0, .int .i64 0] 0 w1
      have hq9 := hb1.1.kept hk9 (by have := HGW.out; have := HGG.out; omega) HGW.out
      have HPUT := Lib.hid hput
      have HQ9 := Lib.hid hq9
      obtain ⟨w9, hw9⟩ : ∃ w9, w9 = w1.setCells ga 0 [.int .i64 y0, .int .i64 y1, .int .i64 y2, .int .i64 y3, .int .i64 y4, .int .i64 y5, .int .i64 y6, .int .i64 y7, .int .i64 y8, .int .i64 y9, .int .i64 y10, .int .i64 0, .int .i64 0, .int .i64 0, .int .i64 0, .int .i64 0, .int .i64 0] := ⟨_, rfl⟩
      rw [← hw9] at HPUT HQ9 ⊢
      clear hput hk9 hq9 hb1 hw9
      refine hK.out _ _ ?_
      clear hK K
      try simp only [Act.put]
      go_wp2_with fail
      go_meet
      exact ⟨ga, rfl, HPUT.out, HQ9.out, HGW.out, HNE.out⟩
  case rest =>
    obtain ⟨ga, rfl, hht, hq, hgw, hne⟩ := hcut
    have hc1 : HT wc w.heap.size 24 [.int .i64 0, .int .i64 0, .int .i64 0, .int .i64 0, .int .i64 0, .int .i64 0, .int .i64 0, .int .i64 0, .int .i64 0, .int .i64 0, .int .i64 0, .int .i64 0, .int .i64 0, .int .i64 0, .int .i64 0, .int .i64 0, .int .i64 0] := by
      obtain ⟨m, _, _, hk⟩ := hq
      exact HC1.out.keptH hk (fun (e : w.heap.size = g) => by omega)
    have hbr : Below w.heap.size w wc := by
      obtain ⟨m, _, _, hk⟩ := hq
      exact HB2.out.trans (hk.below (fun k hk (e : k = g) => by omega) HB2.out.size)
    have hq1 : QPost 98 wc g l (.slice av n cv) s11 wc := by
      obtain ⟨m, h1, h2, _⟩ := hq
      exact ⟨m, h1, h2, Kept.refl _ _⟩
    have sh := rshifts_any wc g l (.slice av n cv) s11 hq1 HLEN.out
    obtain ⟨h17, he17⟩ : (rIs 17 (l, 0)).1 = [y0, y1, y2, y3, y4, y5, y6, y7, y8, y9, y10] ++ (rIs 6 s11).1 ∧ (rIs 17 (l, 0)).2 = (rIs 6 s11).2 := by
      have h := rIs_add 11 6 (l, 0)
      obtain ⟨u0, u1, u2, u3, u4, u5, u6, u7, u8, u9, u10, z0, z1, z2, z3, z4, z5, z6, z7, z8, z9, z10, z11⟩ := HSEQ.out
      have e : rIs 11 (l, 0) = ([y0, y1, y2, y3, y4, y5, y6, y7, y8, y9, y10], s11) := by
        simp only [rIs, List.nil_append, List.cons_append]
        rw [← z0, ← u0, ← z1, ← u1, ← z2, ← u2, ← z3, ← u3, ← z4, ← u4, ← z5, ← u5, ← z6, ← u6, ← z7, ← u7, ← z8, ← u8, ← z9, ← u9, ← z10, ← u10, ← z11]
      rw [e] at h
      rw [show (17 : Nat) = 11 + 6 from rfl, h]
      exact ⟨rfl, rfl⟩
    have hl6 := rIs_len 6 s11
    obtain ⟨zz, hzz⟩ : ∃ z, z = (rIs 6 s11).1 := ⟨_, rfl⟩
    obtain ⟨sf, hsf⟩ : ∃ z, z = (rIs 6 s11).2 := ⟨_, rfl⟩
    unfold ShPost at sh
    rw [← hzz, ← hsf] at sh
    rw [← hzz] at h17 hl6
    rw [← hsf] at he17
    have hsp : splice [.int .i64 y0, .int .i64 y1, .int .i64 y2, .int .i64 y3, .int .i64 y4, .int .i64 y5, .int .i64 y6, .int .i64 y7, .int .i64 y8, .int .i64 y9, .int .i64 y10, .int .i64 0, .int .i64 0, .int .i64 0, .int .i64 0, .int .i64 0, .int .i64 0] 11 (ivs zz) = ivs ([y0, y1, y2, y3, y4, y5, y6, y7, y8, y9, y10] ++ zz) := by
      unfold splice
      rw [List.length_map, hl6]
      show _ = List.map _ _
      rw [List.map_append]
      simp only [List.take_succ_cons, List.take_zero, List.drop_succ_cons, List.map_cons, List.map_nil, List.append_nil, List.cons_append, List.nil_append, List.drop_nil]
    rw [← h17] at hsp
    have hl17 := rIs_len 17 (l, 0)
    obtain ⟨L, hL⟩ : ∃ L, L = (rIs 17 (l, 0)).1 := ⟨_, rfl⟩
    rw [← hL] at hsp hl17
    have HRC : Hid (readC l = if 65536 < n then (zs17, 6) else if rD sf = 0 then (L, 0) else (zs17, 6)) := by
      show _ = _
      unfold readC
      rw [he17, ← hL, ← HN.out]
    have HQ1 := Lib.hid hq1
    have HHT := Lib.hid hht
    have HR1 := Lib.hid (⟨hc1, hbr, hgw, hne⟩ : _ ∧ _ ∧ _ ∧ _)
    have HSP := Lib.hid hsp
    have HL6 := Lib.hid hl6
    have HL17 := Lib.hid hl17
    clear hht hq hgw hne hc1 hbr hq1 h17 he17 hl6 hzz hsf hsp hl17 hL q0 q1 q2 q3 q4 q5 q6 q7 q8 q9 q10 HSEQ
    go_wp2_with fail
    refine sh.mono ?_
    clear sh
    rintro e w2 ⟨rfl, hq2⟩
    obtain ⟨m2, hqr, hd2, hk2⟩ := hq2
    have hht2 := HHT.out.keptH hk2 (fun e => HR1.out.2.2.2 e)
    have hc2 := HR1.out.1.keptH hk2 (fun (e : w.heap.size = g) => by omega)
    have hput := hht2.puts (o := 11) (vs := ivs zz) (by rw [List.length_map, HL6.out]; simp)
    rw [HSP.out] at hput
    have hk3 := setCells_kept ga (ivs zz) 11 w2
    have hqr3 := hqr.kept hk3 (fun k hk (e : k = ga) => by have := HR1.out.2.2.1; have := HGG.out; omega)
    have hc3 := hc2.keptH hk3 (fun (e : w.heap.size = ga) => by have := HR1.out.2.2.1; have := HGG.out; omega)
    have dn := QDone_any _ g l _ m2 sf.2 hqr3
    rw [hd2] at dn
    have hb3 : Below w.heap.size w (w2.setCells ga 11 (ivs zz)) := (HR1.out.2.1.trans (hk2.below (fun k hk (e : k = g) => by omega) HR1.out.2.1.size)).trans (hk3.below (fun k hk (e : k = ga) => by have := HR1.out.2.2.1; have := HGG.out; omega) (HR1.out.2.1.trans (hk2.below (fun k hk (e : k = g) => by omega) HR1.out.2.1.size)).size)
    have HTH : Hid (w2.there ga 11 (ivs zz).toArray.size) := fun j hj => ⟨hht2.isSome (by simp [HL6.out] at hj ⊢; omega), hht2.frozen _⟩
    have HSIX : Hid ((Try.prog.info? 22).map (·.size) = some (ivs zz).toArray.size) := by show _ = _; rw [sixSize]; simp [ivs, HL6.out]
    have HPUT := Lib.hid hput
    have HC3 := Lib.hid hc3
    have HB3 := Lib.hid hb3
    obtain ⟨d, hd⟩ : ∃ d, d = rD sf := ⟨_, rfl⟩
    rw [show rD (sf.1, sf.2) = rD sf from rfl, ← hd] at dn
    rw [← hd] at HRC
    have HSZ : Hid ((Try.prog.info? 24).map (·.size) = some (ivs L).toArray.size) := by show _ = _; rw [cmdSize]; simp [ivs, HL17.out]
    have HS17 : Hid ((#[.int .i64 0, .int .i64 0, .int .i64 0, .int .i64 0, .int .i64 0, .int .i64 0, .int .i64 0, .int .i64 0, .int .i64 0, .int .i64 0, .int .i64 0, .int .i64 0, .int .i64 0, .int .i64 0, .int .i64 0, .int .i64 0, .int .i64 0] : Array Value).size = (ivs L).toArray.size) := by show _ = _; simp [ivs, HL17.out]
    clear hqr hd2 hk2 hht2 hc2 hput hk3 hqr3 hc3 hb3 hd
    go_wp2_with (first
      | (refine wpList_store_mid rfl 22 (.tmp 60) (.tmp 59) rfl ga 11 (ivs zz).toArray rfl rfl HTH.out HSIX.out (ivs_one zz) ?_)
      | fail)
    refine dn.mono ?_
    clear dn
    rintro e w3 ⟨rfl, hb4⟩
    have HG5 : Hid (w3.heap[ga]? = some (.cells (ivs L).toArray 24 (0, 0))) := HPUT.out.below hb4
    have HG2 : Hid (w3.heap[w.heap.size]? = some (.cells #[.int .i64 0, .int .i64 0, .int .i64 0, .int .i64 0, .int .i64 0, .int .i64 0, .int .i64 0, .int .i64 0, .int .i64 0, .int .i64 0, .int .i64 0, .int .i64 0, .int .i64 0, .int .i64 0, .int .i64 0, .int .i64 0, .int .i64 0] 24 (0, 0))) := HC3.out.below hb4
    have HB4 := Lib.hid (HB3.out.trans (hb4.mono HB3.out.size))
    clear hb4
    by_cases hz : d = 0
    · subst hz
      by_cases hlong : 65536 < n
      · have HE := Lib.hid (show readC l = (zs17, 6) by rw [HRC.out, if_pos hlong])
        go_wp2_with (first
          | (refine wpList_store_row rfl 24 (.tmp 2) (.tmp 71) rfl w.heap.size #[.int .i64 0, .int .i64 0, .int .i64 0, .int .i64 0, .int .i64 0, .int .i64 0, .int .i64 0, .int .i64 0, .int .i64 0, .int .i64 0, .int .i64 0, .int .i64 0, .int .i64 0, .int .i64 0, .int .i64 0, .int .i64 0, .int .i64 0] rfl rfl 24 #[.int .i64 0, .int .i64 0, .int .i64 0, .int .i64 0, .int .i64 0, .int .i64 0, .int .i64 0, .int .i64 0, .int .i64 0, .int .i64 0, .int .i64 0, .int .i64 0, .int .i64 0, .int .i64 0, .int .i64 0, .int .i64 0, .int .i64 0] HG2.out zSize rfl z_one ?_)
          | fail)
        refine bodyPost_ret (results_row_tmp rfl _ _ w.heap.size 24 #[.int .i64 0, .int .i64 0, .int .i64 0, .int .i64 0, .int .i64 0, .int .i64 0, .int .i64 0, .int .i64 0, .int .i64 0, .int .i64 0, .int .i64 0, .int .i64 0, .int .i64 0, .int .i64 0, .int .i64 0, .int .i64 0, .int .i64 0] (0, 0) _ rfl (setRow_heap _ _ _ _ _ _ HG2.out) Try.underlying24 rfl zSize rfl) rfl ?_
        exact ⟨by rw [HE.out]; rfl, HB4.out.trans (setRow_below (Nat.le_refl _) _)⟩
      · have HE := Lib.hid (show readC l = (L, 0) by rw [HRC.out, if_neg hlong, if_pos rfl])
        go_wp2_with (first
          | (refine wpList_load_row rfl 24 (.tmp 5) rfl ga rfl 24 (ivs L).toArray (0, 0) _ HG5.out Try.underlying24 rfl HSZ.out ?_)
          | (refine wpList_store_row rfl 24 (.tmp 2) (.tmp 72) rfl w.heap.size (ivs L).toArray rfl rfl 24 #[.int .i64 0, .int .i64 0, .int .i64 0, .int .i64 0, .int .i64 0, .int .i64 0, .int .i64 0, .int .i64 0, .int .i64 0, .int .i64 0, .int .i64 0, .int .i64 0, .int .i64 0, .int .i64 0, .int .i64 0, .int .i64 0, .int .i64 0] HG2.out HSZ.out HS17.out (ivs_one L) ?_)
          | fail)
        refine bodyPost_ret (results_row_tmp rfl _ _ w.heap.size 24 (ivs L).toArray (0, 0) _ rfl (setRow_heap _ _ _ _ _ _ HG2.out) Try.underlying24 rfl HSZ.out rfl) rfl ?_
        exact ⟨by rw [HE.out]; rfl, HB4.out.trans (setRow_below (Nat.le_refl _) _)⟩
    · have hz' : (d != 0) = true := by rw [bne_iff_ne]; exact hz
      have HE := Lib.hid (show readC l = (zs17, 6) by rw [HRC.out, if_neg hz]; split <;> rfl)
      clear hz
      go_wp2_with (first
        | (refine wpList_store_row rfl 24 (.tmp 2) (.tmp 71) rfl w.heap.size #[.int .i64 0, .int .i64 0, .int .i64 0, .int .i64 0, .int .i64 0, .int .i64 0, .int .i64 0, .int .i64 0, .int .i64 0, .int .i64 0, .int .i64 0, .int .i64 0, .int .i64 0, .int .i64 0, .int .i64 0, .int .i64 0, .int .i64 0] rfl rfl 24 #[.int .i64 0, .int .i64 0, .int .i64 0, .int .i64 0, .int .i64 0, .int .i64 0, .int .i64 0, .int .i64 0, .int .i64 0, .int .i64 0, .int .i64 0, .int .i64 0, .int .i64 0, .int .i64 0, .int .i64 0, .int .i64 0, .int .i64 0] HG2.out zSize rfl z_one ?_)
        | fail)
      refine bodyPost_ret (results_row_tmp rfl _ _ w.heap.size 24 #[.int .i64 0, .int .i64 0, .int .i64 0, .int .i64 0, .int .i64 0, .int .i64 0, .int .i64 0, .int .i64 0, .int .i64 0, .int .i64 0, .int .i64 0, .int .i64 0, .int .i64 0, .int .i64 0, .int .i64 0, .int .i64 0, .int .i64 0] (0, 0) _ rfl (setRow_heap _ _ _ _ _ _ HG2.out) Try.underlying24 rfl zSize rfl) rfl ?_
      exact ⟨by rw [HE.out]; rfl, HB4.out.trans (setRow_below (Nat.le_refl _) _)⟩

end Cam
