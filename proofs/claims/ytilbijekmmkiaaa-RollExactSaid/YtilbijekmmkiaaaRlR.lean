import Derived.Test.YtilbijekmmkiaaaRlD
/- the page: Member, Inst, Held, Roll. -/
namespace Cam
open Go Go.RowKit Go.Proofs
set_option maxRecDepth 100000 in
set_option maxHeartbeats 1600000 in
theorem rMember_any (w : World) (va vb vc : Value) (L : List MbT) (nn : Int) (x : MbT) (b : Bool) (h : Rs MbT.vs 3 w va L) (hx : x = fdX MbT.no mZ nn L) (hi : b = hasB MbT.no nn L) :
  Calls Try.prog 14 #[.agg #[va, vb, vc], .int .i64 nn] w fun e w' => e = .returned (.tuple #[.agg #[.int .i64 x.no, .int .i64 x.state, .int .i64 x.need], .bool b]) ∧ Below w.heap.size w w' := by
 obtain ⟨av, cap, rfl, hcap, hm⟩ := h.shape
 obtain ⟨n, hn⟩ : ∃ n, n = L.length := ⟨_, rfl⟩
 rw [← hn] at h hcap ⊢
 have HR := Lib.hid h
 have HN := Lib.hid hn
 have HXX := Lib.hid hx
 have HII := Lib.hid hi
 have hb0 : Below w.heap.size w ((w.alloc (.cells #[.slice av n cap, vb, vc] 26)).alloc (.cells #[.int .i64 0, .int .i64 0, .int .i64 0] 33)) := ((Below.refl _ _).alloc (Nat.le_refl _) _).alloc (by simp) _
 have hr : HT ((w.alloc (.cells #[.slice av n cap, vb, vc] 26)).alloc (.cells #[.int .i64 0, .int .i64 0, .int .i64 0] 33)) w.heap.size 26 [.slice av n cap, vb, vc] := (HT.new (w := w) (t := 26) (C := [.slice av n cap, vb, vc])).below ((Below.refl _ _).alloc (Nat.le_refl _) _)
 have hg : HT ((w.alloc (.cells #[.slice av n cap, vb, vc] 26)).alloc (.cells #[.int .i64 0, .int .i64 0, .int .i64 0] 33)) (w.heap.size + 1) 33 [.int .i64 0, .int .i64 0, .int .i64 0] := by
  have := HT.new (w := w.alloc (.cells #[.slice av n cap, vb, vc] 26)) (t := 33) (C := [.int .i64 0, .int .i64 0, .int .i64 0])
  rwa [show (w.alloc (.cells #[.slice av n cap, vb, vc] 26)).heap.size = w.heap.size + 1 by simp] at this
 have HB0 := Lib.hid hb0
 have HG := Lib.hid hg
 have HRR := Lib.hid hr
 clear h hn hx hi hb0 hg hr
 go_enter Try.func14, Try.ntmps14
 go_wp2_with fail
 obtain ⟨g0, hg0⟩ : ∃ g, g = w.heap.size + 1 := ⟨_, rfl⟩
 have HGE := Lib.hid hg0
 rw [← hg0] at HG ⊢
 clear hg0
 go_loopw [6] (fun i wr => ∃ k : Nat, k ≤ n ∧ i = .int .i64 k ∧ Hid (NotTo MbT.no nn L k) ∧ HT wr w.heap.size 26 [.slice av n cap, vb, vc] ∧ HT wr g0 33 [.int .i64 0, .int .i64 0, .int .i64 0] ∧ Below w.heap.size w wr) (fun i _ => n - (intOf i).toNat)
 case atStart => exact ⟨0, Nat.zero_le _, rfl, NotTo.zero _ _ _, HRR.out, HG.out, HB0.out⟩
 case round =>
  obtain ⟨k, hk, rfl, HN0, hrb, hg0, hbel⟩ := hrel
  have HBL := Lib.hid hbel
  have HRB := Lib.hid hrb
  have HG0 := Lib.hid hg0
  have hcr := hrb.cell (j := 0) rfl
  clear hbel hrb hg0
  by_cases hlt : k < n
  ·
   have hkL : k < L.length := by rw [← HN.out]; exact hlt
   obtain ⟨ba, offa, rfl, _, hca⟩ := (HR.out.rew HN.out HBL.out).at (by omega) (by decide)
   obtain ⟨c, hc⟩ : ∃ c, c = L[k] := ⟨_, rfl⟩
   have HCA : Hid (∀ j v, [.int .i64 c.no, .int .i64 c.state, .int .i64 c.need][j]? = some v → wr.cell? ⟨ba, offa + k * 3 + j, none⟩ = some v) := fun j v h => hca k hkL j v (by rw [← hc]; exact h)
   have hk0 : (0 : Int) ≤ k := by omega
   have hk1 : (k : Int) < n := by omega
   have HC := Lib.hid hc
   clear hc hca
   have hcn : wr.cell? ⟨ba, offa + k * 3, none⟩ = some (.int .i64 c.no) := HCA.out 0 _ rfl
   have HSZ : Hid ((Try.prog.info? 33).map (·.size) = some (#[.int .i64 c.no, .int .i64 c.state, .int .i64 c.need] : Array Value).size) := by show _ = _; rw [mem_sz]; rfl
   have HON : Hid ((#[.int .i64 c.no, .int .i64 c.state, .int .i64 c.need] : Array Value).all (·.oneCell') = true) := by show _ = true; simp [Value.oneCell']
   by_cases he : c.no = nn
   ·
    have HHIT := Lib.hid (fd_hit mZ HN0.out hkL (by rw [← HC.out]; exact he))
    have he2 : (c.no == nn) = true := by simpa using he
    clear he
    have HG2 : Hid (wr.heap[g0]? = some (.cells #[.int .i64 0, .int .i64 0, .int .i64 0] 33 (0, 0))) := HG0.out
    go_wp2_with (first
     | (refine wpList_load_mid rfl 33 (.tmp 25) rfl ba (offa + k * 3) rfl [.int .i64 c.no, .int .i64 c.state, .int .i64 c.need] _ (fun j v h => HCA.out j v h) Try.underlying33 rfl HSZ.out ?_)
     | (refine wpList_store_row rfl 33 (.tmp 4) (.tmp 26) rfl g0 #[.int .i64 c.no, .int .i64 c.state, .int .i64 c.need] rfl rfl 33 #[.int .i64 0, .int .i64 0, .int .i64 0] HG2.out HSZ.out rfl HON.out ?_)
     | fail)
    refine bodyPost_ret (results_ht rfl (HT.row HG2.out rfl) rfl rfl Try.underlying33 rfl mem_sz) rfl ⟨?_, HBL.out.trans (setRow_below (by have := HGE.out; omega) _)⟩
    have e1 := HHIT.out.2.2
    have e2 := HHIT.out.2.1
    rw [HXX.out, HII.out, e1, e2, ← HC.out]
    rfl
   ·
    have HNX := Lib.hid (HN0.out.next hkL (by rw [← HC.out]; exact he))
    have he2 : (c.no == nn) = false := by simpa using he
    clear he
    go_wp2_with fail
    exact ⟨⟨k + 1, by omega, by push_cast; rfl, HNX.out, HRB.out, HG0.out, HBL.out⟩, by simp [intOf]; omega⟩
  ·
   obtain rfl : k = n := by omega
   have HHIT := Lib.hid (fd_miss mZ HN0.out (by have := HN.out; omega))
   have HSZ : Hid ((Try.prog.info? 33).map (·.size) = some (#[.int .i64 0, .int .i64 0, .int .i64 0] : Array Value).size) := by show _ = _; rw [mem_sz]; rfl
   have HON : Hid ((#[.int .i64 0, .int .i64 0, .int .i64 0] : Array Value).all (·.oneCell') = true) := by show _ = true; simp [Value.oneCell']
   have HG2 : Hid (wr.heap[g0]? = some (.cells #[.int .i64 0, .int .i64 0, .int .i64 0] 33 (0, 0))) := HG0.out
   go_wp2_with (first
    | (refine wpList_store_row rfl 33 (.tmp 4) (.tmp 27) rfl g0 #[.int .i64 0, .int .i64 0, .int .i64 0] rfl rfl 33 #[.int .i64 0, .int .i64 0, .int .i64 0] HG2.out HSZ.out rfl HON.out ?_)
    | fail)
   refine bodyPost_ret (results_ht rfl (HT.row HG2.out rfl) rfl rfl Try.underlying33 rfl mem_sz) rfl ⟨?_, HBL.out.trans (setRow_below (by have := HGE.out; omega) _)⟩
   rw [HXX.out, HII.out, HHIT.out.2.2, HHIT.out.2.1]
   rfl
set_option maxRecDepth 100000 in
set_option maxHeartbeats 1600000 in
theorem rInst_any (w : World) (va vb vc : Value) (L : List InT) (nn : Int) (x : InT) (b : Bool) (h : Rs InT.vs 12 w vb L) (hx : x = fdX InT.no iZ nn L) (hi : b = hasB InT.no nn L) :
  Calls Try.prog 16 #[.agg #[va, vb, vc], .int .i64 nn] w fun e w' => e = .returned (.tuple #[.agg #[.int .i64 x.no, .int .i64 x.cur, .int .i64 x.mult, .int .i64 x.add, .int .i64 x.set, .int .i64 x.price, .int .i64 x.h0, .int .i64 x.h1, .int .i64 x.h2, .int .i64 x.h3, .int .i64 x.h4, .int .i64 x.h5], .bool b]) ∧ Below w.heap.size w w' := by
 obtain ⟨av, cap, rfl, hcap, hm⟩ := h.shape
 obtain ⟨n, hn⟩ : ∃ n, n = L.length := ⟨_, rfl⟩
 rw [← hn] at h hcap ⊢
 have HR := Lib.hid h
 have HN := Lib.hid hn
 have HXX := Lib.hid hx
 have HII := Lib.hid hi
 have hb0 : Below w.heap.size w ((w.alloc (.cells #[va, .slice av n cap, vc] 26)).alloc (.cells #[.int .i64 0, .int .i64 0, .int .i64 0, .int .i64 0, .int .i64 0, .int .i64 0, .int .i64 0, .int .i64 0, .int .i64 0, .int .i64 0, .int .i64 0, .int .i64 0] 38)) := ((Below.refl _ _).alloc (Nat.le_refl _) _).alloc (by simp) _
 have hr : HT ((w.alloc (.cells #[va, .slice av n cap, vc] 26)).alloc (.cells #[.int .i64 0, .int .i64 0, .int .i64 0, .int .i64 0, .int .i64 0, .int .i64 0, .int .i64 0, .int .i64 0, .int .i64 0, .int .i64 0, .int .i64 0, .int .i64 0] 38)) w.heap.size 26 [va, .slice av n cap, vc] := (HT.new (w := w) (t := 26) (C := [va, .slice av n cap, vc])).below ((Below.refl _ _).alloc (Nat.le_refl _) _)
 have hg : HT ((w.alloc (.cells #[va, .slice av n cap, vc] 26)).alloc (.cells #[.int .i64 0, .int .i64 0, .int .i64 0, .int .i64 0, .int .i64 0, .int .i64 0, .int .i64 0, .int .i64 0, .int .i64 0, .int .i64 0, .int .i64 0, .int .i64 0] 38)) (w.heap.size + 1) 38 [.int .i64 0, .int .i64 0, .int .i64 0, .int .i64 0, .int .i64 0, .int .i64 0, .int .i64 0, .int .i64 0, .int .i64 0, .int .i64 0, .int .i64 0, .int .i64 0] := by
  have := HT.new (w := w.alloc (.cells #[va, .slice av n cap, vc] 26)) (t := 38) (C := [.int .i64 0, .int .i64 0, .int .i64 0, .int .i64 0, .int .i64 0, .int .i64 0, .int .i64 0, .int .i64 0, .int .i64 0, .int .i64 0, .int .i64 0, .int .i64 0])
  rwa [show (w.alloc (.cells #[va, .slice av n cap, vc] 26)).heap.size = w.heap.size + 1 by simp] at this
 have HB0 := Lib.hid hb0
 have HG := Lib.hid hg
 have HRR := Lib.hid hr
 clear h hn hx hi hb0 hg hr
 go_enter Try.func16, Try.ntmps16
 go_wp2_with fail
 obtain ⟨g0, hg0⟩ : ∃ g, g = w.heap.size + 1 := ⟨_, rfl⟩
 have HGE := Lib.hid hg0
 rw [← hg0] at HG ⊢
 clear hg0
 go_loopw [6] (fun i wr => ∃ k : Nat, k ≤ n ∧ i = .int .i64 k ∧ Hid (NotTo InT.no nn L k) ∧ HT wr w.heap.size 26 [va, .slice av n cap, vc] ∧ HT wr g0 38 [.int .i64 0, .int .i64 0, .int .i64 0, .int .i64 0, .int .i64 0, .int .i64 0, .int .i64 0, .int .i64 0, .int .i64 0, .int .i64 0, .int .i64 0, .int .i64 0] ∧ Below w.heap.size w wr) (fun i _ => n - (intOf i).toNat)
 case atStart => exact ⟨0, Nat.zero_le _, rfl, NotTo.zero _ _ _, HRR.out, HG.out, HB0.out⟩
 case round =>
  obtain ⟨k, hk, rfl, HN0, hrb, hg0, hbel⟩ := hrel
  have HBL := Lib.hid hbel
  have HRB := Lib.hid hrb
  have HG0 := Lib.hid hg0
  have hcr := hrb.cell (j := 1) rfl
  clear hbel hrb hg0
  by_cases hlt : k < n
  ·
   have hkL : k < L.length := by rw [← HN.out]; exact hlt
   obtain ⟨ba, offa, rfl, _, hca⟩ := (HR.out.rew HN.out HBL.out).at (by omega) (by decide)
   obtain ⟨c, hc⟩ : ∃ c, c = L[k] := ⟨_, rfl⟩
   have HCA : Hid (∀ j v, [.int .i64 c.no, .int .i64 c.cur, .int .i64 c.mult, .int .i64 c.add, .int .i64 c.set, .int .i64 c.price, .int .i64 c.h0, .int .i64 c.h1, .int .i64 c.h2, .int .i64 c.h3, .int .i64 c.h4, .int .i64 c.h5][j]? = some v → wr.cell? ⟨ba, offa + k * 12 + j, none⟩ = some v) := fun j v h => hca k hkL j v (by rw [← hc]; exact h)
   have hk0 : (0 : Int) ≤ k := by omega
   have hk1 : (k : Int) < n := by omega
   have HC := Lib.hid hc
   clear hc hca
   have hcn : wr.cell? ⟨ba, offa + k * 12, none⟩ = some (.int .i64 c.no) := HCA.out 0 _ rfl
   have HSZ : Hid ((Try.prog.info? 38).map (·.size) = some (#[.int .i64 c.no, .int .i64 c.cur, .int .i64 c.mult, .int .i64 c.add, .int .i64 c.set, .int .i64 c.price, .int .i64 c.h0, .int .i64 c.h1, .int .i64 c.h2, .int .i64 c.h3, .int .i64 c.h4, .int .i64 c.h5] : Array Value).size) := by show _ = _; rw [ins_sz]; rfl
   have HON : Hid ((#[.int .i64 c.no, .int .i64 c.cur, .int .i64 c.mult, .int .i64 c.add, .int .i64 c.set, .int .i64 c.price, .int .i64 c.h0, .int .i64 c.h1, .int .i64 c.h2, .int .i64 c.h3, .int .i64 c.h4, .int .i64 c.h5] : Array Value).all (·.oneCell') = true) := by show _ = true; simp [Value.oneCell']
   by_cases he : c.no = nn
   ·
    have HHIT := Lib.hid (fd_hit iZ HN0.out hkL (by rw [← HC.out]; exact he))
    have he2 : (c.no == nn) = true := by simpa using he
    clear he
    have HG2 : Hid (wr.heap[g0]? = some (.cells #[.int .i64 0, .int .i64 0, .int .i64 0, .int .i64 0, .int .i64 0, .int .i64 0, .int .i64 0, .int .i64 0, .int .i64 0, .int .i64 0, .int .i64 0, .int .i64 0] 38 (0, 0))) := HG0.out
    go_wp2_with (first
     | (refine wpList_load_mid rfl 38 (.tmp 25) rfl ba (offa + k * 12) rfl [.int .i64 c.no, .int .i64 c.cur, .int .i64 c.mult, .int .i64 c.add, .int .i64 c.set, .int .i64 c.price, .int .i64 c.h0, .int .i64 c.h1, .int .i64 c.h2, .int .i64 c.h3, .int .i64 c.h4, .int .i64 c.h5] _ (fun j v h => HCA.out j v h) Try.underlying38 rfl HSZ.out ?_)
     | (refine wpList_store_row rfl 38 (.tmp 4) (.tmp 26) rfl g0 #[.int .i64 c.no, .int .i64 c.cur, .int .i64 c.mult, .int .i64 c.add, .int .i64 c.set, .int .i64 c.price, .int .i64 c.h0, .int .i64 c.h1, .int .i64 c.h2, .int .i64 c.h3, .int .i64 c.h4, .int .i64 c.h5] rfl rfl 38 #[.int .i64 0, .int .i64 0, .int .i64 0, .int .i64 0, .int .i64 0, .int .i64 0, .int .i64 0, .int .i64 0, .int .i64 0, .int .i64 0, .int .i64 0, .int .i64 0] HG2.out HSZ.out rfl HON.out ?_)
     | fail)
    refine bodyPost_ret (results_ht rfl (HT.row HG2.out rfl) rfl rfl Try.underlying38 rfl ins_sz) rfl ⟨?_, HBL.out.trans (setRow_below (by have := HGE.out; omega) _)⟩
    have e1 := HHIT.out.2.2
    have e2 := HHIT.out.2.1
    rw [HXX.out, HII.out, e1, e2, ← HC.out]
    rfl
   ·
    have HNX := Lib.hid (HN0.out.next hkL (by rw [← HC.out]; exact he))
    have he2 : (c.no == nn) = false := by simpa using he
    clear he
    go_wp2_with fail
    exact ⟨⟨k + 1, by omega, by push_cast; rfl, HNX.out, HRB.out, HG0.out, HBL.out⟩, by simp [intOf]; omega⟩
  ·
   obtain rfl : k = n := by omega
   have HHIT := Lib.hid (fd_miss iZ HN0.out (by have := HN.out; omega))
   have HSZ : Hid ((Try.prog.info? 38).map (·.size) = some (#[.int .i64 0, .int .i64 0, .int .i64 0, .int .i64 0, .int .i64 0, .int .i64 0, .int .i64 0, .int .i64 0, .int .i64 0, .int .i64 0, .int .i64 0, .int .i64 0] : Array Value).size) := by show _ = _; rw [ins_sz]; rfl
   have HON : Hid ((#[.int .i64 0, .int .i64 0, .int .i64 0, .int .i64 0, .int .i64 0, .int .i64 0, .int .i64 0, .int .i64 0, .int .i64 0, .int .i64 0, .int .i64 0, .int .i64 0] : Array Value).all (·.oneCell') = true) := by show _ = true; simp [Value.oneCell']
   have HG2 : Hid (wr.heap[g0]? = some (.cells #[.int .i64 0, .int .i64 0, .int .i64 0, .int .i64 0, .int .i64 0, .int .i64 0, .int .i64 0, .int .i64 0, .int .i64 0, .int .i64 0, .int .i64 0, .int .i64 0] 38 (0, 0))) := HG0.out
   go_wp2_with (first
    | (refine wpList_store_row rfl 38 (.tmp 4) (.tmp 27) rfl g0 #[.int .i64 0, .int .i64 0, .int .i64 0, .int .i64 0, .int .i64 0, .int .i64 0, .int .i64 0, .int .i64 0, .int .i64 0, .int .i64 0, .int .i64 0, .int .i64 0] rfl rfl 38 #[.int .i64 0, .int .i64 0, .int .i64 0, .int .i64 0, .int .i64 0, .int .i64 0, .int .i64 0, .int .i64 0, .int .i64 0, .int .i64 0, .int .i64 0, .int .i64 0] HG2.out HSZ.out rfl HON.out ?_)
    | fail)
   refine bodyPost_ret (results_ht rfl (HT.row HG2.out rfl) rfl rfl Try.underlying38 rfl ins_sz) rfl ⟨?_, HBL.out.trans (setRow_below (by have := HGE.out; omega) _)⟩
   rw [HXX.out, HII.out, HHIT.out.2.2, HHIT.out.2.1]
   rfl
set_option maxRecDepth 100000 in
set_option maxHeartbeats 1600000 in
theorem rHeld_any (w : World) (va vb vc : Value) (L : List AsT) (nn : Int) (x : AsT) (b : Bool) (h : Rs AsT.vs 4 w vc L) (hx : x = fdX AsT.no aZ nn L) (hi : b = hasB AsT.no nn L) :
  Calls Try.prog 18 #[.agg #[va, vb, vc], .int .i64 nn] w fun e w' => e = .returned (.tuple #[.agg #[.int .i64 x.no, .int .i64 x.cur, .int .i64 x.price, .int .i64 x.cut], .bool b]) ∧ Below w.heap.size w w' := by
 obtain ⟨av, cap, rfl, hcap, hm⟩ := h.shape
 obtain ⟨n, hn⟩ : ∃ n, n = L.length := ⟨_, rfl⟩
 rw [← hn] at h hcap ⊢
 have HR := Lib.hid h
 have HN := Lib.hid hn
 have HXX := Lib.hid hx
 have HII := Lib.hid hi
 have hb0 : Below w.heap.size w ((w.alloc (.cells #[va, vb, .slice av n cap] 26)).alloc (.cells #[.int .i64 0, .int .i64 0, .int .i64 0, .int .i64 0] 42)) := ((Below.refl _ _).alloc (Nat.le_refl _) _).alloc (by simp) _
 have hr : HT ((w.alloc (.cells #[va, vb, .slice av n cap] 26)).alloc (.cells #[.int .i64 0, .int .i64 0, .int .i64 0, .int .i64 0] 42)) w.heap.size 26 [va, vb, .slice av n cap] := (HT.new (w := w) (t := 26) (C := [va, vb, .slice av n cap])).below ((Below.refl _ _).alloc (Nat.le_refl _) _)
 have hg : HT ((w.alloc (.cells #[va, vb, .slice av n cap] 26)).alloc (.cells #[.int .i64 0, .int .i64 0, .int .i64 0, .int .i64 0] 42)) (w.heap.size + 1) 42 [.int .i64 0, .int .i64 0, .int .i64 0, .int .i64 0] := by
  have := HT.new (w := w.alloc (.cells #[va, vb, .slice av n cap] 26)) (t := 42) (C := [.int .i64 0, .int .i64 0, .int .i64 0, .int .i64 0])
  rwa [show (w.alloc (.cells #[va, vb, .slice av n cap] 26)).heap.size = w.heap.size + 1 by simp] at this
 have HB0 := Lib.hid hb0
 have HG := Lib.hid hg
 have HRR := Lib.hid hr
 clear h hn hx hi hb0 hg hr
 go_enter Try.func18, Try.ntmps18
 go_wp2_with fail
 obtain ⟨g0, hg0⟩ : ∃ g, g = w.heap.size + 1 := ⟨_, rfl⟩
 have HGE := Lib.hid hg0
 rw [← hg0] at HG ⊢
 clear hg0
 go_loopw [6] (fun i wr => ∃ k : Nat, k ≤ n ∧ i = .int .i64 k ∧ Hid (NotTo AsT.no nn L k) ∧ HT wr w.heap.size 26 [va, vb, .slice av n cap] ∧ HT wr g0 42 [.int .i64 0, .int .i64 0, .int .i64 0, .int .i64 0] ∧ Below w.heap.size w wr) (fun i _ => n - (intOf i).toNat)
 case atStart => exact ⟨0, Nat.zero_le _, rfl, NotTo.zero _ _ _, HRR.out, HG.out, HB0.out⟩
 case round =>
  obtain ⟨k, hk, rfl, HN0, hrb, hg0, hbel⟩ := hrel
  have HBL := Lib.hid hbel
  have HRB := Lib.hid hrb
  have HG0 := Lib.hid hg0
  have hcr := hrb.cell (j := 2) rfl
  clear hbel hrb hg0
  by_cases hlt : k < n
  ·
   have hkL : k < L.length := by rw [← HN.out]; exact hlt
   obtain ⟨ba, offa, rfl, _, hca⟩ := (HR.out.rew HN.out HBL.out).at (by omega) (by decide)
   obtain ⟨c, hc⟩ : ∃ c, c = L[k] := ⟨_, rfl⟩
   have HCA : Hid (∀ j v, [.int .i64 c.no, .int .i64 c.cur, .int .i64 c.price, .int .i64 c.cut][j]? = some v → wr.cell? ⟨ba, offa + k * 4 + j, none⟩ = some v) := fun j v h => hca k hkL j v (by rw [← hc]; exact h)
   have hk0 : (0 : Int) ≤ k := by omega
   have hk1 : (k : Int) < n := by omega
   have HC := Lib.hid hc
   clear hc hca
   have hcn : wr.cell? ⟨ba, offa + k * 4, none⟩ = some (.int .i64 c.no) := HCA.out 0 _ rfl
   have HSZ : Hid ((Try.prog.info? 42).map (·.size) = some (#[.int .i64 c.no, .int .i64 c.cur, .int .i64 c.price, .int .i64 c.cut] : Array Value).size) := by show _ = _; rw [ass_sz]; rfl
   have HON : Hid ((#[.int .i64 c.no, .int .i64 c.cur, .int .i64 c.price, .int .i64 c.cut] : Array Value).all (·.oneCell') = true) := by show _ = true; simp [Value.oneCell']
   by_cases he : c.no = nn
   ·
    have HHIT := Lib.hid (fd_hit aZ HN0.out hkL (by rw [← HC.out]; exact he))
    have he2 : (c.no == nn) = true := by simpa using he
    clear he
    have HG2 : Hid (wr.heap[g0]? = some (.cells #[.int .i64 0, .int .i64 0, .int .i64 0, .int .i64 0] 42 (0, 0))) := HG0.out
    go_wp2_with (first
     | (refine wpList_load_mid rfl 42 (.tmp 25) rfl ba (offa + k * 4) rfl [.int .i64 c.no, .int .i64 c.cur, .int .i64 c.price, .int .i64 c.cut] _ (fun j v h => HCA.out j v h) Try.underlying42 rfl HSZ.out ?_)
     | (refine wpList_store_row rfl 42 (.tmp 4) (.tmp 26) rfl g0 #[.int .i64 c.no, .int .i64 c.cur, .int .i64 c.price, .int .i64 c.cut] rfl rfl 42 #[.int .i64 0, .int .i64 0, .int .i64 0, .int .i64 0] HG2.out HSZ.out rfl HON.out ?_)
     | fail)
    refine bodyPost_ret (results_ht rfl (HT.row HG2.out rfl) rfl rfl Try.underlying42 rfl ass_sz) rfl ⟨?_, HBL.out.trans (setRow_below (by have := HGE.out; omega) _)⟩
    have e1 := HHIT.out.2.2
    have e2 := HHIT.out.2.1
    rw [HXX.out, HII.out, e1, e2, ← HC.out]
    rfl
   ·
    have HNX := Lib.hid (HN0.out.next hkL (by rw [← HC.out]; exact he))
    have he2 : (c.no == nn) = false := by simpa using he
    clear he
    go_wp2_with fail
    exact ⟨⟨k + 1, by omega, by push_cast; rfl, HNX.out, HRB.out, HG0.out, HBL.out⟩, by simp [intOf]; omega⟩
  ·
   obtain rfl : k = n := by omega
   have HHIT := Lib.hid (fd_miss aZ HN0.out (by have := HN.out; omega))
   have HSZ : Hid ((Try.prog.info? 42).map (·.size) = some (#[.int .i64 0, .int .i64 0, .int .i64 0, .int .i64 0] : Array Value).size) := by show _ = _; rw [ass_sz]; rfl
   have HON : Hid ((#[.int .i64 0, .int .i64 0, .int .i64 0, .int .i64 0] : Array Value).all (·.oneCell') = true) := by show _ = true; simp [Value.oneCell']
   have HG2 : Hid (wr.heap[g0]? = some (.cells #[.int .i64 0, .int .i64 0, .int .i64 0, .int .i64 0] 42 (0, 0))) := HG0.out
   go_wp2_with (first
    | (refine wpList_store_row rfl 42 (.tmp 4) (.tmp 27) rfl g0 #[.int .i64 0, .int .i64 0, .int .i64 0, .int .i64 0] rfl rfl 42 #[.int .i64 0, .int .i64 0, .int .i64 0, .int .i64 0] HG2.out HSZ.out rfl HON.out ?_)
    | fail)
   refine bodyPost_ret (results_ht rfl (HT.row HG2.out rfl) rfl rfl Try.underlying42 rfl ass_sz) rfl ⟨?_, HBL.out.trans (setRow_below (by have := HGE.out; omega) _)⟩
   rw [HXX.out, HII.out, HHIT.out.2.2, HHIT.out.2.1]
   rfl
end Cam
