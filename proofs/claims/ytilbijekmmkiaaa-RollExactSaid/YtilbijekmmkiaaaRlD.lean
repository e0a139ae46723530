import Derived.Test.YtilbijekmmkiaaaRlC
import Derived.Deep.DeepCutAuto
/- roll: Check, find, Member, Inst, Asset. -/
namespace Cam
open Go Go.RowKit Go.Proofs
theorem rol_sz : (Try.prog.info? 26).map (·.size) = some 3 := by kernel_rfl
theorem results_ht {P : Program} {fn : Func} {p u : Tmp} {ty : TypeId} (h : fn.results = #[.cell p ty, .tmp u]) {tmps : Array Value} {w : World} {g : Nat} {t : TypeId} {C : List Value} {d : TypeDesc} {x : Value}
  (hc : HT w g t C) (hp : tmps.getD p undef = .pointer (some ⟨g, 0, none⟩)) (hx : tmps.getD u undef = x)
  (hu : P.underlying ty = some d) (hd : (match d with | .struct _ | .array _ _ => true | _ => false) = true) (hi : (P.info? ty).map (·.size) = some C.length) :
  (results fn tmps).run P w = .ok (.tuple #[.agg C.toArray, x]) w := by
 have hp' : tmps[p]?.getD undef = .pointer (some ⟨g, 0, none⟩) := by simpa using hp
 subst hx
 rw [results_cell_tmp h]
 simp [hp', asAddr, run_loadVar_row w g t ty C.toArray (0, 0) d hc hu hd (by simpa using hi), Result.andThen]
theorem results_ht1 {P : Program} {fn : Func} {p : Tmp} {ty : TypeId} (h : fn.results = #[.cell p ty]) {tmps : Array Value} {w : World} {g : Nat} {t : TypeId} {C : List Value} {d : TypeDesc}
  (hc : HT w g t C) (hp : tmps.getD p undef = .pointer (some ⟨g, 0, none⟩))
  (hu : P.underlying ty = some d) (hd : (match d with | .struct _ | .array _ _ => true | _ => false) = true) (hi : (P.info? ty).map (·.size) = some C.length) :
  (results fn tmps).run P w = .ok (.agg C.toArray) w :=
 results_cell_row h tmps w g t C.toArray (0, 0) d hp hc hu hd (by simpa using hi)
theorem HT.row {w : World} {g : Nat} {t : TypeId} {C : List Value} {cs : Array Value} (h : w.heap[g]? = some (.cells C.toArray t (0, 0))) (_ : C.length = cs.size) : HT (w.setRow g cs) g t cs.toList := by
 have := setRow_heap w g C.toArray cs t (0, 0) h
 unfold HT
 simpa using this
def RollIn (w : World) (va vb vc : Value) (R : RollT) : Prop := Rs MbT.vs 3 w va R.M ∧ Rs InT.vs 12 w vb R.I ∧ Rs AsT.vs 4 w vc R.A
theorem RollIn.mono {w w' : World} {va vb vc : Value} {R : RollT} (h : RollIn w va vb vc R) (hb : Below w.heap.size w w') : RollIn w' va vb vc R := ⟨h.1.mono hb, h.2.1.mono hb, h.2.2.mono hb⟩
noncomputable def chkE (R : RollT) : Int := if chkR R = true then 0 else 14
set_option maxHeartbeats 1600000 in
theorem Check_any (w : World) (va vb vc : Value) (R : RollT) (h : RollIn w va vb vc R) :
  Calls Try.prog 11 #[.agg #[va, vb, vc]] w fun e w' => e = .returned (.int .i64 (chkE R)) ∧ Below w.heap.size w w' := by
 have hb0 : Below w.heap.size w (w.alloc (.cells #[va, vb, vc] 26)) := (Below.refl _ _).alloc (Nat.le_refl _) _
 have ht : HT (w.alloc (.cells #[va, vb, vc] 26)) w.heap.size 26 [va, vb, vc] := HT.new
 obtain ⟨d, hd⟩ : ∃ d, d = chkE R := ⟨_, rfl⟩
 rw [← hd]
 have HD := Lib.hid hd
 have H := Lib.hid h
 have HB0 := Lib.hid hb0
 have HT0 := Lib.hid ht
 clear h hb0 hd ht
 by_cases g0 : chkB rightM MbT.no R.M = true
 ·
  by_cases g1 : chkB rightI InT.no R.I = true
  ·
   by_cases g2 : chkB rightA AsT.no R.A = true
   ·
    have HE : Hid (d = 0) := by show _ = _; rw [HD.out]; unfold chkE chkR; simp [g0, g1, g2]
    go_enter Try.func11, Try.ntmps11
    go_wp2_with fail
    refine (risesM_any _ va R.M (H.out.1.mono HB0.out)).mono ?_
    rintro e w1 ⟨rfl, hb⟩
    have HB1 := Lib.hid (bgo HB0.out hb HB0.out.size)
    have HT1 := Lib.hid (HT0.out.below hb)
    clear hb
    have hc1 := HT1.out.cell (j := 1) rfl
    go_wp2_with fail
    refine (risesI_any _ vb R.I (H.out.2.1.mono HB1.out)).mono ?_
    rintro e w2 ⟨rfl, hb⟩
    have HB2 := Lib.hid (bgo HB1.out hb HB1.out.size)
    have HT2 := Lib.hid (HT1.out.below hb)
    clear hb
    clear hc1
    have hc2 := HT2.out.cell (j := 2) rfl
    go_wp2_with fail
    refine (risesA_any _ vc R.A (H.out.2.2.mono HB2.out)).mono ?_
    rintro e w3 ⟨rfl, hb⟩
    have HB3 := Lib.hid (bgo HB2.out hb HB2.out.size)
    have HT3 := Lib.hid (HT2.out.below hb)
    clear hb
    clear hc2
    go_wp2_with fail
    go_ret
    exact ⟨by rw [HE.out]; rfl, HB3.out⟩
   ·
    have g2 : chkB rightA AsT.no R.A = false := by simpa using g2
    have HE : Hid (d = 14) := by show _ = _; rw [HD.out]; unfold chkE chkR; simp [g0, g1, g2]
    go_enter Try.func11, Try.ntmps11
    go_wp2_with fail
    refine (risesM_any _ va R.M (H.out.1.mono HB0.out)).mono ?_
    rintro e w1 ⟨rfl, hb⟩
    have HB1 := Lib.hid (bgo HB0.out hb HB0.out.size)
    have HT1 := Lib.hid (HT0.out.below hb)
    clear hb
    have hc1 := HT1.out.cell (j := 1) rfl
    go_wp2_with fail
    refine (risesI_any _ vb R.I (H.out.2.1.mono HB1.out)).mono ?_
    rintro e w2 ⟨rfl, hb⟩
    have HB2 := Lib.hid (bgo HB1.out hb HB1.out.size)
    have HT2 := Lib.hid (HT1.out.below hb)
    clear hb
    clear hc1
    have hc2 := HT2.out.cell (j := 2) rfl
    go_wp2_with fail
    refine (risesA_any _ vc R.A (H.out.2.2.mono HB2.out)).mono ?_
    rintro e w3 ⟨rfl, hb⟩
    have HB3 := Lib.hid (bgo HB2.out hb HB2.out.size)
    have HT3 := Lib.hid (HT2.out.below hb)
    clear hb
    clear hc2
    go_wp2_with fail
    go_ret
    exact ⟨by rw [HE.out]; rfl, HB3.out⟩
  ·
   have g1 : chkB rightI InT.no R.I = false := by simpa using g1
   have HE : Hid (d = 14) := by show _ = _; rw [HD.out]; unfold chkE chkR; simp [g0, g1]
   go_enter Try.func11, Try.ntmps11
   go_wp2_with fail
   refine (risesM_any _ va R.M (H.out.1.mono HB0.out)).mono ?_
   rintro e w1 ⟨rfl, hb⟩
   have HB1 := Lib.hid (bgo HB0.out hb HB0.out.size)
   have HT1 := Lib.hid (HT0.out.below hb)
   clear hb
   have hc1 := HT1.out.cell (j := 1) rfl
   go_wp2_with fail
   refine (risesI_any _ vb R.I (H.out.2.1.mono HB1.out)).mono ?_
   rintro e w2 ⟨rfl, hb⟩
   have HB2 := Lib.hid (bgo HB1.out hb HB1.out.size)
   have HT2 := Lib.hid (HT1.out.below hb)
   clear hb
   clear hc1
   go_wp2_with fail
   go_ret
   exact ⟨by rw [HE.out]; rfl, HB2.out⟩
 ·
  have g0 : chkB rightM MbT.no R.M = false := by simpa using g0
  have HE : Hid (d = 14) := by show _ = _; rw [HD.out]; unfold chkE chkR; simp [g0]
  go_enter Try.func11, Try.ntmps11
  go_wp2_with fail
  refine (risesM_any _ va R.M (H.out.1.mono HB0.out)).mono ?_
  rintro e w1 ⟨rfl, hb⟩
  have HB1 := Lib.hid (bgo HB0.out hb HB0.out.size)
  have HT1 := Lib.hid (HT0.out.below hb)
  clear hb
  go_wp2_with fail
  go_ret
  exact ⟨by rw [HE.out]; rfl, HB1.out⟩
set_option maxRecDepth 100000 in
set_option maxHeartbeats 1600000 in
theorem findM_any (w : World) (v : Value) (L : List MbT) (nn : Int) (x : MbT) (i : Int) (h : Rs MbT.vs 3 w v L) (hx : x = fdX MbT.no mZ nn L) (hi : i = fdI MbT.no nn L) :
  Calls Try.prog 56 #[v, .func (.func 45) #[] #[], .int .i64 nn] w fun e w' => e = .returned (.tuple #[.agg #[.int .i64 x.no, .int .i64 x.state, .int .i64 x.need], .int .i64 i]) ∧ Below w.heap.size w w' := by
 obtain ⟨av, cap, rfl, hcap, hm⟩ := h.shape
 obtain ⟨n, hn⟩ : ∃ n, n = L.length := ⟨_, rfl⟩
 rw [← hn] at h hcap ⊢
 have HR := Lib.hid h
 have HN := Lib.hid hn
 have HXX := Lib.hid hx
 have HII := Lib.hid hi
 have hb0 : Below w.heap.size w (w.alloc (.cells #[.int .i64 0, .int .i64 0, .int .i64 0] 33)) := (Below.refl _ _).alloc (Nat.le_refl _) _
 have hg : HT (w.alloc (.cells #[.int .i64 0, .int .i64 0, .int .i64 0] 33)) w.heap.size 33 [.int .i64 0, .int .i64 0, .int .i64 0] := HT.new
 have HB0 := Lib.hid hb0
 have HG := Lib.hid hg
 clear h hn hx hi hb0 hg
 go_enter Try.func56, Try.ntmps56
 go_wp2_with fail
 obtain ⟨g0, hg0⟩ : ∃ g, g = w.heap.size := ⟨_, rfl⟩
 have HGE := Lib.hid hg0
 rw [← hg0] at HG ⊢
 clear hg0
 go_loopw [13] (fun i wr => ∃ k : Nat, k ≤ n ∧ i = .int .i64 k ∧ Hid (NotTo MbT.no nn L k) ∧ HT wr g0 33 [.int .i64 0, .int .i64 0, .int .i64 0] ∧ Below w.heap.size w wr) (fun i _ => n - (intOf i).toNat)
 case atStart => exact ⟨0, Nat.zero_le _, rfl, NotTo.zero _ _ _, HG.out, HB0.out⟩
 case round =>
  obtain ⟨k, hk, rfl, HN0, hg0, hbel⟩ := hrel
  by_cases hlt : k < n
  ·
   have hkL : k < L.length := by rw [← HN.out]; exact hlt
   obtain ⟨ba, offa, rfl, _, hca⟩ := (HR.out.rew HN.out hbel).at (by omega) (by decide)
   obtain ⟨c, hc⟩ : ∃ c, c = L[k] := ⟨_, rfl⟩
   have HCA : Hid (∀ j v, [.int .i64 c.no, .int .i64 c.state, .int .i64 c.need][j]? = some v → wr.cell? ⟨ba, offa + k * 3 + j, none⟩ = some v) := fun j v h => hca k hkL j v (by rw [← hc]; exact h)
   have HBL := Lib.hid hbel
   have HG0 := Lib.hid hg0
   have hk0 : (0 : Int) ≤ k := by omega
   have hk1 : (k : Int) < n := by omega
   have HC := Lib.hid hc
   clear hc hca hbel hg0
   have HSZ : Hid ((Try.prog.info? 33).map (·.size) = some (#[.int .i64 c.no, .int .i64 c.state, .int .i64 c.need] : Array Value).size) := by show _ = _; rw [mem_sz]; rfl
   have HSE : Hid ((#[.int .i64 0, .int .i64 0, .int .i64 0] : Array Value).size = (#[.int .i64 c.no, .int .i64 c.state, .int .i64 c.need] : Array Value).size) := by show _ = _; rfl
   have HON : Hid ((#[.int .i64 c.no, .int .i64 c.state, .int .i64 c.need] : Array Value).all (·.oneCell') = true) := by show _ = true; simp [Value.oneCell']
   have HSE2 := HSE
   have HON2 := HON
   go_upto_region 4 with (first
    | (refine wpList_load_mid rfl 33 (.tmp 16) rfl ba (offa + k * 3) rfl [.int .i64 c.no, .int .i64 c.state, .int .i64 c.need] _ (fun j v h => HCA.out j v h) Try.underlying33 rfl HSZ.out ?_)
    | (refine wpList_store_row rfl 33 (.tmp 9) (.tmp 17) rfl wr.heap.size #[.int .i64 c.no, .int .i64 c.state, .int .i64 c.need] rfl rfl 33 #[.int .i64 0, .int .i64 0, .int .i64 0] (heap_alloc_new _ _) HSZ.out HSE.out HON.out ?_)
    | fail)
   have hbs : Below wr.heap.size wr ((wr.alloc (.cells #[.int .i64 0, .int .i64 0, .int .i64 0] 33)).setRow wr.heap.size #[.int .i64 c.no, .int .i64 c.state, .int .i64 c.need]) := ((Below.refl _ _).alloc (Nat.le_refl _) _).trans (setRow_below (Nat.le_refl _) _)
   have hx : HT ((wr.alloc (.cells #[.int .i64 0, .int .i64 0, .int .i64 0] 33)).setRow wr.heap.size #[.int .i64 c.no, .int .i64 c.state, .int .i64 c.need]) wr.heap.size 33 [.int .i64 c.no, .int .i64 c.state, .int .i64 c.need] := setRow_heap _ _ _ _ _ _ (heap_alloc_new _ _)
   have hbw := bgo HBL.out hbs (Below.size HBL.out)
   obtain ⟨W, hW⟩ : ∃ zz, zz = ((wr.alloc (.cells #[.int .i64 0, .int .i64 0, .int .i64 0] 33)).setRow wr.heap.size #[.int .i64 c.no, .int .i64 c.state, .int .i64 c.need]) := ⟨_, rfl⟩
   rw [← hW] at hbs hx hbw ⊢
   obtain ⟨gx, hg⟩ : ∃ zz, zz = wr.heap.size := ⟨_, rfl⟩
   rw [← hg] at hx ⊢
   have HX := Lib.hid hx
   have HBW := Lib.hid hbw
   have HBS := Lib.hid hbs
   clear hW hx hbw hbs hg HSE HON
   have HG1 := Lib.hid (HG0.out.below HBS.out)
   have cl := noM_any W c.no c.state c.need
   by_cases he : c.no = nn
   ·
    have HHIT := Lib.hid (fd_hit mZ HN0.out hkL (by rw [← HC.out]; exact he))
    have he2 : (c.no == nn) = true := by simpa using he
    clear he
    go_wp2_with (first
     | (refine wpList_load_row rfl 33 (.tmp 9) rfl gx rfl 33 #[.int .i64 c.no, .int .i64 c.state, .int .i64 c.need] (0, 0) _ HX.out Try.underlying33 rfl HSZ.out ?_)
     | fail)
    refine cl.mono ?_
    clear cl
    rintro e w1 ⟨rfl, hb⟩
    have HBW1 := Lib.hid (bgo HBW.out hb HBW.out.size)
    have HX1 : Hid (w1.heap[gx]? = some (.cells #[.int .i64 c.no, .int .i64 c.state, .int .i64 c.need] 33 (0, 0))) := HX.out.below hb
    have HG2 : Hid (w1.heap[g0]? = some (.cells #[.int .i64 0, .int .i64 0, .int .i64 0] 33 (0, 0))) := HG1.out.below hb
    clear hb
    go_wp2_with (first
     | (refine wpList_load_row rfl 33 (.tmp 9) rfl gx rfl 33 #[.int .i64 c.no, .int .i64 c.state, .int .i64 c.need] (0, 0) _ HX1.out Try.underlying33 rfl HSZ.out ?_)
     | (refine wpList_store_row rfl 33 (.tmp 6) (.tmp 23) rfl g0 #[.int .i64 c.no, .int .i64 c.state, .int .i64 c.need] rfl rfl 33 #[.int .i64 0, .int .i64 0, .int .i64 0] HG2.out HSZ.out HSE2.out HON2.out ?_)
     | fail)
    refine bodyPost_ret (results_ht rfl (HT.row HG2.out rfl) rfl rfl Try.underlying33 rfl mem_sz) rfl ⟨?_, HBW1.out.trans (setRow_below (by rw [HGE.out]; exact Nat.le_refl _) _)⟩
    have e1 := HHIT.out.1
    have e2 := HHIT.out.2.1
    rw [HXX.out, HII.out, e1, e2, ← HC.out]
    rfl
   ·
    have HNX := Lib.hid (HN0.out.next hkL (by rw [← HC.out]; exact he))
    have he2 : (c.no == nn) = false := by simpa using he
    clear he
    go_wp2_with (first
     | (refine wpList_load_row rfl 33 (.tmp 9) rfl gx rfl 33 #[.int .i64 c.no, .int .i64 c.state, .int .i64 c.need] (0, 0) _ HX.out Try.underlying33 rfl HSZ.out ?_)
     | fail)
    refine cl.mono ?_
    clear cl
    rintro e w1 ⟨rfl, hb⟩
    have HBW1 := Lib.hid (bgo HBW.out hb HBW.out.size)
    have HX1 : Hid (w1.heap[gx]? = some (.cells #[.int .i64 c.no, .int .i64 c.state, .int .i64 c.need] 33 (0, 0))) := HX.out.below hb
    have HG2 : Hid (w1.heap[g0]? = some (.cells #[.int .i64 0, .int .i64 0, .int .i64 0] 33 (0, 0))) := HG1.out.below hb
    clear hb
    go_wp2_with fail
    exact ⟨⟨k + 1, by omega, by push_cast; rfl, HNX.out, HG2.out, HBW1.out⟩, by simp [intOf]; omega⟩
  ·
   obtain rfl : k = n := by omega
   have HHIT := Lib.hid (fd_miss mZ HN0.out (by have := HN.out; omega))
   have HBL := Lib.hid hbel
   have HG0 := Lib.hid hg0
   clear hbel hg0
   have HSZ : Hid ((Try.prog.info? 33).map (·.size) = some (#[.int .i64 0, .int .i64 0, .int .i64 0] : Array Value).size) := by show _ = _; rw [mem_sz]; rfl
   have HSE : Hid ((#[.int .i64 0, .int .i64 0, .int .i64 0] : Array Value).size = (#[.int .i64 0, .int .i64 0, .int .i64 0] : Array Value).size) := by show _ = _; rfl
   have HON : Hid ((#[.int .i64 0, .int .i64 0, .int .i64 0] : Array Value).all (·.oneCell') = true) := by show _ = true; simp [Value.oneCell']
   have hgl := HG0.out.lt
   have HG1 : Hid ((wr.alloc (.cells #[.int .i64 0, .int .i64 0, .int .i64 0] 33)).heap[g0]? = some (.cells #[.int .i64 0, .int .i64 0, .int .i64 0] 33 (0, 0))) := HG0.out.below ((Below.refl _ _).alloc (Nat.le_refl _) _)
   have HX1 : Hid ((wr.alloc (.cells #[.int .i64 0, .int .i64 0, .int .i64 0] 33)).heap[wr.heap.size]? = some (.cells #[.int .i64 0, .int .i64 0, .int .i64 0] 33 (0, 0))) := heap_alloc_new _ _
   go_wp2_with (first
    | (refine wpList_load_row rfl 33 (.tmp 10) rfl wr.heap.size rfl 33 #[.int .i64 0, .int .i64 0, .int .i64 0] (0, 0) _ HX1.out Try.underlying33 rfl HSZ.out ?_)
    | (refine wpList_store_row rfl 33 (.tmp 6) (.tmp 26) rfl g0 #[.int .i64 0, .int .i64 0, .int .i64 0] rfl rfl 33 #[.int .i64 0, .int .i64 0, .int .i64 0] HG1.out HSZ.out HSE.out HON.out ?_)
    | fail)
   refine bodyPost_ret (results_ht rfl (HT.row HG1.out rfl) rfl rfl Try.underlying33 rfl mem_sz) rfl ⟨?_, (HBL.out.alloc HBL.out.size _).trans (setRow_below (by rw [HGE.out]; exact Nat.le_refl _) _)⟩
   rw [HXX.out, HII.out, HHIT.out.1, HHIT.out.2.1]
   rfl
set_option maxRecDepth 100000 in
set_option maxHeartbeats 1600000 in
theorem Member_any (w : World) (va vb vc : Value) (L : List MbT) (nn : Int) (x : MbT) (b : Bool) (h : Rs MbT.vs 3 w va L) (hx : x = fdX MbT.no mZ nn L) (hb : b = hasB MbT.no nn L) :
  Calls Try.prog 13 #[.agg #[va, vb, vc], .int .i64 nn] w fun e w' => e = .returned (.tuple #[.agg #[.int .i64 x.no, .int .i64 x.state, .int .i64 x.need], .bool b]) ∧ Below w.heap.size w w' := by
 have hb0 : Below w.heap.size w ((w.alloc (.cells #[va, vb, vc] 26)).alloc (.cells #[.int .i64 0, .int .i64 0, .int .i64 0] 33)) := ((Below.refl _ _).alloc (Nat.le_refl _) _).alloc (by simp) _
 have hc0 : ((w.alloc (.cells #[va, vb, vc] 26)).alloc (.cells #[.int .i64 0, .int .i64 0, .int .i64 0] 33)).cell? ⟨w.heap.size, 0, none⟩ = some va := (HT.new (w := w) (t := 26) (C := [va, vb, vc])).below ((Below.refl _ _).alloc (Nat.le_refl _) _) |>.cell (j := 0) rfl
 have hg : HT ((w.alloc (.cells #[va, vb, vc] 26)).alloc (.cells #[.int .i64 0, .int .i64 0, .int .i64 0] 33)) (w.heap.size + 1) 33 [.int .i64 0, .int .i64 0, .int .i64 0] := by
  have := HT.new (w := w.alloc (.cells #[va, vb, vc] 26)) (t := 33) (C := [.int .i64 0, .int .i64 0, .int .i64 0])
  rwa [show (w.alloc (.cells #[va, vb, vc] 26)).heap.size = w.heap.size + 1 by simp] at this
 obtain ⟨i, hi⟩ : ∃ i, i = fdI MbT.no nn L := ⟨_, rfl⟩
 have cl := findM_any ((w.alloc (.cells #[va, vb, vc] 26)).alloc (.cells #[.int .i64 0, .int .i64 0, .int .i64 0] 33)) va L nn x i (h.mono hb0) hx hi
 have HBB : Hid (b = decide (0 ≤ i)) := by show _ = _; rw [hb, hi]; rfl
 have HB0 := Lib.hid hb0
 have HG := Lib.hid hg
 clear h hx hi hb hb0 hg
 go_enter Try.func13, Try.ntmps13
 go_wp2_with fail
 refine cl.mono ?_
 clear cl hc0
 rintro e w1 ⟨rfl, hb1⟩
 have HBE := Lib.hid (bgo HB0.out hb1 HB0.out.size)
 have HG1 := Lib.hid (HG.out.below hb1)
 clear hb1
 have HSZ : Hid ((Try.prog.info? 33).map (·.size) = some (#[.int .i64 x.no, .int .i64 x.state, .int .i64 x.need] : Array Value).size) := by show _ = _; rw [mem_sz]; rfl
 have HSE : Hid ((#[.int .i64 0, .int .i64 0, .int .i64 0] : Array Value).size = (#[.int .i64 x.no, .int .i64 x.state, .int .i64 x.need] : Array Value).size) := by show _ = _; rfl
 have HON : Hid ((#[.int .i64 x.no, .int .i64 x.state, .int .i64 x.need] : Array Value).all (·.oneCell') = true) := by show _ = true; simp [Value.oneCell']
 have HSE2 := HSE
 have HON2 := HON
 go_upto_region 2 with (first
  | (refine wpList_store_row rfl 33 (.tmp 6) (.tmp 13) rfl w1.heap.size #[.int .i64 x.no, .int .i64 x.state, .int .i64 x.need] rfl rfl 33 #[.int .i64 0, .int .i64 0, .int .i64 0] (heap_alloc_new _ _) HSZ.out HSE.out HON.out ?_)
  | fail)
 have hbs : Below w1.heap.size w1 ((w1.alloc (.cells #[.int .i64 0, .int .i64 0, .int .i64 0] 33)).setRow w1.heap.size #[.int .i64 x.no, .int .i64 x.state, .int .i64 x.need]) := ((Below.refl _ _).alloc (Nat.le_refl _) _).trans (setRow_below (Nat.le_refl _) _)
 have hx : HT ((w1.alloc (.cells #[.int .i64 0, .int .i64 0, .int .i64 0] 33)).setRow w1.heap.size #[.int .i64 x.no, .int .i64 x.state, .int .i64 x.need]) w1.heap.size 33 [.int .i64 x.no, .int .i64 x.state, .int .i64 x.need] := setRow_heap _ _ _ _ _ _ (heap_alloc_new _ _)
 have hbw := bgo HBE.out hbs (Below.size HBE.out)
 obtain ⟨W, hW⟩ : ∃ zz, zz = ((w1.alloc (.cells #[.int .i64 0, .int .i64 0, .int .i64 0] 33)).setRow w1.heap.size #[.int .i64 x.no, .int .i64 x.state, .int .i64 x.need]) := ⟨_, rfl⟩
 rw [← hW] at hbs hx hbw ⊢
 obtain ⟨gx, hg⟩ : ∃ zz, zz = w1.heap.size := ⟨_, rfl⟩
 rw [← hg] at hx ⊢
 have HX := Lib.hid hx
 have HBW := Lib.hid hbw
 have HBS := Lib.hid hbs
 clear hW hx hbw hbs hg HSE HON
 have HG2 : Hid (W.heap[w.heap.size + 1]? = some (.cells #[.int .i64 0, .int .i64 0, .int .i64 0] 33 (0, 0))) := HG1.out.below HBS.out
 have HX2 : Hid (W.heap[gx]? = some (.cells #[.int .i64 x.no, .int .i64 x.state, .int .i64 x.need] 33 (0, 0))) := HX.out
 by_cases h0 : 0 ≤ i
 ·
  have HV : Hid (b = true) := by show _ = _; rw [HBB.out]; simpa using h0
  go_wp2_with (first
   | (refine wpList_load_row rfl 33 (.tmp 6) rfl gx rfl 33 #[.int .i64 x.no, .int .i64 x.state, .int .i64 x.need] (0, 0) _ HX2.out Try.underlying33 rfl HSZ.out ?_)
   | (refine wpList_store_row rfl 33 (.tmp 4) (.tmp 15) rfl (w.heap.size + 1) #[.int .i64 x.no, .int .i64 x.state, .int .i64 x.need] rfl rfl 33 #[.int .i64 0, .int .i64 0, .int .i64 0] HG2.out HSZ.out HSE2.out HON2.out ?_)
   | fail)
  refine bodyPost_ret (results_ht rfl (HT.row HG2.out rfl) rfl rfl Try.underlying33 rfl mem_sz) rfl ⟨?_, HBW.out.trans (setRow_below (by omega) _)⟩
  rw [HV.out]
  rfl
 ·
  have HV : Hid (b = false) := by show _ = _; rw [HBB.out]; simpa using h0
  have h0d : decide (0 ≤ i) = false := by simpa using h0
  go_wp2_with (first
   | (refine wpList_load_row rfl 33 (.tmp 6) rfl gx rfl 33 #[.int .i64 x.no, .int .i64 x.state, .int .i64 x.need] (0, 0) _ HX2.out Try.underlying33 rfl HSZ.out ?_)
   | (refine wpList_store_row rfl 33 (.tmp 4) (.tmp 15) rfl (w.heap.size + 1) #[.int .i64 x.no, .int .i64 x.state, .int .i64 x.need] rfl rfl 33 #[.int .i64 0, .int .i64 0, .int .i64 0] HG2.out HSZ.out HSE2.out HON2.out ?_)
   | fail)
  refine bodyPost_ret (results_ht rfl (HT.row HG2.out rfl) rfl rfl Try.underlying33 rfl mem_sz) rfl ⟨?_, HBW.out.trans (setRow_below (by omega) _)⟩
  rw [HV.out]
  rfl
set_option maxRecDepth 100000 in
set_option maxHeartbeats 1600000 in
theorem findI_any (w : World) (v : Value) (L : List InT) (nn : Int) (x : InT) (i : Int) (h : Rs InT.vs 12 w v L) (hx : x = fdX InT.no iZ nn L) (hi : i = fdI InT.no nn L) :
  Calls Try.prog 57 #[v, .func (.func 48) #[] #[], .int .i64 nn] w fun e w' => e = .returned (.tuple #[.agg #[.int .i64 x.no, .int .i64 x.cur, .int .i64 x.mult, .int .i64 x.add, .int .i64 x.set, .int .i64 x.price, .int .i64 x.h0, .int .i64 x.h1, .int .i64 x.h2, .int .i64 x.h3, .int .i64 x.h4, .int .i64 x.h5], .int .i64 i]) ∧ Below w.heap.size w w' := by
 obtain ⟨av, cap, rfl, hcap, hm⟩ := h.shape
 obtain ⟨n, hn⟩ : ∃ n, n = L.length := ⟨_, rfl⟩
 rw [← hn] at h hcap ⊢
 have HR := Lib.hid h
 have HN := Lib.hid hn
 have HXX := Lib.hid hx
 have HII := Lib.hid hi
 have hb0 : Below w.heap.size w (w.alloc (.cells #[.int .i64 0, .int .i64 0, .int .i64 0, .int .i64 0, .int .i64 0, .int .i64 0, .int .i64 0, .int .i64 0, .int .i64 0, .int .i64 0, .int .i64 0, .int .i64 0] 38)) := (Below.refl _ _).alloc (Nat.le_refl _) _
 have hg : HT (w.alloc (.cells #[.int .i64 0, .int .i64 0, .int .i64 0, .int .i64 0, .int .i64 0, .int .i64 0, .int .i64 0, .int .i64 0, .int .i64 0, .int .i64 0, .int .i64 0, .int .i64 0] 38)) w.heap.size 38 [.int .i64 0, .int .i64 0, .int .i64 0, .int .i64 0, .int .i64 0, .int .i64 0, .int .i64 0, .int .i64 0, .int .i64 0, .int .i64 0, .int .i64 0, .int .i64 0] := HT.new
 have HB0 := Lib.hid hb0
 have HG := Lib.hid hg
 clear h hn hx hi hb0 hg
 go_enter Try.func57, Try.ntmps57
 go_wp2_with fail
 obtain ⟨g0, hg0⟩ : ∃ g, g = w.heap.size := ⟨_, rfl⟩
 have HGE := Lib.hid hg0
 rw [← hg0] at HG ⊢
 clear hg0
 go_loopw [13] (fun i wr => ∃ k : Nat, k ≤ n ∧ i = .int .i64 k ∧ Hid (NotTo InT.no nn L k) ∧ HT wr g0 38 [.int .i64 0, .int .i64 0, .int .i64 0, .int .i64 0, .int .i64 0, .int .i64 0, .int .i64 0, .int .i64 0, .int .i64 0, .int .i64 0, .int .i64 0, .int .i64 0] ∧ Below w.heap.size w wr) (fun i _ => n - (intOf i).toNat)
 case atStart => exact ⟨0, Nat.zero_le _, rfl, NotTo.zero _ _ _, HG.out, HB0.out⟩
 case round =>
  obtain ⟨k, hk, rfl, HN0, hg0, hbel⟩ := hrel
  by_cases hlt : k < n
  ·
   have hkL : k < L.length := by rw [← HN.out]; exact hlt
   obtain ⟨ba, offa, rfl, _, hca⟩ := (HR.out.rew HN.out hbel).at (by omega) (by decide)
   obtain ⟨c, hc⟩ : ∃ c, c = L[k] := ⟨_, rfl⟩
   have HCA : Hid (∀ j v, [.int .i64 c.no, .int .i64 c.cur, .int .i64 c.mult, .int .i64 c.add, .int .i64 c.set, .int .i64 c.price, .int .i64 c.h0, .int .i64 c.h1, .int .i64 c.h2, .int .i64 c.h3, .int .i64 c.h4, .int .i64 c.h5][j]? = some v → wr.cell? ⟨ba, offa + k * 12 + j, none⟩ = some v) := fun j v h => hca k hkL j v (by rw [← hc]; exact h)
   have HBL := Lib.hid hbel
   have HG0 := Lib.hid hg0
   have hk0 : (0 : Int) ≤ k := by omega
   have hk1 : (k : Int) < n := by omega
   have HC := Lib.hid hc
   clear hc hca hbel hg0
   have HSZ : Hid ((Try.prog.info? 38).map (·.size) = some (#[.int .i64 c.no, .int .i64 c.cur, .int .i64 c.mult, .int .i64 c.add, .int .i64 c.set, .int .i64 c.price, .int .i64 c.h0, .int .i64 c.h1, .int .i64 c.h2, .int .i64 c.h3, .int .i64 c.h4, .int .i64 c.h5] : Array Value).size) := by show _ = _; rw [ins_sz]; rfl
   have HSE : Hid ((#[.int .i64 0, .int .i64 0, .int .i64 0, .int .i64 0, .int .i64 0, .int .i64 0, .int .i64 0, .int .i64 0, .int .i64 0, .int .i64 0, .int .i64 0, .int .i64 0] : Array Value).size = (#[.int .i64 c.no, .int .i64 c.cur, .int .i64 c.mult, .int .i64 c.add, .int .i64 c.set, .int .i64 c.price, .int .i64 c.h0, .int .i64 c.h1, .int .i64 c.h2, .int .i64 c.h3, .int .i64 c.h4, .int .i64 c.h5] : Array Value).size) := by show _ = _; rfl
   have HON : Hid ((#[.int .i64 c.no, .int .i64 c.cur, .int .i64 c.mult, .int .i64 c.add, .int .i64 c.set, .int .i64 c.price, .int .i64 c.h0, .int .i64 c.h1, .int .i64 c.h2, .int .i64 c.h3, .int .i64 c.h4, .int .i64 c.h5] : Array Value).all (·.oneCell') = true) := by show _ = true; simp [Value.oneCell']
   have HSE2 := HSE
   have HON2 := HON
   go_upto_region 4 with (first
    | (refine wpList_load_mid rfl 38 (.tmp 16) rfl ba (offa + k * 12) rfl [.int .i64 c.no, .int .i64 c.cur, .int .i64 c.mult, .int .i64 c.add, .int .i64 c.set, .int .i64 c.price, .int .i64 c.h0, .int .i64 c.h1, .int .i64 c.h2, .int .i64 c.h3, .int .i64 c.h4, .int .i64 c.h5] _ (fun j v h => HCA.out j v h) Try.underlying38 rfl HSZ.out ?_)
    | (refine wpList_store_row rfl 38 (.tmp 9) (.tmp 17) rfl wr.heap.size #[.int .i64 c.no, .int .i64 c.cur, .int .i64 c.mult, .int .i64 c.add, .int .i64 c.set, .int .i64 c.price, .int .i64 c.h0, .int .i64 c.h1, .int .i64 c.h2, .int .i64 c.h3, .int .i64 c.h4, .int .i64 c.h5] rfl rfl 38 #[.int .i64 0, .int .i64 0, .int .i64 0, .int .i64 0, .int .i64 0, .int .i64 0, .int .i64 0, .int .i64 0, .int .i64 0, .int .i64 0, .int .i64 0, .int .i64 0] (heap_alloc_new _ _) HSZ.out HSE.out HON.out ?_)
    | fail)
   have hbs : Below wr.heap.size wr ((wr.alloc (.cells #[.int .i64 0, .int .i64 0, .int .i64 0, .int .i64 0, .int .i64 0, .int .i64 0, .int .i64 0, .int .i64 0, .int .i64 0, .int .i64 0, .int .i64 0, .int .i64 0] 38)).setRow wr.heap.size #[.int .i64 c.no, .int .i64 c.cur, .int .i64 c.mult, .int .i64 c.add, .int .i64 c.set, .int .i64 c.price, .int .i64 c.h0, .int .i64 c.h1, .int .i64 c.h2, .int .i64 c.h3, .int .i64 c.h4, .int .i64 c.h5]) := ((Below.refl _ _).alloc (Nat.le_refl _) _).trans (setRow_below (Nat.le_refl _) _)
   have hx : HT ((wr.alloc (.cells #[.int .i64 0, .int .i64 0, .int .i64 0, .int .i64 0, .int .i64 0, .int .i64 0, .int .i64 0, .int .i64 0, .int .i64 0, .int .i64 0, .int .i64 0, .int .i64 0] 38)).setRow wr.heap.size #[.int .i64 c.no, .int .i64 c.cur, .int .i64 c.mult, .int .i64 c.add, .int .i64 c.set, .int .i64 c.price, .int .i64 c.h0, .int .i64 c.h1, .int .i64 c.h2, .int .i64 c.h3, .int .i64 c.h4, .int .i64 c.h5]) wr.heap.size 38 [.int .i64 c.no, .int .i64 c.cur, .int .i64 c.mult, .int .i64 c.add, .int .i64 c.set, .int .i64 c.price, .int .i64 c.h0, .int .i64 c.h1, .int .i64 c.h2, .int .i64 c.h3, .int .i64 c.h4, .int .i64 c.h5] := setRow_heap _ _ _ _ _ _ (heap_alloc_new _ _)
   have hbw := bgo HBL.out hbs (Below.size HBL.out)
   obtain ⟨W, hW⟩ : ∃ zz, zz = ((wr.alloc (.cells #[.int .i64 0, .int .i64 0, .int .i64 0, .int .i64 0, .int .i64 0, .int .i64 0, .int .i64 0, .int .i64 0, .int .i64 0, .int .i64 0, .int .i64 0, .int .i64 0] 38)).setRow wr.heap.size #[.int .i64 c.no, .int .i64 c.cur, .int .i64 c.mult, .int .i64 c.add, .int .i64 c.set, .int .i64 c.price, .int .i64 c.h0, .int .i64 c.h1, .int .i64 c.h2, .int .i64 c.h3, .int .i64 c.h4, .int .i64 c.h5]) := ⟨_, rfl⟩
   rw [← hW] at hbs hx hbw ⊢
   obtain ⟨gx, hg⟩ : ∃ zz, zz = wr.heap.size := ⟨_, rfl⟩
   rw [← hg] at hx ⊢
   have HX := Lib.hid hx
   have HBW := Lib.hid hbw
   have HBS := Lib.hid hbs
   clear hW hx hbw hbs hg HSE HON
   have HG1 := Lib.hid (HG0.out.below HBS.out)
   have cl := noI_any W c.no c.cur c.mult c.add c.set c.price c.h0 c.h1 c.h2 c.h3 c.h4 c.h5
   by_cases he : c.no = nn
   ·
    have HHIT := Lib.hid (fd_hit iZ HN0.out hkL (by rw [← HC.out]; exact he))
    have he2 : (c.no == nn) = true := by simpa using he
    clear he
    go_wp2_with (first
     | (refine wpList_load_row rfl 38 (.tmp 9) rfl gx rfl 38 #[.int .i64 c.no, .int .i64 c.cur, .int .i64 c.mult, .int .i64 c.add, .int .i64 c.set, .int .i64 c.price, .int .i64 c.h0, .int .i64 c.h1, .int .i64 c.h2, .int .i64 c.h3, .int .i64 c.h4, .int .i64 c.h5] (0, 0) _ HX.out Try.underlying38 rfl HSZ.out ?_)
     | fail)
    refine cl.mono ?_
    clear cl
    rintro e w1 ⟨rfl, hb⟩
    have HBW1 := Lib.hid (bgo HBW.out hb HBW.out.size)
    have HX1 : Hid (w1.heap[gx]? = some (.cells #[.int .i64 c.no, .int .i64 c.cur, .int .i64 c.mult, .int .i64 c.add, .int .i64 c.set, .int .i64 c.price, .int .i64 c.h0, .int .i64 c.h1, .int .i64 c.h2, .int .i64 c.h3, .int .i64 c.h4, .int .i64 c.h5] 38 (0, 0))) := HX.out.below hb
    have HG2 : Hid (w1.heap[g0]? = some (.cells #[.int .i64 0, .int .i64 0, .int .i64 0, .int .i64 0, .int .i64 0, .int .i64 0, .int .i64 0, .int .i64 0, .int .i64 0, .int .i64 0, .int .i64 0, .int .i64 0] 38 (0, 0))) := HG1.out.below hb
    clear hb
    go_wp2_with (first
     | (refine wpList_load_row rfl 38 (.tmp 9) rfl gx rfl 38 #[.int .i64 c.no, .int .i64 c.cur, .int .i64 c.mult, .int .i64 c.add, .int .i64 c.set, .int .i64 c.price, .int .i64 c.h0, .int .i64 c.h1, .int .i64 c.h2, .int .i64 c.h3, .int .i64 c.h4, .int .i64 c.h5] (0, 0) _ HX1.out Try.underlying38 rfl HSZ.out ?_)
     | (refine wpList_store_row rfl 38 (.tmp 6) (.tmp 23) rfl g0 #[.int .i64 c.no, .int .i64 c.cur, .int .i64 c.mult, .int .i64 c.add, .int .i64 c.set, .int .i64 c.price, .int .i64 c.h0, .int .i64 c.h1, .int .i64 c.h2, .int .i64 c.h3, .int .i64 c.h4, .int .i64 c.h5] rfl rfl 38 #[.int .i64 0, .int .i64 0, .int .i64 0, .int .i64 0, .int .i64 0, .int .i64 0, .int .i64 0, .int .i64 0, .int .i64 0, .int .i64 0, .int .i64 0, .int .i64 0] HG2.out HSZ.out HSE2.out HON2.out ?_)
     | fail)
    refine bodyPost_ret (results_ht rfl (HT.row HG2.out rfl) rfl rfl Try.underlying38 rfl ins_sz) rfl ⟨?_, HBW1.out.trans (setRow_below (by rw [HGE.out]; exact Nat.le_refl _) _)⟩
    have e1 := HHIT.out.1
    have e2 := HHIT.out.2.1
    rw [HXX.out, HII.out, e1, e2, ← HC.out]
    rfl
   ·
    have HNX := Lib.hid (HN0.out.next hkL (by rw [← HC.out]; exact he))
    have he2 : (c.no == nn) = false := by simpa using he
    clear he
    go_wp2_with (first
     | (refine wpList_load_row rfl 38 (.tmp 9) rfl gx rfl 38 #[.int .i64 c.no, .int .i64 c.cur, .int .i64 c.mult, .int .i64 c.add, .int .i64 c.set, .int .i64 c.price, .int .i64 c.h0, .int .i64 c.h1, .int .i64 c.h2, .int .i64 c.h3, .int .i64 c.h4, .int .i64 c.h5] (0, 0) _ HX.out Try.underlying38 rfl HSZ.out ?_)
     | fail)
    refine cl.mono ?_
    clear cl
    rintro e w1 ⟨rfl, hb⟩
    have HBW1 := Lib.hid (bgo HBW.out hb HBW.out.size)
    have HX1 : Hid (w1.heap[gx]? = some (.cells #[.int .i64 c.no, .int .i64 c.cur, .int .i64 c.mult, .int .i64 c.add, .int .i64 c.set, .int .i64 c.price, .int .i64 c.h0, .int .i64 c.h1, .int .i64 c.h2, .int .i64 c.h3, .int .i64 c.h4, .int .i64 c.h5] 38 (0, 0))) := HX.out.below hb
    have HG2 : Hid (w1.heap[g0]? = some (.cells #[.int .i64 0, .int .i64 0, .int .i64 0, .int .i64 0, .int .i64 0, .int .i64 0, .int .i64 0, .int .i64 0, .int .i64 0, .int .i64 0, .int .i64 0, .int .i64 0] 38 (0, 0))) := HG1.out.below hb
    clear hb
    go_wp2_with fail
    exact ⟨⟨k + 1, by omega, by push_cast; rfl, HNX.out, HG2.out, HBW1.out⟩, by simp [intOf]; omega⟩
  ·
   obtain rfl : k = n := by omega
   have HHIT := Lib.hid (fd_miss iZ HN0.out (by have := HN.out; omega))
   have HBL := Lib.hid hbel
   have HG0 := Lib.hid hg0
   clear hbel hg0
   have HSZ : Hid ((Try.prog.info? 38).map (·.size) = some (#[.int .i64 0, .int .i64 0, .int .i64 0, .int .i64 0, .int .i64 0, .int .i64 0, .int .i64 0, .int .i64 0, .int .i64 0, .int .i64 0, .int .i64 0, .int .i64 0] : Array Value).size) := by show _ = _; rw [ins_sz]; rfl
   have HSE : Hid ((#[.int .i64 0, .int .i64 0, .int .i64 0, .int .i64 0, .int .i64 0, .int .i64 0, .int .i64 0, .int .i64 0, .int .i64 0, .int .i64 0, .int .i64 0, .int .i64 0] : Array Value).size = (#[.int .i64 0, .int .i64 0, .int .i64 0, .int .i64 0, .int .i64 0, .int .i64 0, .int .i64 0, .int .i64 0, .int .i64 0, .int .i64 0, .int .i64 0, .int .i64 0] : Array Value).size) := by show _ = _; rfl
   have HON : Hid ((#[.int .i64 0, .int .i64 0, .int .i64 0, .int .i64 0, .int .i64 0, .int .i64 0, .int .i64 0, .int .i64 0, .int .i64 0, .int .i64 0, .int .i64 0, .int .i64 0] : Array Value).all (·.oneCell') = true) := by show _ = true; simp [Value.oneCell']
   have hgl := HG0.out.lt
   have HG1 : Hid ((wr.alloc (.cells #[.int .i64 0, .int .i64 0, .int .i64 0, .int .i64 0, .int .i64 0, .int .i64 0, .int .i64 0, .int .i64 0, .int .i64 0, .int .i64 0, .int .i64 0, .int .i64 0] 38)).heap[g0]? = some (.cells #[.int .i64 0, .int .i64 0, .int .i64 0, .int .i64 0, .int .i64 0, .int .i64 0, .int .i64 0, .int .i64 0, .int .i64 0, .int .i64 0, .int .i64 0, .int .i64 0] 38 (0, 0))) := HG0.out.below ((Below.refl _ _).alloc (Nat.le_refl _) _)
   have HX1 : Hid ((wr.alloc (.cells #[.int .i64 0, .int .i64 0, .int .i64 0, .int .i64 0, .int .i64 0, .int .i64 0, .int .i64 0, .int .i64 0, .int .i64 0, .int .i64 0, .int .i64 0, .int .i64 0] 38)).heap[wr.heap.size]? = some (.cells #[.int .i64 0, .int .i64 0, .int .i64 0, .int .i64 0, .int .i64 0, .int .i64 0, .int .i64 0, .int .i64 0, .int .i64 0, .int .i64 0, .int .i64 0, .int .i64 0] 38 (0, 0))) := heap_alloc_new _ _
   go_wp2_with (first
    | (refine wpList_load_row rfl 38 (.tmp 10) rfl wr.heap.size rfl 38 #[.int .i64 0, .int .i64 0, .int .i64 0, .int .i64 0, .int .i64 0, .int .i64 0, .int .i64 0, .int .i64 0, .int .i64 0, .int .i64 0, .int .i64 0, .int .i64 0] (0, 0) _ HX1.out Try.underlying38 rfl HSZ.out ?_)
    | (refine wpList_store_row rfl 38 (.tmp 6) (.tmp 26) rfl g0 #[.int .i64 0, .int .i64 0, .int .i64 0, .int .i64 0, .int .i64 0, .int .i64 0, .int .i64 0, .int .i64 0, .int .i64 0, .int .i64 0, .int .i64 0, .int .i64 0] rfl rfl 38 #[.int .i64 0, .int .i64 0, .int .i64 0, .int .i64 0, .int .i64 0, .int .i64 0, .int .i64 0, .int .i64 0, .int .i64 0, .int .i64 0, .int .i64 0, .int .i64 0] HG1.out HSZ.out HSE.out HON.out ?_)
    | fail)
   refine bodyPost_ret (results_ht rfl (HT.row HG1.out rfl) rfl rfl Try.underlying38 rfl ins_sz) rfl ⟨?_, (HBL.out.alloc HBL.out.size _).trans (setRow_below (by rw [HGE.out]; exact Nat.le_refl _) _)⟩
   rw [HXX.out, HII.out, HHIT.out.1, HHIT.out.2.1]
   rfl
set_option maxRecDepth 100000 in
set_option maxHeartbeats 1600000 in
theorem Inst_any (w : World) (va vb vc : Value) (L : List InT) (nn : Int) (x : InT) (b : Bool) (h : Rs InT.vs 12 w vb L) (hx : x = fdX InT.no iZ nn L) (hb : b = hasB InT.no nn L) :
  Calls Try.prog 15 #[.agg #[va, vb, vc], .int .i64 nn] w fun e w' => e = .returned (.tuple #[.agg #[.int .i64 x.no, .int .i64 x.cur, .int .i64 x.mult, .int .i64 x.add, .int .i64 x.set, .int .i64 x.price, .int .i64 x.h0, .int .i64 x.h1, .int .i64 x.h2, .int .i64 x.h3, .int .i64 x.h4, .int .i64 x.h5], .bool b]) ∧ Below w.heap.size w w' := by
 have hb0 : Below w.heap.size w ((w.alloc (.cells #[va, vb, vc] 26)).alloc (.cells #[.int .i64 0, .int .i64 0, .int .i64 0, .int .i64 0, .int .i64 0, .int .i64 0, .int .i64 0, .int .i64 0, .int .i64 0, .int .i64 0, .int .i64 0, .int .i64 0] 38)) := ((Below.refl _ _).alloc (Nat.le_refl _) _).alloc (by simp) _
 have hc0 : ((w.alloc (.cells #[va, vb, vc] 26)).alloc (.cells #[.int .i64 0, .int .i64 0, .int .i64 0, .int .i64 0, .int .i64 0, .int .i64 0, .int .i64 0, .int .i64 0, .int .i64 0, .int .i64 0, .int .i64 0, .int .i64 0] 38)).cell? ⟨w.heap.size, 1, none⟩ = some vb := (HT.new (w := w) (t := 26) (C := [va, vb, vc])).below ((Below.refl _ _).alloc (Nat.le_refl _) _) |>.cell (j := 1) rfl
 have hg : HT ((w.alloc (.cells #[va, vb, vc] 26)).alloc (.cells #[.int .i64 0, .int .i64 0, .int .i64 0, .int .i64 0, .int .i64 0, .int .i64 0, .int .i64 0, .int .i64 0, .int .i64 0, .int .i64 0, .int .i64 0, .int .i64 0] 38)) (w.heap.size + 1) 38 [.int .i64 0, .int .i64 0, .int .i64 0, .int .i64 0, .int .i64 0, .int .i64 0, .int .i64 0, .int .i64 0, .int .i64 0, .int .i64 0, .int .i64 0, .int .i64 0] := by
  have := HT.new (w := w.alloc (.cells #[va, vb, vc] 26)) (t := 38) (C := [.int .i64 0, .int .i64 0, .int .i64 0, .int .i64 0, .int .i64 0, .int .i64 0, .int .i64 0, .int .i64 0, .int .i64 0, .int .i64 0, .int .i64 0, .int .i64 0])
  rwa [show (w.alloc (.cells #[va, vb, vc] 26)).heap.size = w.heap.size + 1 by simp] at this
 obtain ⟨i, hi⟩ : ∃ i, i = fdI InT.no nn L := ⟨_, rfl⟩
 have cl := findI_any ((w.alloc (.cells #[va, vb, vc] 26)).alloc (.cells #[.int .i64 0, .int .i64 0, .int .i64 0, .int .i64 0, .int .i64 0, .int .i64 0, .int .i64 0, .int .i64 0, .int .i64 0, .int .i64 0, .int .i64 0, .int .i64 0] 38)) vb L nn x i (h.mono hb0) hx hi
 have HBB : Hid (b = decide (0 ≤ i)) := by show _ = _; rw [hb, hi]; rfl
 have HB0 := Lib.hid hb0
 have HG := Lib.hid hg
 clear h hx hi hb hb0 hg
 go_enter Try.func15, Try.ntmps15
 go_wp2_with fail
 refine cl.mono ?_
 clear cl hc0
 rintro e w1 ⟨rfl, hb1⟩
 have HBE := Lib.hid (bgo HB0.out hb1 HB0.out.size)
 have HG1 := Lib.hid (HG.out.below hb1)
 clear hb1
 have HSZ : Hid ((Try.prog.info? 38).map (·.size) = some (#[.int .i64 x.no, .int .i64 x.cur, .int .i64 x.mult, .int .i64 x.add, .int .i64 x.set, .int .i64 x.price, .int .i64 x.h0, .int .i64 x.h1, .int .i64 x.h2, .int .i64 x.h3, .int .i64 x.h4, .int .i64 x.h5] : Array Value).size) := by show _ = _; rw [ins_sz]; rfl
 have HSE : Hid ((#[.int .i64 0, .int .i64 0, .int .i64 0, .int .i64 0, .int .i64 0, .int .i64 0, .int .i64 0, .int .i64 0, .int .i64 0, .int .i64 0, .int .i64 0, .int .i64 0] : Array Value).size = (#[.int .i64 x.no, .int .i64 x.cur, .int .i64 x.mult, .int .i64 x.add, .int .i64 x.set, .int .i64 x.price, .int .i64 x.h0, .int .i64 x.h1, .int .i64 x.h2, .int .i64 x.h3, .int .i64 x.h4, .int .i64 x.h5] : Array Value).size) := by show _ = _; rfl
 have HON : Hid ((#[.int .i64 x.no, .int .i64 x.cur, .int .i64 x.mult, .int .i64 x.add, .int .i64 x.set, .int .i64 x.price, .int .i64 x.h0, .int .i64 x.h1, .int .i64 x.h2, .int .i64 x.h3, .int .i64 x.h4, .int .i64 x.h5] : Array Value).all (·.oneCell') = true) := by show _ = true; simp [Value.oneCell']
 have HSE2 := HSE
 have HON2 := HON
 go_upto_region 2 with (first
  | (refine wpList_store_row rfl 38 (.tmp 6) (.tmp 13) rfl w1.heap.size #[.int .i64 x.no, .int .i64 x.cur, .int .i64 x.mult, .int .i64 x.add, .int .i64 x.set, .int .i64 x.price, .int .i64 x.h0, .int .i64 x.h1, .int .i64 x.h2, .int .i64 x.h3, .int .i64 x.h4, .int .i64 x.h5] rfl rfl 38 #[.int .i64 0, .int .i64 0, .int .i64 0, .int .i64 0, .int .i64 0, .int .i64 0, .int .i64 0, .int .i64 0, .int .i64 0, .int .i64 0, .int .i64 0, .int .i64 0] (heap_alloc_new _ _) HSZ.out HSE.out HON.out ?_)
  | fail)
 have hbs : Below w1.heap.size w1 ((w1.alloc (.cells #[.int .i64 0, .int .i64 0, .int .i64 0, .int .i64 0, .int .i64 0, .int .i64 0, .int .i64 0, .int .i64 0, .int .i64 0, .int .i64 0, .int .i64 0, .int .i64 0] 38)).setRow w1.heap.size #[.int .i64 x.no, .int .i64 x.cur, .int .i64 x.mult, .int .i64 x.add, .int .i64 x.set, .int .i64 x.price, .int .i64 x.h0, .int .i64 x.h1, .int .i64 x.h2, .int .i64 x.h3, .int .i64 x.h4, .int .i64 x.h5]) := ((Below.refl _ _).alloc (Nat.le_refl _) _).trans (setRow_below (Nat.le_refl _) _)
 have hx : HT ((w1.alloc (.cells #[.int .i64 0, .int .i64 0, .int .i64 0, .int .i64 0, .int .i64 0, .int .i64 0, .int .i64 0, .int .i64 0, .int .i64 0, .int .i64 0, .int .i64 0, .int .i64 0] 38)).setRow w1.heap.size #[.int .i64 x.no, .int .i64 x.cur, .int .i64 x.mult, .int .i64 x.add, .int .i64 x.set, .int .i64 x.price, .int .i64 x.h0, .int .i64 x.h1, .int .i64 x.h2, .int .i64 x.h3, .int .i64 x.h4, .int .i64 x.h5]) w1.heap.size 38 [.int .i64 x.no, .int .i64 x.cur, .int .i64 x.mult, .int .i64 x.add, .int .i64 x.set, .int .i64 x.price, .int .i64 x.h0, .int .i64 x.h1, .int .i64 x.h2, .int .i64 x.h3, .int .i64 x.h4, .int .i64 x.h5] := setRow_heap _ _ _ _ _ _ (heap_alloc_new _ _)
 have hbw := bgo HBE.out hbs (Below.size HBE.out)
 obtain ⟨W, hW⟩ : ∃ zz, zz = ((w1.alloc (.cells #[.int .i64 0, .int .i64 0, .int .i64 0, .int .i64 0, .int .i64 0, .int .i64 0, .int .i64 0, .int .i64 0, .int .i64 0, .int .i64 0, .int .i64 0, .int .i64 0] 38)).setRow w1.heap.size #[.int .i64 x.no, .int .i64 x.cur, .int .i64 x.mult, .int .i64 x.add, .int .i64 x.set, .int .i64 x.price, .int .i64 x.h0, .int .i64 x.h1, .int .i64 x.h2, .int .i64 x.h3, .int .i64 x.h4, .int .i64 x.h5]) := ⟨_, rfl⟩
 rw [← hW] at hbs hx hbw ⊢
 obtain ⟨gx, hg⟩ : ∃ zz, zz = w1.heap.size := ⟨_, rfl⟩
 rw [← hg] at hx ⊢
 have HX := Lib.hid hx
 have HBW := Lib.hid hbw
 have HBS := Lib.hid hbs
 clear hW hx hbw hbs hg HSE HON
 have HG2 : Hid (W.heap[w.heap.size + 1]? = some (.cells #[.int .i64 0, .int .i64 0, .int .i64 0, .int .i64 0, .int .i64 0, .int .i64 0, .int .i64 0, .int .i64 0, .int .i64 0, .int .i64 0, .int .i64 0, .int .i64 0] 38 (0, 0))) := HG1.out.below HBS.out
 have HX2 : Hid (W.heap[gx]? = some (.cells #[.int .i64 x.no, .int .i64 x.cur, .int .i64 x.mult, .int .i64 x.add, .int .i64 x.set, .int .i64 x.price, .int .i64 x.h0, .int .i64 x.h1, .int .i64 x.h2, .int .i64 x.h3, .int .i64 x.h4, .int .i64 x.h5] 38 (0, 0))) := HX.out
 by_cases h0 : 0 ≤ i
 ·
  have HV : Hid (b = true) := by show _ = _; rw [HBB.out]; simpa using h0
  go_wp2_with (first
   | (refine wpList_load_row rfl 38 (.tmp 6) rfl gx rfl 38 #[.int .i64 x.no, .int .i64 x.cur, .int .i64 x.mult, .int .i64 x.add, .int .i64 x.set, .int .i64 x.price, .int .i64 x.h0, .int .i64 x.h1, .int .i64 x.h2, .int .i64 x.h3, .int .i64 x.h4, .int .i64 x.h5] (0, 0) _ HX2.out Try.underlying38 rfl HSZ.out ?_)
   | (refine wpList_store_row rfl 38 (.tmp 4) (.tmp 15) rfl (w.heap.size + 1) #[.int .i64 x.no, .int .i64 x.cur, .int .i64 x.mult, .int .i64 x.add, .int .i64 x.set, .int .i64 x.price, .int .i64 x.h0, .int .i64 x.h1, .int .i64 x.h2, .int .i64 x.h3, .int .i64 x.h4, .int .i64 x.h5] rfl rfl 38 #[.int .i64 0, .int .i64 0, .int .i64 0, .int .i64 0, .int .i64 0, .int .i64 0, .int .i64 0, .int .i64 0, .int .i64 0, .int .i64 0, .int .i64 0, .int .i64 0] HG2.out HSZ.out HSE2.out HON2.out ?_)
   | fail)
  refine bodyPost_ret (results_ht rfl (HT.row HG2.out rfl) rfl rfl Try.underlying38 rfl ins_sz) rfl ⟨?_, HBW.out.trans (setRow_below (by omega) _)⟩
  rw [HV.out]
  rfl
 ·
  have HV : Hid (b = false) := by show _ = _; rw [HBB.out]; simpa using h0
  have h0d : decide (0 ≤ i) = false := by simpa using h0
  go_wp2_with (first
   | (refine wpList_load_row rfl 38 (.tmp 6) rfl gx rfl 38 #[.int .i64 x.no, .int .i64 x.cur, .int .i64 x.mult, .int .i64 x.add, .int .i64 x.set, .int .i64 x.price, .int .i64 x.h0, .int .i64 x.h1, .int .i64 x.h2, .int .i64 x.h3, .int .i64 x.h4, .int .i64 x.h5] (0, 0) _ HX2.out Try.underlying38 rfl HSZ.out ?_)
   | (refine wpList_store_row rfl 38 (.tmp 4) (.tmp 15) rfl (w.heap.size + 1) #[.int .i64 x.no, .int .i64 x.cur, .int .i64 x.mult, .int .i64 x.add, .int .i64 x.set, .int .i64 x.price, .int .i64 x.h0, .int .i64 x.h1, .int .i64 x.h2, .int .i64 x.h3, .int .i64 x.h4, .int .i64 x.h5] rfl rfl 38 #[.int .i64 0, .int .i64 0, .int .i64 0, .int .i64 0, .int .i64 0, .int .i64 0, .int .i64 0, .int .i64 0, .int .i64 0, .int .i64 0, .int .i64 0, .int .i64 0] HG2.out HSZ.out HSE2.out HON2.out ?_)
   | fail)
  refine bodyPost_ret (results_ht rfl (HT.row HG2.out rfl) rfl rfl Try.underlying38 rfl ins_sz) rfl ⟨?_, HBW.out.trans (setRow_below (by omega) _)⟩
  rw [HV.out]
  rfl
set_option maxRecDepth 100000 in
set_option maxHeartbeats 1600000 in
theorem findA_any (w : World) (v : Value) (L : List AsT) (nn : Int) (x : AsT) (i : Int) (h : Rs AsT.vs 4 w v L) (hx : x = fdX AsT.no aZ nn L) (hi : i = fdI AsT.no nn L) :
  Calls Try.prog 58 #[v, .func (.func 51) #[] #[], .int .i64 nn] w fun e w' => e = .returned (.tuple #[.agg #[.int .i64 x.no, .int .i64 x.cur, .int .i64 x.price, .int .i64 x.cut], .int .i64 i]) ∧ Below w.heap.size w w' := by
 obtain ⟨av, cap, rfl, hcap, hm⟩ := h.shape
 obtain ⟨n, hn⟩ : ∃ n, n = L.length := ⟨_, rfl⟩
 rw [← hn] at h hcap ⊢
 have HR := Lib.hid h
 have HN := Lib.hid hn
 have HXX := Lib.hid hx
 have HII := Lib.hid hi
 have hb0 : Below w.heap.size w (w.alloc (.cells #[.int .i64 0, .int .i64 0, .int .i64 0, .int .i64 0] 42)) := (Below.refl _ _).alloc (Nat.le_refl _) _
 have hg : HT (w.alloc (.cells #[.int .i64 0, .int .i64 0, .int .i64 0, .int .i64 0] 42)) w.heap.size 42 [.int .i64 0, .int .i64 0, .int .i64 0, .int .i64 0] := HT.new
 have HB0 := Lib.hid hb0
 have HG := Lib.hid hg
 clear h hn hx hi hb0 hg
 go_enter Try.func58, Try.ntmps58
 go_wp2_with fail
 obtain ⟨g0, hg0⟩ : ∃ g, g = w.heap.size := ⟨_, rfl⟩
 have HGE := Lib.hid hg0
 rw [← hg0] at HG ⊢
 clear hg0
 go_loopw [13] (fun i wr => ∃ k : Nat, k ≤ n ∧ i = .int .i64 k ∧ Hid (NotTo AsT.no nn L k) ∧ HT wr g0 42 [.int .i64 0, .int .i64 0, .int .i64 0, .int .i64 0] ∧ Below w.heap.size w wr) (fun i _ => n - (intOf i).toNat)
 case atStart => exact ⟨0, Nat.zero_le _, rfl, NotTo.zero _ _ _, HG.out, HB0.out⟩
 case round =>
  obtain ⟨k, hk, rfl, HN0, hg0, hbel⟩ := hrel
  by_cases hlt : k < n
  ·
   have hkL : k < L.length := by rw [← HN.out]; exact hlt
   obtain ⟨ba, offa, rfl, _, hca⟩ := (HR.out.rew HN.out hbel).at (by omega) (by decide)
   obtain ⟨c, hc⟩ : ∃ c, c = L[k] := ⟨_, rfl⟩
   have HCA : Hid (∀ j v, [.int .i64 c.no, .int .i64 c.cur, .int .i64 c.price, .int .i64 c.cut][j]? = some v → wr.cell? ⟨ba, offa + k * 4 + j, none⟩ = some v) := fun j v h => hca k hkL j v (by rw [← hc]; exact h)
   have HBL := Lib.hid hbel
   have HG0 := Lib.hid hg0
   have hk0 : (0 : Int) ≤ k := by omega
   have hk1 : (k : Int) < n := by omega
   have HC := Lib.hid hc
   clear hc hca hbel hg0
   have HSZ : Hid ((Try.prog.info? 42).map (·.size) = some (#[.int .i64 c.no, .int .i64 c.cur, .int .i64 c.price, .int .i64 c.cut] : Array Value).size) := by show _ = _; rw [ass_sz]; rfl
   have HSE : Hid ((#[.int .i64 0, .int .i64 0, .int .i64 0, .int .i64 0] : Array Value).size = (#[.int .i64 c.no, .int .i64 c.cur, .int .i64 c.price, .int .i64 c.cut] : Array Value).size) := by show _ = _; rfl
   have HON : Hid ((#[.int .i64 c.no, .int .i64 c.cur, .int .i64 c.price, .int .i64 c.cut] : Array Value).all (·.oneCell') = true) := by show _ = true; simp [Value.oneCell']
   have HSE2 := HSE
   have HON2 := HON
   go_upto_region 4 with (first
    | (refine wpList_load_mid rfl 42 (.tmp 16) rfl ba (offa + k * 4) rfl [.int .i64 c.no, .int .i64 c.cur, .int .i64 c.price, .int .i64 c.cut] _ (fun j v h => HCA.out j v h) Try.underlying42 rfl HSZ.out ?_)
    | (refine wpList_store_row rfl 42 (.tmp 9) (.tmp 17) rfl wr.heap.size #[.int .i64 c.no, .int .i64 c.cur, .int .i64 c.price, .int .i64 c.cut] rfl rfl 42 #[.int .i64 0, .int .i64 0, .int .i64 0, .int .i64 0] (heap_alloc_new _ _) HSZ.out HSE.out HON.out ?_)
    | fail)
   have hbs : Below wr.heap.size wr ((wr.alloc (.cells #[.int .i64 0, .int .i64 0, .int .i64 0, .int .i64 0] 42)).setRow wr.heap.size #[.int .i64 c.no, .int .i64 c.cur, .int .i64 c.price, .int .i64 c.cut]) := ((Below.refl _ _).alloc (Nat.le_refl _) _).trans (setRow_below (Nat.le_refl _) _)
   have hx : HT ((wr.alloc (.cells #[.int .i64 0, .int .i64 0, .int .i64 0, .int .i64 0] 42)).setRow wr.heap.size #[.int .i64 c.no, .int .i64 c.cur, .int .i64 c.price, .int .i64 c.cut]) wr.heap.size 42 [.int .i64 c.no, .int .i64 c.cur, .int .i64 c.price, .int .i64 c.cut] := setRow_heap _ _ _ _ _ _ (heap_alloc_new _ _)
   have hbw := bgo HBL.out hbs (Below.size HBL.out)
   obtain ⟨W, hW⟩ : ∃ zz, zz = ((wr.alloc (.cells #[.int .i64 0, .int .i64 0, .int .i64 0, .int .i64 0] 42)).setRow wr.heap.size #[.int .i64 c.no, .int .i64 c.cur, .int .i64 c.price, .int .i64 c.cut]) := ⟨_, rfl⟩
   rw [← hW] at hbs hx hbw ⊢
   obtain ⟨gx, hg⟩ : ∃ zz, zz = wr.heap.size := ⟨_, rfl⟩
   rw [← hg] at hx ⊢
   have HX := Lib.hid hx
   have HBW := Lib.hid hbw
   have HBS := Lib.hid hbs
   clear hW hx hbw hbs hg HSE HON
   have HG1 := Lib.hid (HG0.out.below HBS.out)
   have cl := noA_any W c.no c.cur c.price c.cut
   by_cases he : c.no = nn
   ·
    have HHIT := Lib.hid (fd_hit aZ HN0.out hkL (by rw [← HC.out]; exact he))
    have he2 : (c.no == nn) = true := by simpa using he
    clear he
    go_wp2_with (first
     | (refine wpList_load_row rfl 42 (.tmp 9) rfl gx rfl 42 #[.int .i64 c.no, .int .i64 c.cur, .int .i64 c.price, .int .i64 c.cut] (0, 0) _ HX.out Try.underlying42 rfl HSZ.out ?_)
     | fail)
    refine cl.mono ?_
    clear cl
    rintro e w1 ⟨rfl, hb⟩
    have HBW1 := Lib.hid (bgo HBW.out hb HBW.out.size)
    have HX1 : Hid (w1.heap[gx]? = some (.cells #[.int .i64 c.no, .int .i64 c.cur, .int .i64 c.price, .int .i64 c.cut] 42 (0, 0))) := HX.out.below hb
    have HG2 : Hid (w1.heap[g0]? = some (.cells #[.int .i64 0, .int .i64 0, .int .i64 0, .int .i64 0] 42 (0, 0))) := HG1.out.below hb
    clear hb
    go_wp2_with (first
     | (refine wpList_load_row rfl 42 (.tmp 9) rfl gx rfl 42 #[.int .i64 c.no, .int .i64 c.cur, .int .i64 c.price, .int .i64 c.cut] (0, 0) _ HX1.out Try.underlying42 rfl HSZ.out ?_)
     | (refine wpList_store_row rfl 42 (.tmp 6) (.tmp 23) rfl g0 #[.int .i64 c.no, .int .i64 c.cur, .int .i64 c.price, .int .i64 c.cut] rfl rfl 42 #[.int .i64 0, .int .i64 0, .int .i64 0, .int .i64 0] HG2.out HSZ.out HSE2.out HON2.out ?_)
     | fail)
    refine bodyPost_ret (results_ht rfl (HT.row HG2.out rfl) rfl rfl Try.underlying42 rfl ass_sz) rfl ⟨?_, HBW1.out.trans (setRow_below (by rw [HGE.out]; exact Nat.le_refl _) _)⟩
    have e1 := HHIT.out.1
    have e2 := HHIT.out.2.1
    rw [HXX.out, HII.out, e1, e2, ← HC.out]
    rfl
   ·
    have HNX := Lib.hid (HN0.out.next hkL (by rw [← HC.out]; exact he))
    have he2 : (c.no == nn) = false := by simpa using he
    clear he
    go_wp2_with (first
     | (refine wpList_load_row rfl 42 (.tmp 9) rfl gx rfl 42 #[.int .i64 c.no, .int .i64 c.cur, .int .i64 c.price, .int .i64 c.cut] (0, 0) _ HX.out Try.underlying42 rfl HSZ.out ?_)
     | fail)
    refine cl.mono ?_
    clear cl
    rintro e w1 ⟨rfl, hb⟩
    have HBW1 := Lib.hid (bgo HBW.out hb HBW.out.size)
    have HX1 : Hid (w1.heap[gx]? = some (.cells #[.int .i64 c.no, .int .i64 c.cur, .int .i64 c.price, .int .i64 c.cut] 42 (0, 0))) := HX.out.below hb
    have HG2 : Hid (w1.heap[g0]? = some (.cells #[.int .i64 0, .int .i64 0, .int .i64 0, .int .i64 0] 42 (0, 0))) := HG1.out.below hb
    clear hb
    go_wp2_with fail
    exact ⟨⟨k + 1, by omega, by push_cast; rfl, HNX.out, HG2.out, HBW1.out⟩, by simp [intOf]; omega⟩
  ·
   obtain rfl : k = n := by omega
   have HHIT := Lib.hid (fd_miss aZ HN0.out (by have := HN.out; omega))
   have HBL := Lib.hid hbel
   have HG0 := Lib.hid hg0
   clear hbel hg0
   have HSZ : Hid ((Try.prog.info? 42).map (·.size) = some (#[.int .i64 0, .int .i64 0, .int .i64 0, .int .i64 0] : Array Value).size) := by show _ = _; rw [ass_sz]; rfl
   have HSE : Hid ((#[.int .i64 0, .int .i64 0, .int .i64 0, .int .i64 0] : Array Value).size = (#[.int .i64 0, .int .i64 0, .int .i64 0, .int .i64 0] : Array Value).size) := by show _ = _; rfl
   have HON : Hid ((#[.int .i64 0, .int .i64 0, .int .i64 0, .int .i64 0] : Array Value).all (·.oneCell') = true) := by show _ = true; simp [Value.oneCell']
   have hgl := HG0.out.lt
   have HG1 : Hid ((wr.alloc (.cells #[.int .i64 0, .int .i64 0, .int .i64 0, .int .i64 0] 42)).heap[g0]? = some (.cells #[.int .i64 0, .int .i64 0, .int .i64 0, .int .i64 0] 42 (0, 0))) := HG0.out.below ((Below.refl _ _).alloc (Nat.le_refl _) _)
   have HX1 : Hid ((wr.alloc (.cells #[.int .i64 0, .int .i64 0, .int .i64 0, .int .i64 0] 42)).heap[wr.heap.size]? = some (.cells #[.int .i64 0, .int .i64 0, .int .i64 0, .int .i64 0] 42 (0, 0))) := heap_alloc_new _ _
   go_wp2_with (first
    | (refine wpList_load_row rfl 42 (.tmp 10) rfl wr.heap.size rfl 42 #[.int .i64 0, .int .i64 0, .int .i64 0, .int .i64 0] (0, 0) _ HX1.out Try.underlying42 rfl HSZ.out ?_)
    | (refine wpList_store_row rfl 42 (.tmp 6) (.tmp 26) rfl g0 #[.int .i64 0, .int .i64 0, .int .i64 0, .int .i64 0] rfl rfl 42 #[.int .i64 0, .int .i64 0, .int .i64 0, .int .i64 0] HG1.out HSZ.out HSE.out HON.out ?_)
    | fail)
   refine bodyPost_ret (results_ht rfl (HT.row HG1.out rfl) rfl rfl Try.underlying42 rfl ass_sz) rfl ⟨?_, (HBL.out.alloc HBL.out.size _).trans (setRow_below (by rw [HGE.out]; exact Nat.le_refl _) _)⟩
   rw [HXX.out, HII.out, HHIT.out.1, HHIT.out.2.1]
   rfl
set_option maxRecDepth 100000 in
set_option maxHeartbeats 1600000 in
theorem Asset_any (w : World) (va vb vc : Value) (L : List AsT) (nn : Int) (x : AsT) (b : Bool) (h : Rs AsT.vs 4 w vc L) (hx : x = fdX AsT.no aZ nn L) (hb : b = hasB AsT.no nn L) :
  Calls Try.prog 17 #[.agg #[va, vb, vc], .int .i64 nn] w fun e w' => e = .returned (.tuple #[.agg #[.int .i64 x.no, .int .i64 x.cur, .int .i64 x.price, .int .i64 x.cut], .bool b]) ∧ Below w.heap.size w w' := by
 have hb0 : Below w.heap.size w ((w.alloc (.cells #[va, vb, vc] 26)).alloc (.cells #[.int .i64 0, .int .i64 0, .int .i64 0, .int .i64 0] 42)) := ((Below.refl _ _).alloc (Nat.le_refl _) _).alloc (by simp) _
 have hc0 : ((w.alloc (.cells #[va, vb, vc] 26)).alloc (.cells #[.int .i64 0, .int .i64 0, .int .i64 0, .int .i64 0] 42)).cell? ⟨w.heap.size, 2, none⟩ = some vc := (HT.new (w := w) (t := 26) (C := [va, vb, vc])).below ((Below.refl _ _).alloc (Nat.le_refl _) _) |>.cell (j := 2) rfl
 have hg : HT ((w.alloc (.cells #[va, vb, vc] 26)).alloc (.cells #[.int .i64 0, .int .i64 0, .int .i64 0, .int .i64 0] 42)) (w.heap.size + 1) 42 [.int .i64 0, .int .i64 0, .int .i64 0, .int .i64 0] := by
  have := HT.new (w := w.alloc (.cells #[va, vb, vc] 26)) (t := 42) (C := [.int .i64 0, .int .i64 0, .int .i64 0, .int .i64 0])
  rwa [show (w.alloc (.cells #[va, vb, vc] 26)).heap.size = w.heap.size + 1 by simp] at this
 obtain ⟨i, hi⟩ : ∃ i, i = fdI AsT.no nn L := ⟨_, rfl⟩
 have cl := findA_any ((w.alloc (.cells #[va, vb, vc] 26)).alloc (.cells #[.int .i64 0, .int .i64 0, .int .i64 0, .int .i64 0] 42)) vc L nn x i (h.mono hb0) hx hi
 have HBB : Hid (b = decide (0 ≤ i)) := by show _ = _; rw [hb, hi]; rfl
 have HB0 := Lib.hid hb0
 have HG := Lib.hid hg
 clear h hx hi hb hb0 hg
 go_enter Try.func17, Try.ntmps17
 go_wp2_with fail
 refine cl.mono ?_
 clear cl hc0
 rintro e w1 ⟨rfl, hb1⟩
 have HBE := Lib.hid (bgo HB0.out hb1 HB0.out.size)
 have HG1 := Lib.hid (HG.out.below hb1)
 clear hb1
 have HSZ : Hid ((Try.prog.info? 42).map (·.size) = some (#[.int .i64 x.no, .int .i64 x.cur, .int .i64 x.price, .int .i64 x.cut] : Array Value).size) := by show _ = _; rw [ass_sz]; rfl
 have HSE : Hid ((#[.int .i64 0, .int .i64 0, .int .i64 0, .int .i64 0] : Array Value).size = (#[.int .i64 x.no, .int .i64 x.cur, .int .i64 x.price, .int .i64 x.cut] : Array Value).size) := by show _ = _; rfl
 have HON : Hid ((#[.int .i64 x.no, .int .i64 x.cur, .int .i64 x.price, .int .i64 x.cut] : Array Value).all (·.oneCell') = true) := by show _ = true; simp [Value.oneCell']
 have HSE2 := HSE
 have HON2 := HON
 go_upto_region 2 with (first
  | (refine wpList_store_row rfl 42 (.tmp 6) (.tmp 13) rfl w1.heap.size #[.int .i64 x.no, .int .i64 x.cur, .int .i64 x.price, .int .i64 x.cut] rfl rfl 42 #[.int .i64 0, .int .i64 0, .int .i64 0, .int .i64 0] (heap_alloc_new _ _) HSZ.out HSE.out HON.out ?_)
  | fail)
 have hbs : Below w1.heap.size w1 ((w1.alloc (.cells #[.int .i64 0, .int .i64 0, .int .i64 0, .int .i64 0] 42)).setRow w1.heap.size #[.int .i64 x.no, .int .i64 x.cur, .int .i64 x.price, .int .i64 x.cut]) := ((Below.refl _ _).alloc (Nat.le_refl _) _).trans (setRow_below (Nat.le_refl _) _)
 have hx : HT ((w1.alloc (.cells #[.int .i64 0, .int .i64 0, .int .i64 0, .int .i64 0] 42)).setRow w1.heap.size #[.int .i64 x.no, .int .i64 x.cur, .int .i64 x.price, .int .i64 x.cut]) w1.heap.size 42 [.int .i64 x.no, .int .i64 x.cur, .int .i64 x.price, .int .i64 x.cut] := setRow_heap _ _ _ _ _ _ (heap_alloc_new _ _)
 have hbw := bgo HBE.out hbs (Below.size HBE.out)
 obtain ⟨W, hW⟩ : ∃ zz, zz = ((w1.alloc (.cells #[.int .i64 0, .int .i64 0, .int .i64 0, .int .i64 0] 42)).setRow w1.heap.size #[.int .i64 x.no, .int .i64 x.cur, .int .i64 x.price, .int .i64 x.cut]) := ⟨_, rfl⟩
 rw [← hW] at hbs hx hbw ⊢
 obtain ⟨gx, hg⟩ : ∃ zz, zz = w1.heap.size := ⟨_, rfl⟩
 rw [← hg] at hx ⊢
 have HX := Lib.hid hx
 have HBW := Lib.hid hbw
 have HBS := Lib.hid hbs
 clear hW hx hbw hbs hg HSE HON
 have HG2 : Hid (W.heap[w.heap.size + 1]? = some (.cells #[.int .i64 0, .int .i64 0, .int .i64 0, .int .i64 0] 42 (0, 0))) := HG1.out.below HBS.out
 have HX2 : Hid (W.heap[gx]? = some (.cells #[.int .i64 x.no, .int .i64 x.cur, .int .i64 x.price, .int .i64 x.cut] 42 (0, 0))) := HX.out
 by_cases h0 : 0 ≤ i
 ·
  have HV : Hid (b = true) := by show _ = _; rw [HBB.out]; simpa using h0
  go_wp2_with (first
   | (refine wpList_load_row rfl 42 (.tmp 6) rfl gx rfl 42 #[.int .i64 x.no, .int .i64 x.cur, .int .i64 x.price, .int .i64 x.cut] (0, 0) _ HX2.out Try.underlying42 rfl HSZ.out ?_)
   | (refine wpList_store_row rfl 42 (.tmp 4) (.tmp 15) rfl (w.heap.size + 1) #[.int .i64 x.no, .int .i64 x.cur, .int .i64 x.price, .int .i64 x.cut] rfl rfl 42 #[.int .i64 0, .int .i64 0, .int .i64 0, .int .i64 0] HG2.out HSZ.out HSE2.out HON2.out ?_)
   | fail)
  refine bodyPost_ret (results_ht rfl (HT.row HG2.out rfl) rfl rfl Try.underlying42 rfl ass_sz) rfl ⟨?_, HBW.out.trans (setRow_below (by omega) _)⟩
  rw [HV.out]
  rfl
 ·
  have HV : Hid (b = false) := by show _ = _; rw [HBB.out]; simpa using h0
  have h0d : decide (0 ≤ i) = false := by simpa using h0
  go_wp2_with (first
   | (refine wpList_load_row rfl 42 (.tmp 6) rfl gx rfl 42 #[.int .i64 x.no, .int .i64 x.cur, .int .i64 x.price, .int .i64 x.cut] (0, 0) _ HX2.out Try.underlying42 rfl HSZ.out ?_)
   | (refine wpList_store_row rfl 42 (.tmp 4) (.tmp 15) rfl (w.heap.size + 1) #[.int .i64 x.no, .int .i64 x.cur, .int .i64 x.price, .int .i64 x.cut] rfl rfl 42 #[.int .i64 0, .int .i64 0, .int .i64 0, .int .i64 0] HG2.out HSZ.out HSE2.out HON2.out ?_)
   | fail)
  refine bodyPost_ret (results_ht rfl (HT.row HG2.out rfl) rfl rfl Try.underlying42 rfl ass_sz) rfl ⟨?_, HBW.out.trans (setRow_below (by omega) _)⟩
  rw [HV.out]
  rfl
end Cam
