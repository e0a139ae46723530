import Derived.Test.YtilbijekmmkiaaaRlW
import Derived.Test.YtilbijekmmkiaaaRlX
import Derived.Test.YtilbijekmmkiaaaRlQ
/- the page: Tell, Put. -/
namespace Cam
open Go Go.RowKit Go.Proofs
theorem chkR_true0 {R : RollT} (h : chkR R = true) : ChkP rightM MbT.no R.M ∧ ChkP rightI InT.no R.I ∧ ChkP rightA AsT.no R.A := by
 unfold chkR at h
 rw [Bool.and_eq_true, Bool.and_eq_true, chkB_true, chkB_true, chkB_true] at h
 exact ⟨h.1.1, h.1.2, h.2⟩
set_option maxRecDepth 100000 in
set_option maxHeartbeats 6400000 in
theorem rTell_any (w : World) (va vb vc : Value) (R : RollT) (no price : Int) (h : RollIn w va vb vc R) (hf : few R) :
  Calls Try.prog 38 #[.agg #[va, vb, vc], .int .i64 no, .int .i64 price] w (RetPost w (tellR R no price)) := by
 have HR := Lib.hid h
 have HFEW := Lib.hid hf
 clear h hf
 by_cases hc : chkR R = true
 ·
  have HCK := Lib.hid hc
  skip
  have hHRB : HT (w.alloc (.cells #[va, vb, vc] 26)) w.heap.size 26 [va, vb, vc] := by
   have := HT.new (w := w) (t := 26) (C := [va, vb, vc])
   exact this
  have hHRB := hHRB.below (w' := ((w.alloc (.cells #[va, vb, vc] 26)).alloc (.cells #[.slice none 0 0, .slice none 0 0, .slice none 0 0] 26))) ((Below.refl _ _).alloc (Nat.le_refl _) _)
  have HRB := Lib.hid hHRB
  clear hHRB
  have hHZB : HT ((w.alloc (.cells #[va, vb, vc] 26)).alloc (.cells #[.slice none 0 0, .slice none 0 0, .slice none 0 0] 26)) (w.heap.size + 1) 26 [.slice none 0 0, .slice none 0 0, .slice none 0 0] := by
   have := HT.new (w := (w.alloc (.cells #[va, vb, vc] 26))) (t := 26) (C := [.slice none 0 0, .slice none 0 0, .slice none 0 0])
   rwa [show (w.alloc (.cells #[va, vb, vc] 26)).heap.size = (w.heap.size + 1) by simp] at this
  have HZB := Lib.hid hHZB
  clear hHZB
  have hB : Below w.heap.size w ((w.alloc (.cells #[va, vb, vc] 26)).alloc (.cells #[.slice none 0 0, .slice none 0 0, .slice none 0 0] 26)) := (((Below.refl _ _).alloc (by simp <;> omega) _).alloc (by simp <;> omega) _)
  have HB := Lib.hid hB
  clear hB
  have hS : w.heap.size + 2 ≤ ((w.alloc (.cells #[va, vb, vc] 26)).alloc (.cells #[.slice none 0 0, .slice none 0 0, .slice none 0 0] 26)).heap.size := by simp <;> omega
  have HLE := Lib.hid hS
  clear hS
  go_enter Try.func38, Try.ntmps38
  go_upto_region 1 with fail
  generalize hW : ((w.alloc (.cells #[va, vb, vc] 26)).alloc (.cells #[.slice none 0 0, .slice none 0 0, .slice none 0 0] 26)) = W0 at *
  clear hW
  have HSZr : Hid ((Try.prog.info? 26).map (·.size) = some (#[va, vb, vc] : Array Value).size) := by show _ = _; rw [rol_sz]; rfl
  have HRBx : Hid (W0.heap[w.heap.size]? = some (.cells #[va, vb, vc] 26 (0, 0))) := HRB.out
  go_wp2_with (first
   | (refine wpList_load_row rfl 26 (.tmp 3) rfl w.heap.size rfl 26 #[va, vb, vc] (0, 0) _ HRBx.out Try.underlying26 rfl HSZr.out ?_)
   | fail)
  (with_reducible refine (rRoll_any _ va vb vc R (HR.out.mono HB.out)).mono ?_)
  clear HRBx
  rintro e wc ⟨rfl, hb⟩
  have HRBn := Lib.hid (HRB.out.below hb)
  clear HRB
  have HRB := HRBn
  clear HRBn
  have HZBn := Lib.hid (HZB.out.below hb)
  clear HZB
  have HZB := HZBn
  clear HZBn
  have HBn := Lib.hid (bgo HB.out hb HB.out.size)
  clear HB
  have HB := HBn
  clear HBn
  have HLEn := Lib.hid (Nat.le_trans HLE.out (Below.size hb))
  clear HLE
  have HLE := HLEn
  clear HLEn
  clear hb
  rw [HCK.out]
  have HRBx : Hid (wc.heap[w.heap.size]? = some (.cells #[va, vb, vc] 26 (0, 0))) := HRB.out
  have tw := TwinRoll_any wc va vb vc R (HR.out.mono HB.out) HFEW.out
  go_wp2_with (first
   | (refine wpList_load_row rfl 26 (.tmp 3) rfl w.heap.size rfl 26 #[va, vb, vc] (0, 0) _ HRBx.out Try.underlying26 rfl HSZr.out ?_)
   | fail)
  (with_reducible refine tw.mono ?_)
  clear tw HRBx
  rintro e wt ⟨aM, nM, cM, aI, nI, cI, aA, nA, cA, rfl, ho, hap, hb⟩
  have HO := Lib.hid (ho.base (base' := w.heap.size + 2) HLE.out)
  have HAP := Lib.hid hap
  clear ho hap
  have HRBn := Lib.hid (HRB.out.below hb)
  clear HRB
  have HRB := HRBn
  clear HRBn
  have HZBn := Lib.hid (HZB.out.below hb)
  clear HZB
  have HZB := HZBn
  clear HZBn
  have HBn := Lib.hid (bgo HB.out hb HB.out.size)
  clear HB
  have HB := HBn
  clear HBn
  have HLEn := Lib.hid (Nat.le_trans HLE.out (Below.size hb))
  clear HLE
  have HLE := HLEn
  clear HLEn
  clear hb
  have HSZg : Hid ((Try.prog.info? 26).map (·.size) = some (#[.slice aM nM cM, .slice aI nI cI, .slice aA nA cA] : Array Value).size) := by show _ = _; rw [rol_sz]; rfl
  have HONg : Hid ((#[.slice aM nM cM, .slice aI nI cI, .slice aA nA cA] : Array Value).all (·.oneCell') = true) := by show _ = true; simp [Value.oneCell']
  go_upto_region 4 with (first
   | (refine wpList_store_row rfl 26 (.tmp 8) (.tmp 15) rfl wt.heap.size #[.slice aM nM cM, .slice aI nI cI, .slice aA nA cA] rfl rfl 26 #[.slice none 0 0, .slice none 0 0, .slice none 0 0] (heap_alloc_new _ _) HSZg.out rfl HONg.out ?_)
   | fail)
  have hbsg : Below wt.heap.size wt ((wt.alloc (.cells #[.slice none 0 0, .slice none 0 0, .slice none 0 0] 26)).setRow wt.heap.size #[.slice aM nM cM, .slice aI nI cI, .slice aA nA cA]) := ((Below.refl _ _).alloc (Nat.le_refl _) _).trans (setRow_below (Nat.le_refl _) _)
  have hxg : HT ((wt.alloc (.cells #[.slice none 0 0, .slice none 0 0, .slice none 0 0] 26)).setRow wt.heap.size #[.slice aM nM cM, .slice aI nI cI, .slice aA nA cA]) wt.heap.size 26 [.slice aM nM cM, .slice aI nI cI, .slice aA nA cA] := setRow_heap _ _ _ _ _ _ (heap_alloc_new _ _)
  have hbwg := bgo HB.out hbsg (Below.size HB.out)
  obtain ⟨Wg, hWg⟩ : ∃ zz, zz = ((wt.alloc (.cells #[.slice none 0 0, .slice none 0 0, .slice none 0 0] 26)).setRow wt.heap.size #[.slice aM nM cM, .slice aI nI cI, .slice aA nA cA]) := ⟨_, rfl⟩
  rw [← hWg] at hbsg hxg hbwg ⊢
  obtain ⟨gxg, hgg⟩ : ∃ zz, zz = wt.heap.size := ⟨_, rfl⟩
  rw [← hgg] at hxg ⊢
  have HGEg : Hid (∀ m, m ≤ wt.heap.size → m ≤ gxg) := fun m h => by omega
  have HXg := Lib.hid hxg
  have HBWg := Lib.hid hbwg
  have HBSg := Lib.hid hbsg
  clear hWg hxg hbwg hbsg hgg HONg
  have HOFF : Hid (∀ q, ((Value.slice aM nM cM).ownBlock = some q ∨ (Value.slice aI nI cI).ownBlock = some q ∨ (Value.slice aA nA cA).ownBlock = some q) → q < gxg ∧ w.heap.size + 2 ≤ q) := fun q hq => by
   have hs := HGEg.out (q + 1)
   rcases hq with hq | hq | hq
   ·
    have := OwnR.lt HO.out.1 q hq; have := OwnR.ge HO.out.1 q hq; omega
   ·
    have := OwnR.lt HO.out.2.1 q hq; have := OwnR.ge HO.out.2.1 q hq; omega
   ·
    have := OwnR.lt HO.out.2.2 q hq; have := OwnR.ge HO.out.2.2 q hq; omega
  have HGHG : Hid (w.heap.size + 2 ≤ gxg) := HGEg.out _ HLE.out
  clear HBWg HGEg
  have HO2 := Lib.hid (HO.out.below HBSg.out)
  clear HO
  have HO := HO2
  clear HO2
  have HRBn := Lib.hid (HRB.out.below HBSg.out)
  clear HRB
  have HRB := HRBn
  clear HRBn
  have HZBn := Lib.hid (HZB.out.below HBSg.out)
  clear HZB
  have HZB := HZBn
  clear HZBn
  have HBn := Lib.hid (bgo HB.out HBSg.out HB.out.size)
  clear HB
  have HB := HBn
  clear HBn
  have HLEn := Lib.hid (Nat.le_trans HLE.out (Below.size HBSg.out))
  clear HLE
  have HLE := HLEn
  clear HLEn
  clear HBSg
  have HGB := HXg
  clear HXg HSZg HRB
  have HNN : Hid (nI = R.I.length) := by show _ = _; obtain ⟨a9, c9, e9, _⟩ := HO.out.in.2.1.shape; simp only [Value.slice.injEq] at e9; exact e9.2.1
  have hbd : nI ≤ 1000 := by rw [HNN.out]; have h9 := HFEW.out; unfold few at h9; omega
  have hcg := HGB.out.cell (j := 1) rfl
  go_wp2_with fail
  go_loop [9] (fun v => ∃ q : Nat, q ≤ nI ∧ v = .int .i64 (q : Int) ∧ Hid (NotTo InT.no no R.I q)) (fun v => nI - (intOf v).toNat)
  case atStart => exact ⟨0, Nat.zero_le _, rfl, NotTo.zero _ _ _⟩
  case round =>
   obtain ⟨q, hq, rfl, HNT⟩ := hrel
   by_cases hlt : q < nI
   ·
    have hqR : q < R.I.length := by rw [← HNN.out]; exact hlt
    obtain ⟨ba, rfl, hba, hbs⟩ := HO.out.2.1.some_of (by omega)
    obtain ⟨c, hc⟩ : ∃ c, c = R.I[q] := ⟨_, rfl⟩
    obtain ⟨hc0, _⟩ := OwnR.cellAt HO.out.2.1 hqR (j := 0) (v := .int .i64 c.no) (by rw [← hc]; rfl)
    simp only [Nat.add_zero] at hc0
    have hq0 : (0 : Int) ≤ q := by omega
    have hq1 : (q : Int) < nI := by omega
    have HC := Lib.hid hc
    clear hc hba hbs
    by_cases he : c.no = no
    ·
     have heb : (c.no == no) = true := by simpa using he
     have hfd := fd_hit iZ HNT.out hqR (by rw [← HC.out]; exact he)
     rw [← HC.out] at hfd
     by_cases hwi : wB price 1 1073741824 = true
     ·
      have HWI := Lib.hid hwi
      obtain ⟨xn, hxn⟩ : ∃ x : InT, x = { c with set := price } := ⟨_, rfl⟩
      have hput : putL InT.no xn R.I = R.I.set q xn := putL_set hqR (fun i hi hiq => by have hs := (chkR_true0 hc).2.1.srt; unfold Srt at hs; rw [List.pairwise_iff_getElem] at hs; have := hs i q hi hqR hiq; rw [← HC.out] at this; rw [hxn]; exact this) (by rw [← HC.out, hxn])
      have HDF : Hid (tellR R no price = (0, { R with I := R.I.set q xn })) := by show _ = _; unfold tellR; rw [if_neg (by rw [hc]; decide), if_neg (by rw [hfd.2.2]; decide), if_neg (by rw [hwi]; decide), hfd.2.1, ← hput, hxn]
      have hpt := OwnR.put1 HO.out.2.1 hqR (j := 4) (by decide) (.int .i64 price) xn (by rw [← HC.out, hxn]; rfl)
      obtain ⟨hc4, hf4⟩ := OwnR.cellAt HO.out.2.1 hqR (j := 4) (v := .int .i64 c.set) (by rw [← HC.out]; rfl)
      have HPT := Lib.hid hpt
      have HXN := Lib.hid hxn
      clear hpt hput hfd hxn hwi he
      go_wp2_with fail
      (with_reducible refine (rwithin_any _ price 1 1073741824).mono ?_)
      rintro e w9 ⟨rfl, rfl⟩
      rw [HWI.out]
      go_upto_region 11 with fail
      clear hc0 hc4 hf4 hcg
      have hk : Kept (fun k => k = ba) Wg (Wg.setCell ⟨ba, q * 12 + 4, none⟩ (.int .i64 price)) := (Kept.refl _ _).setCell ⟨ba, q * 12 + 4, none⟩ _ rfl
      have hoff := HOFF.out ba (.inr (.inl rfl))
      have hGB := Lib.hid (HGB.out.keptS hk (fun (e : gxg = ba) => by omega))
      have hZB := Lib.hid (HZB.out.keptS hk (fun (e : (w.heap.size + 1) = ba) => by omega))
      have hB : Hid (Below w.heap.size w (Wg.setCell ⟨ba, q * 12 + 4, none⟩ (.int .i64 price))) := HB.out.trans (Kept.below hk (fun k h (e : k = ba) => by omega) HB.out.size)
      have hOn := Lib.hid HPT.out
      have hOM := Lib.hid (OwnR.keptS HO.out.1 hk (fun g h (e : g = ba) => HAP.out.1 g h (by rw [e]; rfl)))
      have hOA := Lib.hid (OwnR.keptS HO.out.2.2 hk (fun g h (e : g = ba) => HAP.out.2.2 ba rfl (by rw [← e]; exact h)))
      clear HGB HZB HB HO HPT hk hoff HOFF
      generalize hW : (Wg.setCell ⟨ba, q * 12 + 4, none⟩ (.int .i64 price)) = Wv at *
      clear hW
      have HSZf : Hid ((Try.prog.info? 26).map (·.size) = some (#[.slice aM nM cM, .slice (some ⟨ba, 0, none⟩) nI cI, .slice aA nA cA] : Array Value).size) := by show _ = _; rw [rol_sz]; rfl
      have HONf : Hid ((#[.slice aM nM cM, .slice (some ⟨ba, 0, none⟩) nI cI, .slice aA nA cA] : Array Value).all (·.oneCell') = true) := by show _ = true; simp [Value.oneCell']
      have HGx : Hid (Wv.heap[gxg]? = some (.cells #[.slice aM nM cM, .slice (some ⟨ba, 0, none⟩) nI cI, .slice aA nA cA] 26 (0, 0))) := hGB.out
      have HZx : Hid (Wv.heap[(w.heap.size + 1)]? = some (.cells #[.slice none 0 0, .slice none 0 0, .slice none 0 0] 26 (0, 0))) := hZB.out
      go_wp2_with (first
       | (refine wpList_load_row rfl 26 (.tmp 8) rfl gxg rfl 26 #[.slice aM nM cM, .slice (some ⟨ba, 0, none⟩) nI cI, .slice aA nA cA] (0, 0) _ HGx.out Try.underlying26 rfl HSZf.out ?_)
       | (refine wpList_store_row rfl 26 (.tmp 6) (.tmp 41) rfl (w.heap.size + 1) #[.slice aM nM cM, .slice (some ⟨ba, 0, none⟩) nI cI, .slice aA nA cA] rfl rfl 26 #[.slice none 0 0, .slice none 0 0, .slice none 0 0] HZx.out HSZf.out rfl HONf.out ?_)
       | fail)
      have hk := setRow_kept Wv (w.heap.size + 1) #[.slice aM nM cM, .slice (some ⟨ba, 0, none⟩) nI cI, .slice aA nA cA]
      refine bodyPost_ret (results_ht rfl (HT.row HZx.out rfl) rfl rfl Try.underlying26 rfl rol_sz) rfl ?_
      rw [HDF.out]
      exact ⟨_, _, _, _, _, _, _, _, _, rfl, ⟨(OwnR.keptS hOM.out hk (fun j h1 (e : j = (w.heap.size + 1)) => by have := OwnR.ge hOM.out j h1; omega)).base (by omega), (OwnR.keptS hOn.out hk (fun j h1 (e : j = (w.heap.size + 1)) => by have := OwnR.ge hOn.out j h1; omega)).base (by omega), (OwnR.keptS hOA.out hk (fun j h1 (e : j = (w.heap.size + 1)) => by have := OwnR.ge hOA.out j h1; omega)).base (by omega)⟩, hB.out.trans (setRow_below (by omega) _)⟩
     ·
      have hw2 : wB price 1 1073741824 = false := by simpa using hwi
      have HWI := Lib.hid hw2
      have HDF : Hid (tellR R no price = (3, RollT.nil)) := by show _ = _; unfold tellR; rw [if_neg (by rw [hc]; decide), if_neg (by rw [hfd.2.2]; decide), if_pos hw2]
      clear hfd hwi hw2 he
      go_wp2_with fail
      (with_reducible refine (rwithin_any _ price 1 1073741824).mono ?_)
      rintro e w9 ⟨rfl, rfl⟩
      rw [HWI.out]
      have HSZz : Hid ((Try.prog.info? 26).map (·.size) = some (#[.slice none 0 0, .slice none 0 0, .slice none 0 0] : Array Value).size) := by show _ = _; rw [rol_sz]; rfl
      have HONz : Hid ((#[.slice none 0 0, .slice none 0 0, .slice none 0 0] : Array Value).all (·.oneCell') = true) := by show _ = true; simp [Value.oneCell']
      have HZBx : Hid (Wg.heap[(w.heap.size + 1)]? = some (.cells #[.slice none 0 0, .slice none 0 0, .slice none 0 0] 26 (0, 0))) := HZB.out
      go_wp2_with (first
       | (refine wpList_store_row rfl 26 (.tmp 6) (.tmp 34) rfl (w.heap.size + 1) #[.slice none 0 0, .slice none 0 0, .slice none 0 0] rfl rfl 26 #[.slice none 0 0, .slice none 0 0, .slice none 0 0] HZBx.out HSZz.out rfl HONz.out ?_)
       | fail)
      refine bodyPost_ret (results_ht rfl (HT.row HZBx.out rfl) rfl rfl Try.underlying26 rfl rol_sz) rfl ?_
      rw [HDF.out]
      exact ⟨_, _, _, _, _, _, _, _, _, rfl, OwnRoll.none _ _, HB.out.trans (setRow_below (by omega) _)⟩
    ·
     have HNX := Lib.hid (HNT.out.next hqR (by rw [← HC.out]; exact he))
     have heb : (c.no == no) = false := by simpa using he
     clear he
     go_wp2_with fail
     go_round
     case rel => exact ⟨q + 1, by omega, by go_num, HNX⟩
     case measure => simp [intOf]; omega
   ·
    have hfm := fd_miss iZ HNT.out (by have := HNN.out; omega)
    have HDF : Hid (tellR R no price = (10, RollT.nil)) := by show _ = _; unfold tellR; rw [if_neg (by rw [hc]; decide), if_pos hfm.2.2]
    clear hfm
    have HSZz : Hid ((Try.prog.info? 26).map (·.size) = some (#[.slice none 0 0, .slice none 0 0, .slice none 0 0] : Array Value).size) := by show _ = _; rw [rol_sz]; rfl
    have HONz : Hid ((#[.slice none 0 0, .slice none 0 0, .slice none 0 0] : Array Value).all (·.oneCell') = true) := by show _ = true; simp [Value.oneCell']
    have HZBx : Hid (Wg.heap[(w.heap.size + 1)]? = some (.cells #[.slice none 0 0, .slice none 0 0, .slice none 0 0] 26 (0, 0))) := HZB.out
    go_wp2_with (first
     | (refine wpList_store_row rfl 26 (.tmp 6) (.tmp 42) rfl (w.heap.size + 1) #[.slice none 0 0, .slice none 0 0, .slice none 0 0] rfl rfl 26 #[.slice none 0 0, .slice none 0 0, .slice none 0 0] HZBx.out HSZz.out rfl HONz.out ?_)
     | fail)
    refine bodyPost_ret (results_ht rfl (HT.row HZBx.out rfl) rfl rfl Try.underlying26 rfl rol_sz) rfl ?_
    rw [HDF.out]
    exact ⟨_, _, _, _, _, _, _, _, _, rfl, OwnRoll.none _ _, HB.out.trans (setRow_below (by omega) _)⟩
 ·
  have hc2 : chkR R = false := by simpa using hc
  have HCK := Lib.hid hc2
  have HDF : Hid (tellR R no price = (14, RollT.nil)) := by show _ = _; unfold tellR; simp [hc2]
  clear hc hc2
  have hHRB : HT (w.alloc (.cells #[va, vb, vc] 26)) w.heap.size 26 [va, vb, vc] := by
   have := HT.new (w := w) (t := 26) (C := [va, vb, vc])
   exact this
  have hHRB := hHRB.below (w' := ((w.alloc (.cells #[va, vb, vc] 26)).alloc (.cells #[.slice none 0 0, .slice none 0 0, .slice none 0 0] 26))) ((Below.refl _ _).alloc (Nat.le_refl _) _)
  have HRB := Lib.hid hHRB
  clear hHRB
  have hHZB : HT ((w.alloc (.cells #[va, vb, vc] 26)).alloc (.cells #[.slice none 0 0, .slice none 0 0, .slice none 0 0] 26)) (w.heap.size + 1) 26 [.slice none 0 0, .slice none 0 0, .slice none 0 0] := by
   have := HT.new (w := (w.alloc (.cells #[va, vb, vc] 26))) (t := 26) (C := [.slice none 0 0, .slice none 0 0, .slice none 0 0])
   rwa [show (w.alloc (.cells #[va, vb, vc] 26)).heap.size = (w.heap.size + 1) by simp] at this
  have HZB := Lib.hid hHZB
  clear hHZB
  have hB : Below w.heap.size w ((w.alloc (.cells #[va, vb, vc] 26)).alloc (.cells #[.slice none 0 0, .slice none 0 0, .slice none 0 0] 26)) := (((Below.refl _ _).alloc (by simp <;> omega) _).alloc (by simp <;> omega) _)
  have HB := Lib.hid hB
  clear hB
  have hS : w.heap.size + 2 ≤ ((w.alloc (.cells #[va, vb, vc] 26)).alloc (.cells #[.slice none 0 0, .slice none 0 0, .slice none 0 0] 26)).heap.size := by simp <;> omega
  have HLE := Lib.hid hS
  clear hS
  go_enter Try.func38, Try.ntmps38
  go_upto_region 1 with fail
  generalize hW : ((w.alloc (.cells #[va, vb, vc] 26)).alloc (.cells #[.slice none 0 0, .slice none 0 0, .slice none 0 0] 26)) = W0 at *
  clear hW
  have HSZr : Hid ((Try.prog.info? 26).map (·.size) = some (#[va, vb, vc] : Array Value).size) := by show _ = _; rw [rol_sz]; rfl
  have HRBx : Hid (W0.heap[w.heap.size]? = some (.cells #[va, vb, vc] 26 (0, 0))) := HRB.out
  go_wp2_with (first
   | (refine wpList_load_row rfl 26 (.tmp 3) rfl w.heap.size rfl 26 #[va, vb, vc] (0, 0) _ HRBx.out Try.underlying26 rfl HSZr.out ?_)
   | fail)
  (with_reducible refine (rRoll_any _ va vb vc R (HR.out.mono HB.out)).mono ?_)
  clear HRBx
  rintro e wc ⟨rfl, hb⟩
  have HRBn := Lib.hid (HRB.out.below hb)
  clear HRB
  have HRB := HRBn
  clear HRBn
  have HZBn := Lib.hid (HZB.out.below hb)
  clear HZB
  have HZB := HZBn
  clear HZBn
  have HBn := Lib.hid (bgo HB.out hb HB.out.size)
  clear HB
  have HB := HBn
  clear HBn
  have HLEn := Lib.hid (Nat.le_trans HLE.out (Below.size hb))
  clear HLE
  have HLE := HLEn
  clear HLEn
  clear hb
  rw [HCK.out]
  have HSZz : Hid ((Try.prog.info? 26).map (·.size) = some (#[.slice none 0 0, .slice none 0 0, .slice none 0 0] : Array Value).size) := by show _ = _; rw [rol_sz]; rfl
  have HONz : Hid ((#[.slice none 0 0, .slice none 0 0, .slice none 0 0] : Array Value).all (·.oneCell') = true) := by show _ = true; simp [Value.oneCell']
  have HZBx : Hid (wc.heap[(w.heap.size + 1)]? = some (.cells #[.slice none 0 0, .slice none 0 0, .slice none 0 0] 26 (0, 0))) := HZB.out
  go_wp2_with (first
   | (refine wpList_store_row rfl 26 (.tmp 6) (.tmp 13) rfl (w.heap.size + 1) #[.slice none 0 0, .slice none 0 0, .slice none 0 0] rfl rfl 26 #[.slice none 0 0, .slice none 0 0, .slice none 0 0] HZBx.out HSZz.out rfl HONz.out ?_)
   | fail)
  refine bodyPost_ret (results_ht rfl (HT.row HZBx.out rfl) rfl rfl Try.underlying26 rfl rol_sz) rfl ?_
  rw [HDF.out]
  exact ⟨_, _, _, _, _, _, _, _, _, rfl, OwnRoll.none _ _, HB.out.trans (setRow_below (by omega) _)⟩
set_option maxRecDepth 100000 in
set_option maxHeartbeats 6400000 in
theorem rPut_any (w : World) (va vb vc : Value) (R : RollT) (who st : Int) (h : RollIn w va vb vc R) (hf : few R) :
  Calls Try.prog 40 #[.agg #[va, vb, vc], .int .i64 who, .int .i64 st] w (RetPost w (stateR R who st)) := by
 have HR := Lib.hid h
 have HFEW := Lib.hid hf
 clear h hf
 by_cases hc : chkR R = true
 ·
  have HCK := Lib.hid hc
  skip
  have hHRB : HT (w.alloc (.cells #[va, vb, vc] 26)) w.heap.size 26 [va, vb, vc] := by
   have := HT.new (w := w) (t := 26) (C := [va, vb, vc])
   exact this
  have hHRB := hHRB.below (w' := ((w.alloc (.cells #[va, vb, vc] 26)).alloc (.cells #[.slice none 0 0, .slice none 0 0, .slice none 0 0] 26))) ((Below.refl _ _).alloc (Nat.le_refl _) _)
  have HRB := Lib.hid hHRB
  clear hHRB
  have hHZB : HT ((w.alloc (.cells #[va, vb, vc] 26)).alloc (.cells #[.slice none 0 0, .slice none 0 0, .slice none 0 0] 26)) (w.heap.size + 1) 26 [.slice none 0 0, .slice none 0 0, .slice none 0 0] := by
   have := HT.new (w := (w.alloc (.cells #[va, vb, vc] 26))) (t := 26) (C := [.slice none 0 0, .slice none 0 0, .slice none 0 0])
   rwa [show (w.alloc (.cells #[va, vb, vc] 26)).heap.size = (w.heap.size + 1) by simp] at this
  have HZB := Lib.hid hHZB
  clear hHZB
  have hB : Below w.heap.size w ((w.alloc (.cells #[va, vb, vc] 26)).alloc (.cells #[.slice none 0 0, .slice none 0 0, .slice none 0 0] 26)) := (((Below.refl _ _).alloc (by simp <;> omega) _).alloc (by simp <;> omega) _)
  have HB := Lib.hid hB
  clear hB
  have hS : w.heap.size + 2 ≤ ((w.alloc (.cells #[va, vb, vc] 26)).alloc (.cells #[.slice none 0 0, .slice none 0 0, .slice none 0 0] 26)).heap.size := by simp <;> omega
  have HLE := Lib.hid hS
  clear hS
  go_enter Try.func40, Try.ntmps40
  go_upto_region 1 with fail
  generalize hW : ((w.alloc (.cells #[va, vb, vc] 26)).alloc (.cells #[.slice none 0 0, .slice none 0 0, .slice none 0 0] 26)) = W0 at *
  clear hW
  have HSZr : Hid ((Try.prog.info? 26).map (·.size) = some (#[va, vb, vc] : Array Value).size) := by show _ = _; rw [rol_sz]; rfl
  have HRBx : Hid (W0.heap[w.heap.size]? = some (.cells #[va, vb, vc] 26 (0, 0))) := HRB.out
  go_wp2_with (first
   | (refine wpList_load_row rfl 26 (.tmp 3) rfl w.heap.size rfl 26 #[va, vb, vc] (0, 0) _ HRBx.out Try.underlying26 rfl HSZr.out ?_)
   | fail)
  (with_reducible refine (rRoll_any _ va vb vc R (HR.out.mono HB.out)).mono ?_)
  clear HRBx
  rintro e wc ⟨rfl, hb⟩
  have HRBn := Lib.hid (HRB.out.below hb)
  clear HRB
  have HRB := HRBn
  clear HRBn
  have HZBn := Lib.hid (HZB.out.below hb)
  clear HZB
  have HZB := HZBn
  clear HZBn
  have HBn := Lib.hid (bgo HB.out hb HB.out.size)
  clear HB
  have HB := HBn
  clear HBn
  have HLEn := Lib.hid (Nat.le_trans HLE.out (Below.size hb))
  clear HLE
  have HLE := HLEn
  clear HLEn
  clear hb
  rw [HCK.out]
  have HRBx : Hid (wc.heap[w.heap.size]? = some (.cells #[va, vb, vc] 26 (0, 0))) := HRB.out
  have tw := TwinRoll_any wc va vb vc R (HR.out.mono HB.out) HFEW.out
  go_wp2_with (first
   | (refine wpList_load_row rfl 26 (.tmp 3) rfl w.heap.size rfl 26 #[va, vb, vc] (0, 0) _ HRBx.out Try.underlying26 rfl HSZr.out ?_)
   | fail)
  (with_reducible refine tw.mono ?_)
  clear tw HRBx
  rintro e wt ⟨aM, nM, cM, aI, nI, cI, aA, nA, cA, rfl, ho, hap, hb⟩
  have HO := Lib.hid (ho.base (base' := w.heap.size + 2) HLE.out)
  have HAP := Lib.hid hap
  clear ho hap
  have HRBn := Lib.hid (HRB.out.below hb)
  clear HRB
  have HRB := HRBn
  clear HRBn
  have HZBn := Lib.hid (HZB.out.below hb)
  clear HZB
  have HZB := HZBn
  clear HZBn
  have HBn := Lib.hid (bgo HB.out hb HB.out.size)
  clear HB
  have HB := HBn
  clear HBn
  have HLEn := Lib.hid (Nat.le_trans HLE.out (Below.size hb))
  clear HLE
  have HLE := HLEn
  clear HLEn
  clear hb
  have HSZg : Hid ((Try.prog.info? 26).map (·.size) = some (#[.slice aM nM cM, .slice aI nI cI, .slice aA nA cA] : Array Value).size) := by show _ = _; rw [rol_sz]; rfl
  have HONg : Hid ((#[.slice aM nM cM, .slice aI nI cI, .slice aA nA cA] : Array Value).all (·.oneCell') = true) := by show _ = true; simp [Value.oneCell']
  go_upto_region 4 with (first
   | (refine wpList_store_row rfl 26 (.tmp 8) (.tmp 15) rfl wt.heap.size #[.slice aM nM cM, .slice aI nI cI, .slice aA nA cA] rfl rfl 26 #[.slice none 0 0, .slice none 0 0, .slice none 0 0] (heap_alloc_new _ _) HSZg.out rfl HONg.out ?_)
   | fail)
  have hbsg : Below wt.heap.size wt ((wt.alloc (.cells #[.slice none 0 0, .slice none 0 0, .slice none 0 0] 26)).setRow wt.heap.size #[.slice aM nM cM, .slice aI nI cI, .slice aA nA cA]) := ((Below.refl _ _).alloc (Nat.le_refl _) _).trans (setRow_below (Nat.le_refl _) _)
  have hxg : HT ((wt.alloc (.cells #[.slice none 0 0, .slice none 0 0, .slice none 0 0] 26)).setRow wt.heap.size #[.slice aM nM cM, .slice aI nI cI, .slice aA nA cA]) wt.heap.size 26 [.slice aM nM cM, .slice aI nI cI, .slice aA nA cA] := setRow_heap _ _ _ _ _ _ (heap_alloc_new _ _)
  have hbwg := bgo HB.out hbsg (Below.size HB.out)
  obtain ⟨Wg, hWg⟩ : ∃ zz, zz = ((wt.alloc (.cells #[.slice none 0 0, .slice none 0 0, .slice none 0 0] 26)).setRow wt.heap.size #[.slice aM nM cM, .slice aI nI cI, .slice aA nA cA]) := ⟨_, rfl⟩
  rw [← hWg] at hbsg hxg hbwg ⊢
  obtain ⟨gxg, hgg⟩ : ∃ zz, zz = wt.heap.size := ⟨_, rfl⟩
  rw [← hgg] at hxg ⊢
  have HGEg : Hid (∀ m, m ≤ wt.heap.size → m ≤ gxg) := fun m h => by omega
  have HXg := Lib.hid hxg
  have HBWg := Lib.hid hbwg
  have HBSg := Lib.hid hbsg
  clear hWg hxg hbwg hbsg hgg HONg
  have HOFF : Hid (∀ q, ((Value.slice aM nM cM).ownBlock = some q ∨ (Value.slice aI nI cI).ownBlock = some q ∨ (Value.slice aA nA cA).ownBlock = some q) → q < gxg ∧ w.heap.size + 2 ≤ q) := fun q hq => by
   have hs := HGEg.out (q + 1)
   rcases hq with hq | hq | hq
   ·
    have := OwnR.lt HO.out.1 q hq; have := OwnR.ge HO.out.1 q hq; omega
   ·
    have := OwnR.lt HO.out.2.1 q hq; have := OwnR.ge HO.out.2.1 q hq; omega
   ·
    have := OwnR.lt HO.out.2.2 q hq; have := OwnR.ge HO.out.2.2 q hq; omega
  have HGHG : Hid (w.heap.size + 2 ≤ gxg) := HGEg.out _ HLE.out
  clear HBWg HGEg
  have HO2 := Lib.hid (HO.out.below HBSg.out)
  clear HO
  have HO := HO2
  clear HO2
  have HRBn := Lib.hid (HRB.out.below HBSg.out)
  clear HRB
  have HRB := HRBn
  clear HRBn
  have HZBn := Lib.hid (HZB.out.below HBSg.out)
  clear HZB
  have HZB := HZBn
  clear HZBn
  have HBn := Lib.hid (bgo HB.out HBSg.out HB.out.size)
  clear HB
  have HB := HBn
  clear HBn
  have HLEn := Lib.hid (Nat.le_trans HLE.out (Below.size HBSg.out))
  clear HLE
  have HLE := HLEn
  clear HLEn
  clear HBSg
  have HGB := HXg
  clear HXg HSZg HRB
  have HNN : Hid (nM = R.M.length) := by show _ = _; obtain ⟨a9, c9, e9, _⟩ := HO.out.in.1.shape; simp only [Value.slice.injEq] at e9; exact e9.2.1
  have hbd : nM ≤ 1000 := by rw [HNN.out]; have h9 := HFEW.out; unfold few at h9; omega
  have hcg := HGB.out.cell (j := 0) rfl
  go_wp2_with fail
  go_loop [9] (fun v => ∃ q : Nat, q ≤ nM ∧ v = .int .i64 (q : Int) ∧ Hid (NotTo MbT.no who R.M q)) (fun v => nM - (intOf v).toNat)
  case atStart => exact ⟨0, Nat.zero_le _, rfl, NotTo.zero _ _ _⟩
  case round =>
   obtain ⟨q, hq, rfl, HNT⟩ := hrel
   by_cases hlt : q < nM
   ·
    have hqR : q < R.M.length := by rw [← HNN.out]; exact hlt
    obtain ⟨ba, rfl, hba, hbs⟩ := HO.out.1.some_of (by omega)
    obtain ⟨c, hc⟩ : ∃ c, c = R.M[q] := ⟨_, rfl⟩
    obtain ⟨hc0, _⟩ := OwnR.cellAt HO.out.1 hqR (j := 0) (v := .int .i64 c.no) (by rw [← hc]; rfl)
    simp only [Nat.add_zero] at hc0
    have hq0 : (0 : Int) ≤ q := by omega
    have hq1 : (q : Int) < nM := by omega
    have HC := Lib.hid hc
    clear hc hba hbs
    by_cases he : c.no = who
    ·
     have heb : (c.no == who) = true := by simpa using he
     have hfd := fd_hit mZ HNT.out hqR (by rw [← HC.out]; exact he)
     rw [← HC.out] at hfd
     by_cases hwi : wB st 1 3 = true
     ·
      have HWI := Lib.hid hwi
      obtain ⟨xn, hxn⟩ : ∃ x : MbT, x = { c with state := st } := ⟨_, rfl⟩
      have hput : putL MbT.no xn R.M = R.M.set q xn := putL_set hqR (fun i hi hiq => by have hs := (chkR_true0 hc).1.srt; unfold Srt at hs; rw [List.pairwise_iff_getElem] at hs; have := hs i q hi hqR hiq; rw [← HC.out] at this; rw [hxn]; exact this) (by rw [← HC.out, hxn])
      have HDF : Hid (stateR R who st = (0, { R with M := R.M.set q xn })) := by show _ = _; unfold stateR; rw [if_neg (by rw [hc]; decide), if_neg (by rw [hfd.2.2]; decide), if_neg (by rw [hwi]; decide), hfd.2.1, ← hput, hxn]
      have hpt := OwnR.put1 HO.out.1 hqR (j := 1) (by decide) (.int .i64 st) xn (by rw [← HC.out, hxn]; rfl)
      obtain ⟨hc4, hf4⟩ := OwnR.cellAt HO.out.1 hqR (j := 1) (v := .int .i64 c.state) (by rw [← HC.out]; rfl)
      have HPT := Lib.hid hpt
      have HXN := Lib.hid hxn
      clear hpt hput hfd hxn hwi he
      go_wp2_with fail
      (with_reducible refine (rwithin_any _ st 1 3).mono ?_)
      rintro e w9 ⟨rfl, rfl⟩
      rw [HWI.out]
      go_upto_region 11 with fail
      clear hc0 hc4 hf4 hcg
      have hk : Kept (fun k => k = ba) Wg (Wg.setCell ⟨ba, q * 3 + 1, none⟩ (.int .i64 st)) := (Kept.refl _ _).setCell ⟨ba, q * 3 + 1, none⟩ _ rfl
      have hoff := HOFF.out ba (.inl rfl)
      have hGB := Lib.hid (HGB.out.keptS hk (fun (e : gxg = ba) => by omega))
      have hZB := Lib.hid (HZB.out.keptS hk (fun (e : (w.heap.size + 1) = ba) => by omega))
      have hB : Hid (Below w.heap.size w (Wg.setCell ⟨ba, q * 3 + 1, none⟩ (.int .i64 st))) := HB.out.trans (Kept.below hk (fun k h (e : k = ba) => by omega) HB.out.size)
      have hOn := Lib.hid HPT.out
      have hOI := Lib.hid (OwnR.keptS HO.out.2.1 hk (fun g h (e : g = ba) => HAP.out.1 ba rfl (by rw [← e]; exact h)))
      have hOA := Lib.hid (OwnR.keptS HO.out.2.2 hk (fun g h (e : g = ba) => HAP.out.2.1 ba rfl (by rw [← e]; exact h)))
      clear HGB HZB HB HO HPT hk hoff HOFF
      generalize hW : (Wg.setCell ⟨ba, q * 3 + 1, none⟩ (.int .i64 st)) = Wv at *
      clear hW
      have HSZf : Hid ((Try.prog.info? 26).map (·.size) = some (#[.slice (some ⟨ba, 0, none⟩) nM cM, .slice aI nI cI, .slice aA nA cA] : Array Value).size) := by show _ = _; rw [rol_sz]; rfl
      have HONf : Hid ((#[.slice (some ⟨ba, 0, none⟩) nM cM, .slice aI nI cI, .slice aA nA cA] : Array Value).all (·.oneCell') = true) := by show _ = true; simp [Value.oneCell']
      have HGx : Hid (Wv.heap[gxg]? = some (.cells #[.slice (some ⟨ba, 0, none⟩) nM cM, .slice aI nI cI, .slice aA nA cA] 26 (0, 0))) := hGB.out
      have HZx : Hid (Wv.heap[(w.heap.size + 1)]? = some (.cells #[.slice none 0 0, .slice none 0 0, .slice none 0 0] 26 (0, 0))) := hZB.out
      go_wp2_with (first
       | (refine wpList_load_row rfl 26 (.tmp 8) rfl gxg rfl 26 #[.slice (some ⟨ba, 0, none⟩) nM cM, .slice aI nI cI, .slice aA nA cA] (0, 0) _ HGx.out Try.underlying26 rfl HSZf.out ?_)
       | (refine wpList_store_row rfl 26 (.tmp 6) (.tmp 41) rfl (w.heap.size + 1) #[.slice (some ⟨ba, 0, none⟩) nM cM, .slice aI nI cI, .slice aA nA cA] rfl rfl 26 #[.slice none 0 0, .slice none 0 0, .slice none 0 0] HZx.out HSZf.out rfl HONf.out ?_)
       | fail)
      have hk := setRow_kept Wv (w.heap.size + 1) #[.slice (some ⟨ba, 0, none⟩) nM cM, .slice aI nI cI, .slice aA nA cA]
      refine bodyPost_ret (results_ht rfl (HT.row HZx.out rfl) rfl rfl Try.underlying26 rfl rol_sz) rfl ?_
      rw [HDF.out]
      exact ⟨_, _, _, _, _, _, _, _, _, rfl, ⟨(OwnR.keptS hOn.out hk (fun j h1 (e : j = (w.heap.size + 1)) => by have := OwnR.ge hOn.out j h1; omega)).base (by omega), (OwnR.keptS hOI.out hk (fun j h1 (e : j = (w.heap.size + 1)) => by have := OwnR.ge hOI.out j h1; omega)).base (by omega), (OwnR.keptS hOA.out hk (fun j h1 (e : j = (w.heap.size + 1)) => by have := OwnR.ge hOA.out j h1; omega)).base (by omega)⟩, hB.out.trans (setRow_below (by omega) _)⟩
     ·
      have hw2 : wB st 1 3 = false := by simpa using hwi
      have HWI := Lib.hid hw2
      have HDF : Hid (stateR R who st = (3, RollT.nil)) := by show _ = _; unfold stateR; rw [if_neg (by rw [hc]; decide), if_neg (by rw [hfd.2.2]; decide), if_pos hw2]
      clear hfd hwi hw2 he
      go_wp2_with fail
      (with_reducible refine (rwithin_any _ st 1 3).mono ?_)
      rintro e w9 ⟨rfl, rfl⟩
      rw [HWI.out]
      have HSZz : Hid ((Try.prog.info? 26).map (·.size) = some (#[.slice none 0 0, .slice none 0 0, .slice none 0 0] : Array Value).size) := by show _ = _; rw [rol_sz]; rfl
      have HONz : Hid ((#[.slice none 0 0, .slice none 0 0, .slice none 0 0] : Array Value).all (·.oneCell') = true) := by show _ = true; simp [Value.oneCell']
      have HZBx : Hid (Wg.heap[(w.heap.size + 1)]? = some (.cells #[.slice none 0 0, .slice none 0 0, .slice none 0 0] 26 (0, 0))) := HZB.out
      go_wp2_with (first
       | (refine wpList_store_row rfl 26 (.tmp 6) (.tmp 34) rfl (w.heap.size + 1) #[.slice none 0 0, .slice none 0 0, .slice none 0 0] rfl rfl 26 #[.slice none 0 0, .slice none 0 0, .slice none 0 0] HZBx.out HSZz.out rfl HONz.out ?_)
       | fail)
      refine bodyPost_ret (results_ht rfl (HT.row HZBx.out rfl) rfl rfl Try.underlying26 rfl rol_sz) rfl ?_
      rw [HDF.out]
      exact ⟨_, _, _, _, _, _, _, _, _, rfl, OwnRoll.none _ _, HB.out.trans (setRow_below (by omega) _)⟩
    ·
     have HNX := Lib.hid (HNT.out.next hqR (by rw [← HC.out]; exact he))
     have heb : (c.no == who) = false := by simpa using he
     clear he
     go_wp2_with fail
     go_round
     case rel => exact ⟨q + 1, by omega, by go_num, HNX⟩
     case measure => simp [intOf]; omega
   ·
    have hfm := fd_miss mZ HNT.out (by have := HNN.out; omega)
    have HDF : Hid (stateR R who st = (10, RollT.nil)) := by show _ = _; unfold stateR; rw [if_neg (by rw [hc]; decide), if_pos hfm.2.2]
    clear hfm
    have HSZz : Hid ((Try.prog.info? 26).map (·.size) = some (#[.slice none 0 0, .slice none 0 0, .slice none 0 0] : Array Value).size) := by show _ = _; rw [rol_sz]; rfl
    have HONz : Hid ((#[.slice none 0 0, .slice none 0 0, .slice none 0 0] : Array Value).all (·.oneCell') = true) := by show _ = true; simp [Value.oneCell']
    have HZBx : Hid (Wg.heap[(w.heap.size + 1)]? = some (.cells #[.slice none 0 0, .slice none 0 0, .slice none 0 0] 26 (0, 0))) := HZB.out
    go_wp2_with (first
     | (refine wpList_store_row rfl 26 (.tmp 6) (.tmp 42) rfl (w.heap.size + 1) #[.slice none 0 0, .slice none 0 0, .slice none 0 0] rfl rfl 26 #[.slice none 0 0, .slice none 0 0, .slice none 0 0] HZBx.out HSZz.out rfl HONz.out ?_)
     | fail)
    refine bodyPost_ret (results_ht rfl (HT.row HZBx.out rfl) rfl rfl Try.underlying26 rfl rol_sz) rfl ?_
    rw [HDF.out]
    exact ⟨_, _, _, _, _, _, _, _, _, rfl, OwnRoll.none _ _, HB.out.trans (setRow_below (by omega) _)⟩
 ·
  have hc2 : chkR R = false := by simpa using hc
  have HCK := Lib.hid hc2
  have HDF : Hid (stateR R who st = (14, RollT.nil)) := by show _ = _; unfold stateR; simp [hc2]
  clear hc hc2
  have hHRB : HT (w.alloc (.cells #[va, vb, vc] 26)) w.heap.size 26 [va, vb, vc] := by
   have := HT.new (w := w) (t := 26) (C := [va, vb, vc])
   exact this
  have hHRB := hHRB.below (w' := ((w.alloc (.cells #[va, vb, vc] 26)).alloc (.cells #[.slice none 0 0, .slice none 0 0, .slice none 0 0] 26))) ((Below.refl _ _).alloc (Nat.le_refl _) _)
  have HRB := Lib.hid hHRB
  clear hHRB
  have hHZB : HT ((w.alloc (.cells #[va, vb, vc] 26)).alloc (.cells #[.slice none 0 0, .slice none 0 0, .slice none 0 0] 26)) (w.heap.size + 1) 26 [.slice none 0 0, .slice none 0 0, .slice none 0 0] := by
   have := HT.new (w := (w.alloc (.cells #[va, vb, vc] 26))) (t := 26) (C := [.slice none 0 0, .slice none 0 0, .slice none 0 0])
   rwa [show (w.alloc (.cells #[va, vb, vc] 26)).heap.size = (w.heap.size + 1) by simp] at this
  have HZB := Lib.hid hHZB
  clear hHZB
  have hB : Below w.heap.size w ((w.alloc (.cells #[va, vb, vc] 26)).alloc (.cells #[.slice none 0 0, .slice none 0 0, .slice none 0 0] 26)) := (((Below.refl _ _).alloc (by simp <;> omega) _).alloc (by simp <;> omega) _)
  have HB := Lib.hid hB
  clear hB
  have hS : w.heap.size + 2 ≤ ((w.alloc (.cells #[va, vb, vc] 26)).alloc (.cells #[.slice none 0 0, .slice none 0 0, .slice none 0 0] 26)).heap.size := by simp <;> omega
  have HLE := Lib.hid hS
  clear hS
  go_enter Try.func40, Try.ntmps40
  go_upto_region 1 with fail
  generalize hW : ((w.alloc (.cells #[va, vb, vc] 26)).alloc (.cells #[.slice none 0 0, .slice none 0 0, .slice none 0 0] 26)) = W0 at *
  clear hW
  have HSZr : Hid ((Try.prog.info? 26).map (·.size) = some (#[va, vb, vc] : Array Value).size) := by show _ = _; rw [rol_sz]; rfl
  have HRBx : Hid (W0.heap[w.heap.size]? = some (.cells #[va, vb, vc] 26 (0, 0))) := HRB.out
  go_wp2_with (first
   | (refine wpList_load_row rfl 26 (.tmp 3) rfl w.heap.size rfl 26 #[va, vb, vc] (0, 0) _ HRBx.out Try.underlying26 rfl HSZr.out ?_)
   | fail)
  (with_reducible refine (rRoll_any _ va vb vc R (HR.out.mono HB.out)).mono ?_)
  clear HRBx
  rintro e wc ⟨rfl, hb⟩
  have HRBn := Lib.hid (HRB.out.below hb)
  clear HRB
  have HRB := HRBn
  clear HRBn
  have HZBn := Lib.hid (HZB.out.below hb)
  clear HZB
  have HZB := HZBn
  clear HZBn
  have HBn := Lib.hid (bgo HB.out hb HB.out.size)
  clear HB
  have HB := HBn
  clear HBn
  have HLEn := Lib.hid (Nat.le_trans HLE.out (Below.size hb))
  clear HLE
  have HLE := HLEn
  clear HLEn
  clear hb
  rw [HCK.out]
  have HSZz : Hid ((Try.prog.info? 26).map (·.size) = some (#[.slice none 0 0, .slice none 0 0, .slice none 0 0] : Array Value).size) := by show _ = _; rw [rol_sz]; rfl
  have HONz : Hid ((#[.slice none 0 0, .slice none 0 0, .slice none 0 0] : Array Value).all (·.oneCell') = true) := by show _ = true; simp [Value.oneCell']
  have HZBx : Hid (wc.heap[(w.heap.size + 1)]? = some (.cells #[.slice none 0 0, .slice none 0 0, .slice none 0 0] 26 (0, 0))) := HZB.out
  go_wp2_with (first
   | (refine wpList_store_row rfl 26 (.tmp 6) (.tmp 13) rfl (w.heap.size + 1) #[.slice none 0 0, .slice none 0 0, .slice none 0 0] rfl rfl 26 #[.slice none 0 0, .slice none 0 0, .slice none 0 0] HZBx.out HSZz.out rfl HONz.out ?_)
   | fail)
  refine bodyPost_ret (results_ht rfl (HT.row HZBx.out rfl) rfl rfl Try.underlying26 rfl rol_sz) rfl ?_
  rw [HDF.out]
  exact ⟨_, _, _, _, _, _, _, _, _, rfl, OwnRoll.none _ _, HB.out.trans (setRow_below (by omega) _)⟩
end Cam
