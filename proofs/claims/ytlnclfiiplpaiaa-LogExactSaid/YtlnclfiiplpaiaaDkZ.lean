import Derived.Test.YtlnclfiiplpaiaaDkCz
/- disk.Disk: Crash. -/
namespace Cam
open Go Go.RowKit Go.Proofs
theorem keepC {W : World} {g gs gn o m : Nat} {v u : Value} {cs vs : List Value} (h : W.cell? ⟨g, 1, none⟩ = some v ∧ W.cell? ⟨g, 0, none⟩ = some u ∧ W.rangeAt gs 0 cs ∧ W.there gn o m) (hg : g ≠ gn) (hx : gs ≠ gn) :
  (W.setCells gn 0 vs).cell? ⟨g, 1, none⟩ = some v ∧ (W.setCells gn 0 vs).cell? ⟨g, 0, none⟩ = some u ∧ (W.setCells gn 0 vs).rangeAt gs 0 cs ∧ (W.setCells gn 0 vs).there gn o m :=
 ⟨by rw [World.cell?_setCells_out gn vs 0 W ⟨g, 1, none⟩ (fun e _ => absurd e hg)]; exact h.1, by rw [World.cell?_setCells_out gn vs 0 W ⟨g, 0, none⟩ (fun e _ => absurd e hg)]; exact h.2.1, World.rangeAt_setCells_apart h.2.2.1 gn 0 vs (.inl hx), World.there_setCells h.2.2.2 gn 0 vs⟩
set_option maxRecDepth 100000 in
set_option maxHeartbeats 3200000 in
theorem Crash_any (w : World) (g gs gn : Nat) (vo : Value) (n : Nat) (D : DK) (h : DM w g gs gn vo n D) (vp : Value) (picks : List Int) (hp : ∀ w', Kept (DS g gs gn vo) w w' → Is w' vp picks) :
  Calls Try.prog 26 #[.pointer (some ⟨g, 0, none⟩), vp] w fun e w' => e = .returned (.tuple #[]) ∧ DPost w g gs gn vo n (dCrash D picks) w' := by
 obtain ⟨a, c, rfl, _, _⟩ := (Sl.of_owns h.ho).shape
 obtain ⟨m, hm⟩ : ∃ m, m = D.op.length := ⟨_, rfl⟩
 have hm6 := h.ok.few
 rw [← hm] at h hm6 hp ⊢
 obtain ⟨ap, cp, rfl, hcp, hmp⟩ := (hp w (Kept.refl _ _)).shape
 obtain ⟨hc0, hc1, hc2, hc3, hc4, hc5⟩ := h.cells
 have hf3 := h.hd.frozen 3
 have hf4 := h.hd.frozen 4
 have hf5 := h.hd.frozen 5
 have h1 : DM (w.setCell ⟨g, 3, none⟩ (.bool true)) g gs gn (.slice a m c) n { D with off := true } := h.put rfl rfl rfl rfl h.ok.arm
 have h2 : DM ((w.setCell ⟨g, 3, none⟩ (.bool true)).setCell ⟨g, 5, none⟩ (.bool false)) g gs gn (.slice a m c) n { D with off := true, torn := false } := h1.put rfl rfl rfl rfl h.ok.arm
 have h3 : DM (((w.setCell ⟨g, 3, none⟩ (.bool true)).setCell ⟨g, 5, none⟩ (.bool false)).setCell ⟨g, 4, none⟩ (.int .i64 0)) g gs gn (.slice a m c) n { D with off := true, torn := false, arm := 0 } := h2.put rfl rfl rfl rfl (by simp only; omega)
 have hk3 : Kept (fun k => k = g) w (((w.setCell ⟨g, 3, none⟩ (.bool true)).setCell ⟨g, 5, none⟩ (.bool false)).setCell ⟨g, 4, none⟩ (.int .i64 0)) := (((Kept.refl (fun k => k = g) w).setCell ⟨g, 3, none⟩ (.bool true) rfl).setCell ⟨g, 5, none⟩ (.bool false) rfl).setCell ⟨g, 4, none⟩ (.int .i64 0) rfl
 have hl6 : D.op.length = m := hm.symm
 have H3 := Lib.hid h3
 have HK := Lib.hid hk3
 have HP := Lib.hid hp
 have h3c2 := h3.cells.2.2.1
 clear h1 h2 h h3 hk3 hp hm hc0 hc1
 go_enter Try.func26, Try.ntmps26
 go_wp2_with fail
 clear h3c2 hc2 hf3 hf4 hf5 hc3 hc4 hc5
 have H3' := H3.out
 have HK' := HK.out
 clear H3 HK
 generalize ((w.setCell ⟨g, 3, none⟩ (.bool true)).setCell ⟨g, 5, none⟩ (.bool false)).setCell ⟨g, 4, none⟩ (.int .i64 0) = w1 at *
 have HM := Lib.hid H3'
 have HK := Lib.hid HK'
 clear H3' HK'
 go_loopw [22] (fun i wr => ∃ j : Nat, j ≤ m ∧ i = .int .i64 j ∧ DM wr g gs gn (.slice a m c) n { D with off := true, torn := false, arm := 0, syn := crashTo D.op picks D.syn j } ∧ Kept (fun k => k = gs) w1 wr) (fun i _ => m - (intOf i).toNat)
 case atStart => exact ⟨0, Nat.zero_le _, rfl, HM.out, Kept.refl _ _⟩
 case round =>
  obtain ⟨j, hj, rfl, hdr, hkr⟩ := hrel
  have hpr := HP.out wr ((HK.out.weaken (T := DS g gs gn (.slice a m c)) (fun i e => .inl e)).trans hkr (fun i _ e => .inr (.inl e)))
  by_cases hlt : j < m
  ·
   obtain ⟨bo, rfl, hran⟩ := hdr.openAt (i := j) (by show j < D.op.length; omega)
   obtain ⟨x, hx⟩ : ∃ x, x = D.op[j]'(by omega) := ⟨_, rfl⟩
   obtain ⟨k, b⟩ := x
   have hop := hdr.ok.op (k, b) (by rw [hx]; exact List.getElem_mem _)
   obtain ⟨nn, hnn⟩ : ∃ nn, nn = pickN picks j := ⟨_, rfl⟩
   have hle := pickN_le picks j
   rw [← hnn] at hle
   have hset : crashTo D.op picks D.syn (j + 1) = (crashTo D.op picks D.syn j).set k (mixB nn ((crashTo D.op picks D.syn j).getD k []) b) := by
    rw [crashTo, List.getElem?_eq_getElem (by omega : j < D.op.length), ← hx, ← hnn]
   rw [show (({ D with off := true, torn := false, arm := 0, syn := crashTo D.op picks D.syn j } : DK).op[j]'(by show j < D.op.length; omega)) = (k, b) from hx.symm] at hran
   obtain ⟨hkn, hbl⟩ := hop
   simp only at hkn hbl
   have hlt0 := hdr.hd.lt
   obtain ⟨l1, l2, l3⟩ := hdr.lt
   have hn1 := hdr.ok.n1
   have hbx := (HC.new (w := wr) (C := fW (0, zero64)) (t := 100))
   have Hth := Lib.hid (hbx.there (o := 0) (n := (fW (k, b)).length) (by rw [fW_length (x := (k, b)) hbl, fW_length (x := (0, zero64)) zero64_length]; omega))
   have hbx2 := hbx.puts (vs := fW (k, b)) (o := 0) (by rw [fW_length (x := (k, b)) hbl, fW_length (x := (0, zero64)) zero64_length]; omega)
   rw [show splice (fW (0, zero64)) 0 (fW (k, b)) = fW (k, b) by unfold splice; rw [List.take_zero, List.nil_append, Nat.zero_add, List.drop_of_length_le (by rw [fW_length (x := (k, b)) hbl, fW_length (x := (0, zero64)) zero64_length]; omega), List.append_nil]] at hbx2
   have hk2 : Kept (fun i => i = wr.heap.size) wr ((wr.alloc (.cells (fW (0, zero64)).toArray 100)).setCells wr.heap.size 0 (fW (k, b))) := ((Kept.refl (fun i => i = wr.heap.size) wr).alloc (.cells (fW (0, zero64)).toArray 100)).trans (setCells_kept _ _ _ _) (fun _ _ e => e)
   have hd2 := hdr.kept hk2 (fun i hi e => by
    rcases hi with rfl | rfl | rfl | hi
    ·
     omega
    ·
     omega
    ·
     omega
    ·
     have := (hdr.row i hi).2
     omega)
   have Hsz65 := Lib.hid (size65_of (x := (k, b)) hbl)
   have Hset := Lib.hid hset
   have Hkr := Lib.hid hkr
   have hkb : (k : Int) < (n : Int) := by omega
   have hzv := zero65
   have hxs : wr.heap.size ≠ gs := by omega
   have hgs : g ≠ gs := by omega
   obtain ⟨W2, hW2⟩ : ∃ W2, W2 = (wr.alloc (.cells (fW (0, zero64)).toArray 100)).setCells wr.heap.size 0 (fW (k, b)) := ⟨_, rfl⟩
   rw [← hW2] at hd2 hbx2 hk2
   have HS0 : W2.drew.cell? ⟨g, 0, none⟩ = some (.slice (some ⟨gs, 0, none⟩) n n) ∧ W2.drew.cell? ⟨wr.heap.size, 0, none⟩ = some (.int .i64 (k : Int)) ∧ W2.drew.rangeAt wr.heap.size 1 (bvs b) ∧ W2.drew.there gs (k * 64) nn :=
    ⟨hd2.cells.1, hbx2.cell rfl, hbx2.range 1 (fun i v hv => by rw [Nat.add_comm]; exact hv), fun i hi => blockRoom hd2.hs hd2.ok.syn.2 (k := k) (by rw [hd2.ok.syn.1]; exact hkn) hbl i (by rw [bvs_length, hbl]; omega)⟩
   have hlen : ((bvs b).take nn).length = Nat.min nn nn * 1 := by rw [List.length_take, bvs_length, hbl, show Nat.min nn nn = nn from Nat.min_self nn]; omega
   have hll : ((bvs b).take nn).length = nn := by rw [List.length_take, bvs_length, hbl]; omega
   have hsrc : ∀ i v, ((bvs b).take nn)[i]? = some v → W2.drew.cell? ((⟨wr.heap.size, 1, none⟩ : Addr).add i) = some v := by
    intro i v hv
    have hi := (List.getElem?_eq_some_iff.1 hv).1
    rw [List.getElem?_take_of_lt (by omega)] at hv
    rw [add_none]
    exact HS0.2.2.1 i v hv
   have hth : W2.drew.there gs (k * 64) ((bvs b).take nn).length := by rw [hll]; exact HS0.2.2.2
   have HD3 := Lib.hid ((hd2.below (Below.refl _ _).drew).mixSyn hkn hbl hle)
   have HK3 := Lib.hid (keptDrew hk2)
   have HK2 := Lib.hid hk2
   have Hlen := Lib.hid hlen
   rw [hW2] at HS0 hsrc hth HD3 HK3 HK2
   have HS := Lib.hid HS0
   have HSRC := Lib.hid hsrc
   have HTH := Lib.hid hth
   have hnc : (nn : Int) ≤ 64 := by omega
   clear hdr hset hkr hbx hx hbx2 hd2 hk2 hbl hlen hll hsrc hth HS0 hW2
   by_cases hjp : j < picks.length
   ·
    obtain ⟨bp, op_, rfl, hbp, hcs⟩ := hpr.at (by omega)
    have hcj := HK2.out.cell (hcs j hjp) (by show ¬ bp = wr.heap.size; omega)
    have hpk : pickN picks j = (min (max (((picks[j].tmod 66) + 66).tmod 66 - 1) 0) 64).toNat := by unfold pickN; rw [List.getElem?_eq_getElem hjp]
    obtain ⟨p, hpe⟩ : ∃ p, p = picks[j] := ⟨_, rfl⟩
    rw [← hpe] at hcj hpk
    clear hcs hpe hpr
    have hb1 := Int.tmod_lt_of_pos p (by omega : (0 : Int) < 66)
    have hb2 : -66 < p.tmod 66 := by
     rw [Int.tmod_eq_emod]
     split <;> omega
    obtain ⟨r, hr⟩ : ∃ r, p.tmod 66 = r := ⟨_, rfl⟩
    rw [hr] at hb1 hb2 hpk
    have hb3 := Int.tmod_lt_of_pos (r + 66) (by omega : (0 : Int) < 66)
    have hb4 := Int.tmod_nonneg 66 (by omega : (0 : Int) ≤ r + 66)
    obtain ⟨q, hq⟩ : ∃ q, (r + 66).tmod 66 = q := ⟨_, rfl⟩
    rw [hq] at hb3 hb4 hpk
    rw [← hnn] at hpk
    clear hnn
    by_cases hq0 : q = 0
    ·
     subst hq0
     obtain rfl : nn = 0 := by omega
     clear hpk
     go_wp2_with (first
      | (refine wpList_load_mid rfl 100 (.tmp 25) rfl bo (j * 65) rfl (fW (k, b)) _ hran Try.underlying100 rfl Hsz65.out ?_)
      | (refine wpList_store_mid rfl 100 (.tmp 5) (.tmp 26) rfl wr.heap.size 0 (fW (k, b)).toArray rfl rfl (by simpa using Hth.out) (by simpa using Hsz65.out) (all_oneCell_toArray (fW_one _)) ?_)
      | fail)
     go_region_held3 (fun w' => w'.cell? ⟨g, 0, none⟩ = some (.slice (some ⟨gs, 0, none⟩) n n) ∧ w'.cell? ⟨wr.heap.size, 0, none⟩ = some (.int .i64 (k : Int)) ∧ w'.rangeAt wr.heap.size 1 (bvs b) ∧ w'.there gs (k * 64) 0) (first | exact HS.out | exact keepS4 (by assumption) hgs hxs)
      (first | (refine step_copy_wide rfl (.tmp 50) (.tmp 53) 22 22 rfl 5 1 Try.underlying22 (by kernel_rfl) gs (k * 64) 0 64 ⟨wr.heap.size, 1, none⟩ 0 64 rfl rfl ((bvs b).take 0) Hlen.out HSRC.out HTH.out (fun v hv => bs_oneCell b v (List.mem_of_mem_take hv)) ?_))
     go_wp2_with fail
     refine ⟨⟨j + 1, by omega, by push_cast; rfl, ?_, ?_⟩, by simp [intOf]; omega⟩
     ·
      rw [Hset.out]
      exact HD3.out
     ·
      have hww := Hkr.out.size
      refine (Hkr.out.trans (S := fun i => i = gs) (T := fun i => i = gs) ⟨HK3.out.os, HK3.out.tape, HK3.out.output, HK3.out.size, fun i hi hn => HK3.out.block i hi (by omega)⟩ (fun _ _ e => e)).trans (setCells_kept gs _ (k * 64) _) (fun _ _ e => e)
    ·
     obtain rfl : q = (nn : Int) + 1 := by omega
     clear hpk hq0
     have hn0 : decide ((nn : Int) < 0) = false := by simp
     have hn1' : decide ((64 : Int) < (nn : Int)) = false := by simp; omega
     have hmx : max (nn : Int) 0 = (nn : Int) := by omega
     have hmn : min (nn : Int) 64 = (nn : Int) := by omega
     go_wp2_with (first
      | (refine wpList_load_mid rfl 100 (.tmp 25) rfl bo (j * 65) rfl (fW (k, b)) _ hran Try.underlying100 rfl Hsz65.out ?_)
      | (refine wpList_store_mid rfl 100 (.tmp 5) (.tmp 26) rfl wr.heap.size 0 (fW (k, b)).toArray rfl rfl (by simpa using Hth.out) (by simpa using Hsz65.out) (all_oneCell_toArray (fW_one _)) ?_)
      | fail)
     go_region_held3 (fun w' => w'.cell? ⟨g, 0, none⟩ = some (.slice (some ⟨gs, 0, none⟩) n n) ∧ w'.cell? ⟨wr.heap.size, 0, none⟩ = some (.int .i64 (k : Int)) ∧ w'.rangeAt wr.heap.size 1 (bvs b) ∧ w'.there gs (k * 64) nn) (first | exact HS.out | exact keepS4 (by assumption) hgs hxs)
      (first | (refine step_copy_wide rfl (.tmp 50) (.tmp 53) 22 22 rfl 5 1 Try.underlying22 (by kernel_rfl) gs (k * 64) nn 64 ⟨wr.heap.size, 1, none⟩ nn 64 rfl rfl ((bvs b).take nn) Hlen.out HSRC.out HTH.out (fun v hv => bs_oneCell b v (List.mem_of_mem_take hv)) ?_))
     go_wp2_with fail
     refine ⟨⟨j + 1, by omega, by push_cast; rfl, ?_, ?_⟩, by simp [intOf]; omega⟩
     ·
      rw [Hset.out]
      exact HD3.out
     ·
      have hww := Hkr.out.size
      refine (Hkr.out.trans (S := fun i => i = gs) (T := fun i => i = gs) ⟨HK3.out.os, HK3.out.tape, HK3.out.output, HK3.out.size, fun i hi hn => HK3.out.block i hi (by omega)⟩ (fun _ _ e => e)).trans (setCells_kept gs _ (k * 64) _) (fun _ _ e => e)
   ·
    have hjd : decide ((j : Int) < (picks.length : Int)) = false := by simp; omega
    have hpk : pickN picks j = 0 := by unfold pickN; rw [List.getElem?_eq_none (by omega)]
    obtain rfl : nn = 0 := by rw [hnn, hpk]
    clear hnn hpk hpr
    go_wp2_with (first
     | (refine wpList_load_mid rfl 100 (.tmp 25) rfl bo (j * 65) rfl (fW (k, b)) _ hran Try.underlying100 rfl Hsz65.out ?_)
     | (refine wpList_store_mid rfl 100 (.tmp 5) (.tmp 26) rfl wr.heap.size 0 (fW (k, b)).toArray rfl rfl (by simpa using Hth.out) (by simpa using Hsz65.out) (all_oneCell_toArray (fW_one _)) ?_)
     | fail)
    go_region_held3 (fun w' => w'.cell? ⟨g, 0, none⟩ = some (.slice (some ⟨gs, 0, none⟩) n n) ∧ w'.cell? ⟨wr.heap.size, 0, none⟩ = some (.int .i64 (k : Int)) ∧ w'.rangeAt wr.heap.size 1 (bvs b) ∧ w'.there gs (k * 64) 0) (first | exact HS.out | exact keepS4 (by assumption) hgs hxs)
     (first | (refine step_copy_wide rfl (.tmp 50) (.tmp 53) 22 22 rfl 5 1 Try.underlying22 (by kernel_rfl) gs (k * 64) 0 64 ⟨wr.heap.size, 1, none⟩ 0 64 rfl rfl ((bvs b).take 0) Hlen.out HSRC.out HTH.out (fun v hv => bs_oneCell b v (List.mem_of_mem_take hv)) ?_))
    go_wp2_with fail
    refine ⟨⟨j + 1, by omega, by push_cast; rfl, ?_, ?_⟩, by simp [intOf]; omega⟩
    ·
     rw [Hset.out]
     exact HD3.out
    ·
     have hww := Hkr.out.size
     refine (Hkr.out.trans (S := fun i => i = gs) (T := fun i => i = gs) ⟨HK3.out.os, HK3.out.tape, HK3.out.output, HK3.out.size, fun i hi hn => HK3.out.block i hi (by omega)⟩ (fun _ _ e => e)).trans (setCells_kept gs _ (k * 64) _) (fun _ _ e => e)
  ·
   obtain rfl : j = m := by omega
   rw [show crashTo D.op picks D.syn j = crashTo D.op picks D.syn D.op.length by rw [hl6]] at hdr
   have hf2 := hdr.hd.frozen 2
   have hy2 := hdr.cells.2.2.1
   have hd4 := hdr.clear
   obtain ⟨l1, l2, l3⟩ := hdr.lt
   have hn1 := hdr.ok.n1
   have hk4 := ((HK.out.weaken (T := DS g gs gn (.slice a j c)) (fun i e => .inl e)).trans hkr (fun i _ e => .inr (.inl e))).trans (DM.keptPut (w := wr) (g := g) (j := 2) (v := .slice none 0 0)) (fun i _ e => .inl e)
   have hgn : g ≠ gn := by omega
   have hsn : gs ≠ gn := l1
   clear hdr hkr hpr
   have HD4 := Lib.hid hd4
   have HK4 := Lib.hid hk4
   have hcp := hd4.cells
   have hS : (wr.setCell ⟨g, 2, none⟩ (.slice none 0 0)).drew.cell? ⟨g, 1, none⟩ = some (.slice (some ⟨gn, 0, none⟩) n n) ∧ (wr.setCell ⟨g, 2, none⟩ (.slice none 0 0)).drew.cell? ⟨g, 0, none⟩ = some (.slice (some ⟨gs, 0, none⟩) n n) ∧ (wr.setCell ⟨g, 2, none⟩ (.slice none 0 0)).drew.rangeAt gs 0 (flatW bvs (crashTo D.op picks D.syn D.op.length)) ∧ (wr.setCell ⟨g, 2, none⟩ (.slice none 0 0)).drew.there gn 0 (flatW bvs (crashTo D.op picks D.syn D.op.length)).length :=
    ⟨hd4.cells.2.1, hd4.cells.1, hd4.hs.range 0 (fun i v hv => by rw [Nat.zero_add]; exact hv), hd4.hn.there (by
     rw [Nat.zero_add, flatW_length (W := 64) (fun a ha => by rw [bvs_length]; exact hd4.ok.syn.2 a ha), flatW_length (W := 64) (fun a ha => by rw [bvs_length]; exact hd4.ok.now.2 a ha), hd4.ok.now.1]
     exact Nat.le_of_eq (congrArg (· * 64) hd4.ok.syn.1))⟩
   have hlen : (flatW bvs (crashTo D.op picks D.syn D.op.length)).length = Nat.min n n * 64 := by
    rw [flatW_length (W := 64) (fun a ha => by rw [bvs_length]; exact hd4.ok.syn.2 a ha), show Nat.min n n = n from Nat.min_self n]
    exact congrArg (· * 64) hd4.ok.syn.1
   have hsrc : ∀ i v, (flatW bvs (crashTo D.op picks D.syn D.op.length))[i]? = some v → (wr.setCell ⟨g, 2, none⟩ (.slice none 0 0)).drew.cell? ((⟨gs, 0, none⟩ : Addr).add i) = some v := by
    intro i v hv
    rw [add_none]
    exact hS.2.2.1 i v hv
   have Hlen := Lib.hid hlen
   have HSRC := Lib.hid hsrc
   have HS := Lib.hid hS
   have HD5 := Lib.hid ((hd4.below (Below.refl _ _).drew).copyNow)
   clear hd4 hk4 hcp hS hlen hsrc
   go_wp2_with fail
   go_region_held3 (fun w' => w'.cell? ⟨g, 1, none⟩ = some (.slice (some ⟨gn, 0, none⟩) n n) ∧ w'.cell? ⟨g, 0, none⟩ = some (.slice (some ⟨gs, 0, none⟩) n n) ∧ w'.rangeAt gs 0 (flatW bvs (crashTo D.op picks D.syn D.op.length)) ∧ w'.there gn 0 (flatW bvs (crashTo D.op picks D.syn D.op.length)).length) (first | exact HS.out | exact keepC (by assumption) hgn hsn)
    (first | (refine step_copy_wide rfl (.tmp 62) (.tmp 66) 75 75 rfl 36 64 Try.underlying75 (by kernel_rfl) gn 0 n n ⟨gs, 0, none⟩ n n rfl rfl (flatW bvs (crashTo D.op picks D.syn D.op.length)) Hlen.out HSRC.out HS.out.2.2.2 flat_one ?_))
   go_wp2_with fail
   go_end0
   refine ⟨rfl, .slice none 0 0, HD5.out, ?_, fun i hi => by cases hi⟩
   exact (keptDrew HK4.out).trans (setCells_kept gn _ 0 _) (fun i _ e => .inr (.inr (.inl e)))
end Cam
