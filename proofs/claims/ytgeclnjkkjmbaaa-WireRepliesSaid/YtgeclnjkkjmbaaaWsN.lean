import Derived.Test.YtgeclnjkkjmbaaaWsM
/- cambistref24.Reply; WireReplies: the walk. -/
namespace Cam
open Go Go.RowKit Go.Proofs

set_option maxHeartbeats 400000 in
theorem SpoilBytes_own (w : World) (base : Nat) (v : Value) (l : List UInt8) (h : OwnB 5 w base v l) :
    Calls Try.prog 22 #[v] w fun e w' => e = .returned (.tuple #[]) ∧ Kept (fun k => v.ownBlock = some k) w w' := by
  obtain ⟨a, cap, rfl⟩ := h.shape
  go_enter Try.func22, Try.ntmps22
  go_wp2
  have hl63 : l.length ≤ 9223372036854775807 := by
    obtain ⟨_, _, _, h1, h2⟩ := h.bs.shape
    omega
  go_loopw [2] (fun i wr => ∃ (k : Nat) (xs : List Value), k ≤ l.length ∧ i = .int .i64 k ∧ wr.ownsRow base 5 1 (.slice a l.length cap) l.length xs ∧ (∀ u ∈ xs, ∃ n : Int, u = .int .u8 n) ∧ Kept (fun k => (Value.slice a l.length cap).ownBlock = some k) w wr) (fun i _ => l.length - (intOf i).toNat)
  case atStart => exact ⟨0, bvs l, Nat.zero_le _, rfl, h, fun u hu => by obtain ⟨c, _, rfl⟩ := List.mem_map.1 hu; exact ⟨_, rfl⟩, Kept.refl _ _⟩
  case round =>
    obtain ⟨k, xs, hk, rfl, hown, hall, hbel⟩ := hrel
    by_cases hlt : k < l.length
    · obtain ⟨g, cap', hv⟩ := Joins.ownsRow_form hown (by omega)
      simp only [Value.slice.injEq, true_and] at hv
      obtain ⟨rfl, rfl⟩ := hv
      have hxl := hown.1
      have hkx : k < xs.length := by omega
      obtain ⟨n, hn⟩ := hall xs[k] (List.getElem_mem hkx)
      have hck := hown.cellAt k (by omega)
      rw [List.getElem?_eq_getElem hkx, hn] at hck
      have hfr := hown.frozenAt k
      obtain ⟨hst, hgr⟩ := hown.stored k (.int .u8 ((n + 101) % 256))
      have Hbel := Lib.hid hbel
      have Hall := Lib.hid hall
      clear hall hxl hn hbel
      go_wp2
      go_roundw
      case rel =>
        refine ⟨k + 1, xs.set k (.int .u8 ((n + 101) % 256)), by omega, by go_num, hst, fun u hu => ?_, Hbel.out.setCell _ _ rfl⟩
        rcases List.mem_or_eq_of_mem_set hu with h1 | rfl
        · exact Hall.out u h1
        · exact ⟨_, rfl⟩
      case measure => simp [intOf]; omega
    · go_wp2
      go_end0
      exact ⟨rfl, hbel⟩


theorem kept_none {w w' : World} {c n : Nat} (h : Kept (fun k => (Value.slice none n c).ownBlock = some k) w w') : Below w.heap.size w w' := h.below (fun _ _ e => by cases e) (Nat.le_refl _)
set_option maxRecDepth 100000 in
set_option maxHeartbeats 1600000 in
theorem rReply_any (w : World) (xc xn xa : Int) (vd vf : Value) (D : List DT) (F : List FT) (hr : okI [xc, xn, xa])
    (hd : Rs DT.vs 3 w vd D) (hf : Rs FT.vs 8 w vf F) (hrd : ∀ x ∈ D, okI x.ints) (hrf : ∀ x ∈ F, okI x.ints) (hDl : D.length ≤ 1200) (hFl : F.length ≤ 1200) :
    Calls Try.prog 20 #[.agg #[.int .i64 xc, .int .i64 xn, .int .i64 xa, vd, vf]] w (BytesPost w (repW D F) (encRep xc xn xa D F)) := by
  have hle := encRep_length xc xn xa D F hr hrd hrf
  obtain ⟨ad, cd, rfl, hcd, hmd⟩ := hd.shape
  obtain ⟨af, cf, rfl, hcf, hmf⟩ := hf.shape
  have hb1 := (Below.refl w.heap.size w).alloc (Nat.le_refl _) (.cells #[.int .i64 xc, .int .i64 xn, .int .i64 xa, .slice ad D.length cd, .slice af F.length cf] 41)
  have hc : HT (w.alloc (.cells #[.int .i64 xc, .int .i64 xn, .int .i64 xa, .slice ad D.length cd, .slice af F.length cf] 41)) w.heap.size 41 [.int .i64 xc, .int .i64 xn, .int .i64 xa, .slice ad D.length cd, .slice af F.length cf] := HT.new (w := w)
  have rr := rightReply_any (w.alloc (.cells #[.int .i64 xc, .int .i64 xn, .int .i64 xa, .slice ad D.length cd, .slice af F.length cf] 41)) xc xn xa _ _ D F (hd.mono hb1) (hf.mono hb1)
  have HSZ : Hid ((Try.prog.info? 41).map (·.size) = some (#[.int .i64 xc, .int .i64 xn, .int .i64 xa, .slice ad D.length cd, .slice af F.length cf] : Array Value).size) := by show _ = _; rw [repSz]; rfl
  have HG : Hid ((w.alloc (.cells #[.int .i64 xc, .int .i64 xn, .int .i64 xa, .slice ad D.length cd, .slice af F.length cf] 41)).heap[w.heap.size]? = some (.cells #[.int .i64 xc, .int .i64 xn, .int .i64 xa, .slice ad D.length cd, .slice af F.length cf] 41 (0, 0))) := hc
  have HB1 := Lib.hid hb1
  have HC := Lib.hid hc
  have HD := Lib.hid hd
  have HF := Lib.hid hf
  have HR := Lib.hid (⟨hr, hrd, hrf, hDl, hFl, hle⟩ : _ ∧ _ ∧ _ ∧ _ ∧ _ ∧ _)
  clear hb1 hc hd hf hr hrd hrf hDl hFl hle
  obtain ⟨b, hb⟩ : ∃ b, b = repW D F := ⟨_, rfl⟩
  rw [← hb] at rr ⊢
  have HBW := Lib.hid hb
  clear hb
  cases b with
  | true =>
    go_enter Try.func20, Try.ntmps20
    go_wp2_with (first
      | (refine wpList_load_row rfl 41 (.tmp 1) rfl w.heap.size rfl 41 #[.int .i64 xc, .int .i64 xn, .int .i64 xa, .slice ad D.length cd, .slice af F.length cf] (0, 0) _ HG.out Try.underlying41 rfl HSZ.out ?_)
      | fail)
    refine rr.mono ?_
    clear rr
    rintro e w1 ⟨rfl, hb⟩
    have HB := Lib.hid (bgo HB1.out hb HB1.out.size)
    clear hb
    go_wp2_with fail
    go_ret2
    exact ⟨none, 0, 0, by unfold bE; simp, by unfold bL; simp; exact OwnB.empty _ _ _, HB.out⟩
  | false =>
    go_enter Try.func20, Try.ntmps20
    go_wp2_with (first
      | (refine wpList_load_row rfl 41 (.tmp 1) rfl w.heap.size rfl 41 #[.int .i64 xc, .int .i64 xn, .int .i64 xa, .slice ad D.length cd, .slice af F.length cf] (0, 0) _ HG.out Try.underlying41 rfl HSZ.out ?_)
      | fail)
    refine rr.mono ?_
    clear rr
    rintro e w1 ⟨rfl, hb⟩
    have HB := Lib.hid (bgo HB1.out hb HB1.out.size)
    have HG1 : Hid (w1.heap[w.heap.size]? = some (.cells #[.int .i64 xc, .int .i64 xn, .int .i64 xa, .slice ad D.length cd, .slice af F.length cf] 41 (0, 0))) := HC.out.below hb
    have rw1 := rrepw_any w1 w1.heap.size (.slice none 0 0) [] xc xn xa _ _ D F (OwnB.empty _ _ _) (fun w' hk => (HD.out.mono HB.out).mono (kept_none hk)) (fun w' hk => (HF.out.mono HB.out).mono (kept_none hk)) HR.out.1 HR.out.2.1 HR.out.2.2.1 (by simp) (Nat.le_refl _) HR.out.2.2.2.1 HR.out.2.2.2.2.1
    rw [List.nil_append, encRepP_eq xc xn xa D F HBW.out.symm] at rw1
    obtain ⟨L, hL⟩ : ∃ L, L = encRep xc xn xa D F := ⟨_, rfl⟩
    rw [← hL] at rw1
    have HEL := Lib.hid hL
    clear hb hL
    go_wp2_with (first
      | (refine wpList_load_row rfl 41 (.tmp 1) rfl w.heap.size rfl 41 #[.int .i64 xc, .int .i64 xn, .int .i64 xa, .slice ad D.length cd, .slice af F.length cf] (0, 0) _ HG1.out Try.underlying41 rfl HSZ.out ?_)
      | fail)
    refine rw1.mono ?_
    clear rw1
    rintro e w2 ⟨a, n, c, rfl, ho, hk, _⟩
    have hb2 := kept_none hk
    obtain ⟨a', c', hv, _⟩ := ho.bs.shape
    injection hv with e1 e2 e3
    subst e1 e2 e3
    have HO := Lib.hid ho
    have HB2 := Lib.hid (HB.out.trans (hb2.mono HB.out.size))
    by_cases hlong : 65536 < L.length
    · have sz := sized_any w2 a c L 6 (.slice none 0 0) (.inl ⟨hlong, rfl, rfl⟩)
      have HE : Hid (bE false L = 6 ∧ bL false L = []) := by show _ ∧ _; unfold bE bL; simp [hlong]
      clear ho hk hb2 hlong
      go_wp2_with fail
      refine sz.mono ?_
      clear sz
      rintro e w3 ⟨rfl, rfl⟩
      go_wp2_with fail
      go_ret2
      exact ⟨none, 0, 0, by rw [← HEL.out, HE.out.1]; rfl, by rw [← HEL.out, HE.out.2]; exact OwnB.empty _ _ _, HB2.out⟩
    · have sz := sized_any w2 a c L 0 (.slice a L.length c) (.inr ⟨hlong, rfl, rfl⟩)
      have HE : Hid (bE false L = 0 ∧ bL false L = L) := by show _ ∧ _; unfold bE bL; simp [hlong]
      clear ho hk hb2 hlong
      go_wp2_with fail
      refine sz.mono ?_
      clear sz
      rintro e w3 ⟨rfl, rfl⟩
      go_wp2_with fail
      go_ret2
      exact ⟨a, _, c, by rw [← HEL.out, HE.out.1]; rfl, by rw [← HEL.out, HE.out.2]; exact OwnB.base HO.out HB.out.size, HB2.out⟩
theorem readRp_two (l : List UInt8) : (readRp l).2 = 0 ∨ (readRp l).2 = 6 := by
  unfold readRp
  split
  · exact .inr rfl
  · split
    · exact .inl rfl
    · exact .inr rfl
set_option maxRecDepth 100000 in
set_option maxHeartbeats 3200000 in
theorem WireReplies_walk (w : World) (xc xn xa : Int) (vd vf : Value) (D : List DT) (F : List FT) (vb : Value) (l : List UInt8) (hr : okI [xc, xn, xa])
    (hd : Rs DT.vs 3 w vd D) (hf : Rs FT.vs 8 w vf F) (hrd : ∀ x ∈ D, okI x.ints) (hrf : ∀ x ∈ F, okI x.ints) (hb0 : Bs w vb l) :
    Calls Try.prog 5 #[.agg #[.int .i64 xc, .int .i64 xn, .int .i64 xa, vd, vf], vb] w fun e w' => e = .returned (.bool true) ∧ Below w.heap.size w w' := by
  obtain ⟨ad, cd, rfl, hcd, hmd⟩ := hd.shape
  obtain ⟨af, cf, rfl, hcf, hmf⟩ := hf.shape
  obtain ⟨av, cv, rfl, hcv, hmv⟩ := hb0.shape
  obtain ⟨n, hn⟩ : ∃ n, n = l.length := ⟨_, rfl⟩
  rw [← hn] at hb0 hcv ⊢
  have hb1 := (Below.refl w.heap.size w).alloc (Nat.le_refl _) (.cells #[.int .i64 xc, .int .i64 xn, .int .i64 xa, .slice ad D.length cd, .slice af F.length cf] 41)
  have hc : HT (w.alloc (.cells #[.int .i64 xc, .int .i64 xn, .int .i64 xa, .slice ad D.length cd, .slice af F.length cf] 41)) w.heap.size 41 [.int .i64 xc, .int .i64 xn, .int .i64 xa, .slice ad D.length cd, .slice af F.length cf] := HT.new (w := w)
  have lg := long_any (w.alloc (.cells #[.int .i64 xc, .int .i64 xn, .int .i64 xa, .slice ad D.length cd, .slice af F.length cf] 41)) xc xn xa _ _ D F (hd.mono hb1) (hf.mono hb1)
  have HSZ : Hid ((Try.prog.info? 41).map (·.size) = some (#[.int .i64 xc, .int .i64 xn, .int .i64 xa, .slice ad D.length cd, .slice af F.length cf] : Array Value).size) := by show _ = _; rw [repSz]; rfl
  have HG : Hid ((w.alloc (.cells #[.int .i64 xc, .int .i64 xn, .int .i64 xa, .slice ad D.length cd, .slice af F.length cf] 41)).heap[w.heap.size]? = some (.cells #[.int .i64 xc, .int .i64 xn, .int .i64 xa, .slice ad D.length cd, .slice af F.length cf] 41 (0, 0))) := hc
  have HB1 := Lib.hid hb1
  have HC := Lib.hid hc
  have HD := Lib.hid hd
  have HF := Lib.hid hf
  have HV := Lib.hid hb0
  have HN := Lib.hid hn
  have HR := Lib.hid (⟨hr, hrd, hrf⟩ : _ ∧ _ ∧ _)
  clear hb1 hc hd hf hr hrd hrf hb0 hn
  obtain ⟨b, hb⟩ : ∃ b, b = repL D F := ⟨_, rfl⟩
  rw [← hb] at lg
  have HBW := Lib.hid hb
  clear hb
  cases b with
  | true =>
    go_enter Try.func5, Try.ntmps5
    go_wp2_with (first
      | (refine wpList_load_row rfl 41 (.tmp 2) rfl w.heap.size rfl 41 #[.int .i64 xc, .int .i64 xn, .int .i64 xa, .slice ad D.length cd, .slice af F.length cf] (0, 0) _ HG.out Try.underlying41 rfl HSZ.out ?_)
      | fail)
    refine lg.mono ?_
    clear lg
    rintro e w1 ⟨rfl, hb⟩
    have HB := Lib.hid (bgo HB1.out hb HB1.out.size)
    clear hb
    go_wp2_with fail
    go_ret
    exact ⟨rfl, HB.out⟩
  | false =>
    by_cases hlong : 131072 < n
    · go_enter Try.func5, Try.ntmps5
      go_wp2_with (first
        | (refine wpList_load_row rfl 41 (.tmp 2) rfl w.heap.size rfl 41 #[.int .i64 xc, .int .i64 xn, .int .i64 xa, .slice ad D.length cd, .slice af F.length cf] (0, 0) _ HG.out Try.underlying41 rfl HSZ.out ?_)
        | fail)
      refine lg.mono ?_
      clear lg
      rintro e w1 ⟨rfl, hb⟩
      have HB := Lib.hid (bgo HB1.out hb HB1.out.size)
      clear hb
      go_wp2_with fail
      go_ret
      exact ⟨rfl, HB.out⟩
    · have hDF : D.length ≤ 1200 ∧ F.length ≤ 1200 := by
        have h := HBW.out
        unfold repL at h
        by_cases h1 : 1200 < D.length <;> by_cases h2 : 1200 < F.length <;> simp [h1, h2] at h
        omega
      have HDF := Lib.hid hDF
      clear hDF
      go_enter Try.func5, Try.ntmps5
      go_wp2_with (first
        | (refine wpList_load_row rfl 41 (.tmp 2) rfl w.heap.size rfl 41 #[.int .i64 xc, .int .i64 xn, .int .i64 xa, .slice ad D.length cd, .slice af F.length cf] (0, 0) _ HG.out Try.underlying41 rfl HSZ.out ?_)
        | fail)
      refine lg.mono ?_
      clear lg
      rintro e w1 ⟨rfl, hb⟩
      have HBx := Lib.hid (bgo HB1.out hb HB1.out.size)
      have HG1 : Hid (w1.heap[w.heap.size]? = some (.cells #[.int .i64 xc, .int .i64 xn, .int .i64 xa, .slice ad D.length cd, .slice af F.length cf] 41 (0, 0))) := HC.out.below hb
      have rp := Reply_any w1 xc xn xa _ _ D F HR.out.1 (HD.out.mono HBx.out) (HF.out.mono HBx.out) HR.out.2.1 HR.out.2.2
      obtain ⟨L, hL⟩ : ∃ L, L = encRep xc xn xa D F := ⟨_, rfl⟩
      obtain ⟨wr, hwr⟩ : ∃ b, b = repW D F := ⟨_, rfl⟩
      rw [← hL, ← hwr] at rp
      have HL := Lib.hid (⟨hL, hwr⟩ : _ ∧ _)
      unfold BytesPost at rp
      obtain ⟨e0, he0⟩ : ∃ e, e = bE wr L := ⟨_, rfl⟩
      obtain ⟨l0, hl0⟩ : ∃ e, e = bL wr L := ⟨_, rfl⟩
      rw [← he0, ← hl0] at rp
      have HE := Lib.hid (⟨he0, hl0⟩ : _ ∧ _)
      clear hb hL hwr he0 hl0
      go_wp2_with (first
        | (refine wpList_load_row rfl 41 (.tmp 2) rfl w.heap.size rfl 41 #[.int .i64 xc, .int .i64 xn, .int .i64 xa, .slice ad D.length cd, .slice af F.length cf] (0, 0) _ HG1.out Try.underlying41 rfl HSZ.out ?_)
        | fail)
      refine rp.mono ?_
      clear rp
      rintro e w2 ⟨a1, n1, c1, rfl, ho1, hb⟩
      have HO1 := Lib.hid ho1
      have HB2 := Lib.hid (bgo HBx.out hb HBx.out.size)
      have HG2 : Hid (w2.heap[w.heap.size]? = some (.cells #[.int .i64 xc, .int .i64 xn, .int .i64 xa, .slice ad D.length cd, .slice af F.length cf] 41 (0, 0))) := (show HT w1 w.heap.size 41 [.int .i64 xc, .int .i64 xn, .int .i64 xa, .slice ad D.length cd, .slice af F.length cf] from HG1.out).below hb
      have rq := rReply_any w2 xc xn xa _ _ D F HR.out.1 (HD.out.mono HB2.out) (HF.out.mono HB2.out) HR.out.2.1 HR.out.2.2 HDF.out.1 HDF.out.2
      rw [← HL.out.1, ← HL.out.2] at rq
      unfold BytesPost at rq
      rw [← HE.out.1, ← HE.out.2] at rq
      clear ho1 hb
      go_wp2_with (first
        | (refine wpList_load_row rfl 41 (.tmp 2) rfl w.heap.size rfl 41 #[.int .i64 xc, .int .i64 xn, .int .i64 xa, .slice ad D.length cd, .slice af F.length cf] (0, 0) _ HG2.out Try.underlying41 rfl HSZ.out ?_)
        | fail)
      refine rq.mono ?_
      clear rq
      rintro e w3 ⟨a2, n2, c2, rfl, ho2, hb⟩
      have HB3 := Lib.hid (bgo HB2.out hb HB2.out.size)
      have by1 := Bytes_any w3 _ _ l0 l0 (HO1.out.bs.mono hb) ho2.bs
      rw [decide_eq_true rfl] at by1
      clear ho2 hb
      go_wp2_with fail
      refine by1.mono ?_
      clear by1
      rintro e w4 ⟨rfl, hb⟩
      have HB4 := Lib.hid (bgo HB3.out hb HB3.out.size)
      have tw := Twin_any w4 _ l (HV.out.mono HB4.out) (by rw [← HN.out]; omega)
      unfold RetB at tw
      clear hb
      go_wp2_with fail
      refine tw.mono ?_
      clear tw
      rintro e w5 ⟨vin, rfl, ho5, hb⟩
      have HB5 := Lib.hid (bgo HB4.out hb HB4.out.size)
      have HO5 := Lib.hid ho5
      have HW4 : Hid (w.heap.size ≤ w4.heap.size) := HB4.out.size
      have rd := ReadReply_any w5 vin l ho5.bs (by rw [← HN.out]; omega)
      unfold readRpPost at rd
      obtain ⟨X, hX⟩ : ∃ X, X = (readRp l).1 := ⟨_, rfl⟩
      obtain ⟨E, hE⟩ : ∃ E, E = (readRp l).2 := ⟨_, rfl⟩
      rw [← hX, ← hE] at rd
      have HX := Lib.hid (⟨hX, hE⟩ : _ ∧ _)
      obtain ⟨ai, ci, rfl, _, _⟩ := ho5.bs.shape
      clear ho5 hb hX hE
      go_wp2_with fail
      refine rd.mono ?_
      clear rd
      rintro e w6 ⟨val, rfl, hv, hb⟩
      have HB6 := Lib.hid (bgo HB5.out hb HB5.out.size)
      have HV6 := Lib.hid hv
      have HO6 := Lib.hid (OwnB.below HO5.out hb)
      have HV6S : Hid (w5.heap.size ≤ w6.heap.size) := hb.size
      have HLT6 : Hid (∀ k, (Value.slice ai l.length ci).ownBlock = some k → w.heap.size ≤ k ∧ k < w5.heap.size) := fun k hk => ⟨Nat.le_trans HW4.out (OwnB.ge HO5.out k hk), OwnB.lt HO5.out k hk⟩
      obtain ⟨a3, n3, c3, a4, n4, c4, rfl, _, _⟩ := hv
      have hbn : Below w6.heap.size w6 (w6.alloc (.cells #[.int .i64 0, .int .i64 0, .int .i64 0, .slice none 0 0, .slice none 0 0] 41)) := (Below.refl _ _).alloc (Nat.le_refl _) _
      have hbs : Below w6.heap.size w6 ((w6.alloc (.cells #[.int .i64 0, .int .i64 0, .int .i64 0, .slice none 0 0, .slice none 0 0] 41)).setRow w6.heap.size #[.int .i64 X.c, .int .i64 X.n, .int .i64 X.a, .slice a3 n3 c3, .slice a4 n4 c4]) := hbn.trans (setRow_below (Nat.le_refl _) _)
      have hb7 : Below w.heap.size w ((w6.alloc (.cells #[.int .i64 0, .int .i64 0, .int .i64 0, .slice none 0 0, .slice none 0 0] 41)).setRow w6.heap.size #[.int .i64 X.c, .int .i64 X.n, .int .i64 X.a, .slice a3 n3 c3, .slice a4 n4 c4]) := HB6.out.trans (hbs.mono HB6.out.size)
      have sp := SpoilBytes_own _ _ _ l ((OwnB.below HO6.out hbs))
      have HSE : Hid ((#[.int .i64 0, .int .i64 0, .int .i64 0, .slice none 0 0, .slice none 0 0] : Array Value).size = (#[.int .i64 X.c, .int .i64 X.n, .int .i64 X.a, .slice a3 n3 c3, .slice a4 n4 c4] : Array Value).size) := by show _ = _; rfl
      have HSZ2 : Hid ((Try.prog.info? 41).map (·.size) = some (#[.int .i64 X.c, .int .i64 X.n, .int .i64 X.a, .slice a3 n3 c3, .slice a4 n4 c4] : Array Value).size) := by show _ = _; rw [repSz]; rfl
      have HONE : Hid ((#[.int .i64 X.c, .int .i64 X.n, .int .i64 X.a, .slice a3 n3 c3, .slice a4 n4 c4] : Array Value).all (·.oneCell') = true) := by show _ = true; simp [Value.oneCell']
      have HN7 : Hid (HT ((w6.alloc (.cells #[.int .i64 0, .int .i64 0, .int .i64 0, .slice none 0 0, .slice none 0 0] 41)).setRow w6.heap.size #[.int .i64 X.c, .int .i64 X.n, .int .i64 X.a, .slice a3 n3 c3, .slice a4 n4 c4]) w6.heap.size 41 [.int .i64 X.c, .int .i64 X.n, .int .i64 X.a, .slice a3 n3 c3, .slice a4 n4 c4]) := setRow_heap _ _ _ _ _ _ (heap_alloc_new w6 _)
      have HV7 := Lib.hid (HV6.out.below hbs)
      have HB7 := Lib.hid hb7
      clear hb hbn hbs hb7
      go_wp2_with (first
        | (refine wpList_store_row rfl 41 (.tmp 10) (.tmp 44) rfl w6.heap.size #[.int .i64 X.c, .int .i64 X.n, .int .i64 X.a, .slice a3 n3 c3, .slice a4 n4 c4] rfl rfl 41 #[.int .i64 0, .int .i64 0, .int .i64 0, .slice none 0 0, .slice none 0 0] (heap_alloc_new w6 _) HSZ2.out HSE.out HONE.out ?_)
        | fail)
      refine sp.mono ?_
      clear sp
      generalize hW7 : (w6.alloc (.cells #[.int .i64 0, .int .i64 0, .int .i64 0, .slice none 0 0, .slice none 0 0] 41)).setRow w6.heap.size #[.int .i64 X.c, .int .i64 X.n, .int .i64 X.a, .slice a3 n3 c3, .slice a4 n4 c4] = w7 at *
      clear hW7
      rintro e w8 ⟨rfl, hk8⟩
      have HB8 : Hid (Below w.heap.size w w8) := HB7.out.trans (hk8.below (fun k hk e => by have := HLT6.out k e; omega) HB7.out.size)
      have HV8 := Lib.hid (HV7.out.kept hk8 (fun k hk e => by have := HLT6.out k e; omega))
      have HN8 : Hid (HT w8 w6.heap.size 41 [.int .i64 X.c, .int .i64 X.n, .int .i64 X.a, .slice a3 n3 c3, .slice a4 n4 c4]) := HN7.out.keptH hk8 (fun e => by have := HLT6.out _ e; have := HV6S.out; omega)
      have rr := rReadReply_any w8 _ l (HV.out.mono HB8.out) (by rw [← HN.out]; omega)
      unfold RqRep at rr
      rw [← HX.out.1, ← HX.out.2] at rr
      clear hk8
      go_wp2_with fail
      refine rr.mono ?_
      clear rr
      rintro e w9 ⟨val2, rfl, hv9, hb⟩
      have HB9 := Lib.hid (bgo HB8.out hb HB8.out.size)
      have HV9 := Lib.hid hv9
      have HV8b := Lib.hid (HV8.out.below hb)
      have HN9 : Hid (HT w9 w6.heap.size 41 [.int .i64 X.c, .int .i64 X.n, .int .i64 X.a, .slice a3 n3 c3, .slice a4 n4 c4]) := HN8.out.below hb
      obtain ⟨b3, m3, d3, b4, m4, d4, rfl, _, _⟩ := hv9
      have hbn : Below w9.heap.size w9 (w9.alloc (.cells #[.int .i64 0, .int .i64 0, .int .i64 0, .slice none 0 0, .slice none 0 0] 41)) := (Below.refl _ _).alloc (Nat.le_refl _) _
      have hbs : Below w9.heap.size w9 ((w9.alloc (.cells #[.int .i64 0, .int .i64 0, .int .i64 0, .slice none 0 0, .slice none 0 0] 41)).setRow w9.heap.size #[.int .i64 X.c, .int .i64 X.n, .int .i64 X.a, .slice b3 m3 d3, .slice b4 m4 d4]) := hbn.trans (setRow_below (Nat.le_refl _) _)
      have HBA := Lib.hid (HB9.out.trans (hbs.mono HB9.out.size))
      have HSE3 : Hid ((#[.int .i64 0, .int .i64 0, .int .i64 0, .slice none 0 0, .slice none 0 0] : Array Value).size = (#[.int .i64 X.c, .int .i64 X.n, .int .i64 X.a, .slice b3 m3 d3, .slice b4 m4 d4] : Array Value).size) := by show _ = _; rfl
      have HSZ3 : Hid ((Try.prog.info? 41).map (·.size) = some (#[.int .i64 X.c, .int .i64 X.n, .int .i64 X.a, .slice b3 m3 d3, .slice b4 m4 d4] : Array Value).size) := by show _ = _; rw [repSz]; rfl
      have HONE3 : Hid ((#[.int .i64 X.c, .int .i64 X.n, .int .i64 X.a, .slice b3 m3 d3, .slice b4 m4 d4] : Array Value).all (·.oneCell') = true) := by show _ = true; simp [Value.oneCell']
      have HNA : Hid (((w9.alloc (.cells #[.int .i64 0, .int .i64 0, .int .i64 0, .slice none 0 0, .slice none 0 0] 41)).setRow w9.heap.size #[.int .i64 X.c, .int .i64 X.n, .int .i64 X.a, .slice b3 m3 d3, .slice b4 m4 d4]).heap[w9.heap.size]? = some (.cells #[.int .i64 X.c, .int .i64 X.n, .int .i64 X.a, .slice b3 m3 d3, .slice b4 m4 d4] 41 (0, 0))) := setRow_heap _ _ _ _ _ _ (heap_alloc_new w9 _)
      have HN9A : Hid (((w9.alloc (.cells #[.int .i64 0, .int .i64 0, .int .i64 0, .slice none 0 0, .slice none 0 0] 41)).setRow w9.heap.size #[.int .i64 X.c, .int .i64 X.n, .int .i64 X.a, .slice b3 m3 d3, .slice b4 m4 d4]).heap[w6.heap.size]? = some (.cells #[.int .i64 X.c, .int .i64 X.n, .int .i64 X.a, .slice a3 n3 c3, .slice a4 n4 c4] 41 (0, 0))) := HN9.out.below hbs
      obtain ⟨_, _, _, _, _, _, e1, r1, r2⟩ := HV8b.out
      obtain ⟨_, _, _, _, _, _, e2, r3, r4⟩ := HV9.out
      cases e1
      cases e2
      have kr := KReply_any ((w9.alloc (.cells #[.int .i64 0, .int .i64 0, .int .i64 0, .slice none 0 0, .slice none 0 0] 41)).setRow w9.heap.size #[.int .i64 X.c, .int .i64 X.n, .int .i64 X.a, .slice b3 m3 d3, .slice b4 m4 d4]) X.c X.n X.a X.c X.n X.a _ _ _ _ X.D X.D X.F X.F (r1.rs.mono hbs) (r2.rs.mono hbs) (r3.rs.mono hbs) (r4.rs.mono hbs)
      rw [decide_eq_true ⟨rfl, rfl, rfl, rfl, rfl⟩] at kr
      have h2 := readRp_two l
      rw [← HX.out.2] at h2
      clear hb hbn hbs r1 r2 r3 r4
      rcases h2 with rfl | rfl
      all_goals
        go_wp2_with (first
          | (refine wpList_store_row rfl 41 (.tmp 11) (.tmp 51) rfl w9.heap.size #[.int .i64 X.c, .int .i64 X.n, .int .i64 X.a, .slice b3 m3 d3, .slice b4 m4 d4] rfl rfl 41 #[.int .i64 0, .int .i64 0, .int .i64 0, .slice none 0 0, .slice none 0 0] (heap_alloc_new w9 _) HSZ3.out HSE3.out HONE3.out ?_)
          | (refine wpList_load_row rfl 41 (.tmp 10) rfl w6.heap.size rfl 41 #[.int .i64 X.c, .int .i64 X.n, .int .i64 X.a, .slice a3 n3 c3, .slice a4 n4 c4] (0, 0) _ HN9A.out Try.underlying41 rfl HSZ2.out ?_)
          | (refine wpList_load_row rfl 41 (.tmp 11) rfl w9.heap.size rfl 41 #[.int .i64 X.c, .int .i64 X.n, .int .i64 X.a, .slice b3 m3 d3, .slice b4 m4 d4] (0, 0) _ HNA.out Try.underlying41 rfl HSZ3.out ?_)
          | fail)
        refine kr.mono ?_
        rintro e wB ⟨rfl, hb⟩
        have HBB := Lib.hid (bgo HBA.out hb HBA.out.size)
        have wk := wakes_any wB
        clear hb
        go_wp2_with fail
        refine wk.mono ?_
        rintro e wC ⟨rfl, hb⟩
        have HBC := Lib.hid (bgo HBB.out hb HBB.out.size)
        clear hb
        go_wp2_with fail
        go_ret
        exact ⟨rfl, HBC.out⟩
end Cam
