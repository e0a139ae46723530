import Derived.Test.YtlnclfiiplpaiaaJnG
/- journal: (*Log).Begin. -/
namespace Cam
open Go Go.RowKit Go.Proofs
theorem Cls.and {S0 S R : World → Prop} (h : Cls S0 S) (hr : ∀ w w', R w → Below w.heap.size w w' → R w') : Cls S0 (fun w => S w ∧ R w) := ⟨fun w k => h.sub w k.1, fun w w' k hb => ⟨h.mono w w' k.1 hb, hr w w' k.2 hb⟩⟩
def JPost (w : World) (g gl : Nat) (Fd Fl : Nat → Prop) (n : Nat) (D : DK) (T : LT) (w' : World) : Prop :=
 ∃ Fd' Fl', DX w' g Fd' n D ∧ LX w' gl Fl' g T ∧ (∀ k, Fd' k → ¬ Fl' k) ∧ Kept (fun k => Fd k ∨ Fl k) w w' ∧ ∀ k, Fd' k ∨ Fl' k → Fd k ∨ Fl k ∨ w.heap.size ≤ k
theorem JPost.quit {w wb w' : World} {g gl n : Nat} {Fd Fl F1 : Nat → Prop} {D : DK} {T : LT} (hl : LX w gl Fl g T) (hd : DX w' g F1 n D) (hb : Below w.heap.size w wb) (hk : Kept Fd wb w') (hF : ∀ k, F1 k → Fd k ∨ wb.heap.size ≤ k) (hdis : ∀ k, Fd k → ¬ Fl k) :
  JPost w g gl Fd Fl n D T w' := by
 have hsz := hb.size
 refine ⟨F1, Fl, hd, (hl.below hb).kept hk (fun q e1 e2 => hdis q e2 e1), fun q e1 e2 => ?_, ?_, fun q e => ?_⟩
 ·
  rcases hF q e1 with e | e
  ·
   exact hdis q e e2
  ·
   have := hl.lt q e2; omega
 ·
  exact ((Kept.pre hb hk).weaken (fun q e => .inl e))
 ·
  rcases e with e | e
  ·
   rcases hF q e with e | e
   ·
    exact .inl e
   ·
    exact .inr (.inr (by omega))
  ·
   exact .inr (.inl e)
def dPhase (D : DK) (at_ : Nat) (L : List (List UInt8)) : Int × DK := if (dWrites D at_ L).1 = 0 then dSync (dWrites D at_ L).2 else dWrites D at_ L
def dPhases (D : DK) (at_ : Nat) : List (List (List UInt8)) → Int × DK
 | [] => (0, D)
 | L :: Ls => if (dPhase D at_ L).1 = 0 then dPhases (dPhase D at_ L).2 at_ Ls else dPhase D at_ L
theorem dSync_done {D : DK} (h : (dSync D).1 = 0) : (dSync D).2.op.length = 0 := by
 unfold dSync at h ⊢
 split
 ·
  rename_i h1; rw [if_pos h1] at h; cases h
 ·
  rename_i h1
  rw [if_neg h1] at h
  split
  ·
   rename_i h2; rw [if_pos h2] at h; cases h
  ·
   rfl
theorem dPhases_ok {D : DK} {at_ : Nat} {L : List (List UInt8)} {Ls : List (List (List UInt8))} (h : (dPhase D at_ L).1 = 0) : dPhases D at_ (L :: Ls) = dPhases (dPhase D at_ L).2 at_ Ls := by rw [dPhases, if_pos h]
theorem dPhases_stop {D : DK} {at_ : Nat} {L : List (List UInt8)} {Ls : List (List (List UInt8))} (h : (dPhase D at_ L).1 ≠ 0) : dPhases D at_ (L :: Ls) = ((dPhase D at_ L).1, (dPhase D at_ L).2) := by rw [dPhases, if_neg h]
def BeginPost (w : World) (g gl : Nat) (Fd Fl : Nat → Prop) (n : Nat) (D : DK) (T : LT) (s : List UInt8) (e : Ending) (w' : World) : Prop :=
 e = .returned (.int .i64 (dPhases D (n / 2 - T.from_) [List.replicate (n / 2) zero64, rowsOf (T.half.gen + 1) 0 s]).1) ∧ JPost w g gl Fd Fl n (dPhases D (n / 2 - T.from_) [List.replicate (n / 2) zero64, rowsOf (T.half.gen + 1) 0 s]).2
  (if (dPhases D (n / 2 - T.from_) [List.replicate (n / 2) zero64, rowsOf (T.half.gen + 1) 0 s]).1 = 0 then ⟨n / 2 - T.from_, ⟨T.half.gen + 1, s, [], (rowsOf (T.half.gen + 1) 0 s).length⟩, true⟩ else T) w'
set_option maxRecDepth 100000 in
set_option maxHeartbeats 6400000 in
theorem Begin_go (w : World) (gl g n : Nat) (Fd Fl : Nat → Prop) (D : DK) (T : LT) (hd : DX w g Fd n D) (hl : LX w gl Fl g T) (hdis : ∀ k, Fd k → ¬ Fl k) (v : Value) (s : List UInt8) (hsn : ∀ w', Kept Fd w w' → Bs w' v s)
  (hfr : T.from_ = 0 ∨ T.from_ = n / 2) (hgen : T.half.gen < 1099511627776) (hs : s.length ≤ 65536) (hfit : (rowsOf (T.half.gen + 1) 0 s).length ≤ n / 2) (hop : D.op.length ≤ 500000) :
  Calls Try.prog 14 #[.pointer (some ⟨gl, 0, none⟩), v] w (BeginPost w g gl Fd Fl n D T s) := by
 have HLX := Lib.hid hl
 have HDIS := Lib.hid hdis
 have HFDL := Lib.hid (fun k e => hd.lt k e)
 obtain ⟨vsn, vrc, h1, h2, h3, h4⟩ := hl
 obtain ⟨a1, n1, c1, a2, n2, c2, rfl, rfl, h2n⟩ := h2.named
 obtain ⟨fr, ⟨ge, sn, rc, fi⟩, bg⟩ := T
 simp only at hfr hgen hfit
 have h1' : HT w gl 89 [.pointer (some ⟨g, 0, none⟩), .int .i64 (fr : Int), .int .i64 (ge : Int), .slice a1 n1 c1, .slice a2 n2 c2, .int .i64 (fi : Int), .bool bg] := h1
 have HTL := Lib.hid h1'
 have HGL := Lib.hid h3
 have HGLT := Lib.hid (h4 gl h3)
 have hx2 := h1'.cell (j := 2) rfl
 have hge : (0 : Int) ≤ ge ∧ (ge : Int) < 1099511627776 := by omega
 have hge2 : decide ((1099511627776 : Int) ≤ (ge : Int)) = false := by simp; omega
 have hbs := hsn w (Kept.refl _ _)
 have hr := rowed_ok w v (ge + 1) 0 s hbs (by omega) (by omega) hs
 rw [Int.natCast_add, show ((1 : Nat) : Int) = 1 from rfl, show ((0 : Nat) : Int) = 0 from rfl] at hr
 have hn1 := hd.ok.n1
 obtain ⟨m, hm⟩ : ∃ z, z = n / 2 := ⟨_, rfl⟩
 obtain ⟨rl, hrl⟩ : ∃ z, z = (rowsOf (ge + 1) 0 s).length := ⟨_, rfl⟩
 have hrlm : rl ≤ m ∧ m ≤ 32768 := by omega
 have hrlc : decide ((m : Int) < (rl : Int)) = false := by simp; omega
 have hrlN : decide (m < rl) = false := by simp; omega
 obtain ⟨ot, hot⟩ : ∃ z, z = m - fr := ⟨_, rfl⟩
 have hotb : ot + m ≤ n ∧ (fr : Int) ≤ m ∧ (0 : Int) ≤ fr ∧ ot ≤ m := by omega
 have HOTE : Hid ((m : Int) - (fr : Int) = (ot : Int)) := by show _ = _; omega
 have HOT : Hid (ot = n / 2 - fr) := by show _ = _; rw [hot, hm]
 have hsz := fun w' (hb : Below w.heap.size w w') => size_any w' g n Fd D (hd.below hb)
 rw [← hm] at hsz
 have HSZ := Lib.hid hsz
 have HM := Lib.hid hm
 have HRL := Lib.hid hrl
 have HD := Lib.hid hd
 have HSN0 := Lib.hid hsn
 have HS : Hid (s.length ≤ 1000000) := by show _ ≤ _; omega
 clear h1 h1' h2 h2n h3 h4 hbs hsz hm hrl hd hsn hot hdis hfit hfr
 go_enter Try.func14, Try.ntmps14
 go_wp2_with fail
 refine hr.mono ?_
 clear hr
 rintro e w1 ⟨v5, rfl, hv5, hb1⟩
 obtain ⟨a5, n5, c5, rfl, hn5, hv5'⟩ := hv5.named
 obtain rfl : rl = n5 := by rw [hn5.out, HRL.out]
 have hs1 := HSZ.out w1 hb1
 have hx0 := (HTL.out.below hb1).cell (j := 0) rfl
 have hx1 := (HTL.out.below hb1).cell (j := 1) rfl
 have HV5 := Lib.hid hv5'
 have HB1 := Lib.hid hb1
 clear hv5 hv5' hn5 hb1 hx2
 go_wp2_with fail
 refine hs1.mono ?_
 rintro e w' ⟨rfl, rfl⟩
 clear hs1
 go_wp2_with fail
 have hW : IntKind.i64.wrap ((m : Int) - (fr : Int)) = (ot : Int) := by rw [IntWalk.i64_in _ (by omega)]; exact HOTE.out
 have HSQ := fun nq => Lib.hid (HSZ.out (w1.drewN nq) (below_drewN' HB1.out nq))
 go_quiet ((exact quiet_left ((HSQ _).out)))
 clear hW
 have hBQ : Below w.heap.size w (w1.drewN nq) := below_drewN' HB1.out nq
 have hVQ : OwnR encB 64 36 (w1.drewN nq) w.heap.size (.slice a5 rl c5) (rowsOf (ge + 1) 0 s) := HV5.out
 have hxq := (HTL.out.below hBQ).cell (j := 0) rfl
 have hs3 := HSZ.out _ hBQ
 have HVQ := Lib.hid hVQ
 have HBQ := Lib.hid hBQ
 clear hx0 hx1 hVQ hBQ HSQ HB1 HV5
 generalize w1.drewN nq = w2 at HVQ HBQ hxq hs3 ⊢
 clear w1
 go_wp2_with fail
 refine hs3.mono ?_
 rintro e w' ⟨rfl, rfl⟩
 clear hs3
 have hm1 : m ≤ 65536 := by omega
 go_wp2_with (first
  | (refine wpList_make_blocksT rfl (.tmp 55) (.tmp 55) rfl m hm1 rfl rfl ?_; intro w3 hht hb3)
  | fail)
 have HB3 : Hid (Below w.heap.size w w3) := HBQ.out.next hb3
 have HV3 := Lib.hid (HVQ.out.below hb3)
 have HZ3 := Lib.hid (hht.ownBl (base := w.heap.size) (m := m) List.length_replicate HBQ.out.size hm1)
 obtain ⟨gz, hgz⟩ : ∃ z, z = w2.heap.size := ⟨_, rfl⟩
 rw [← hgz] at HZ3 ⊢
 clear hht hb3 hgz hxq
 obtain ⟨gy, hgy⟩ : ∃ z, z = w3.heap.size := ⟨_, rfl⟩
 have hlit := HT.new (w := w3) (t := 75) (C := [.slice (some ⟨gz, 0, none⟩) m m, .slice a5 rl c5])
 have hba : Below w3.heap.size w3 (w3.alloc (.cells #[.slice (some ⟨gz, 0, none⟩) m m, .slice a5 rl c5] 75)) := (Below.refl _ _).alloc (Nat.le_refl _) _
 have HLIT := Lib.hid hlit
 have HBB : Hid (Below w.heap.size w (w3.alloc (.cells #[.slice (some ⟨gz, 0, none⟩) m m, .slice a5 rl c5] 75))) := HB3.out.next hba
 have HZB := Lib.hid (HZ3.out.below hba)
 rw [show List.replicate m zero64 = List.replicate (n / 2) zero64 by rw [HM.out]] at HZB
 have HRB := Lib.hid (HV3.out.below hba)
 have HGY : Hid (w.heap.size ≤ gy ∧ gy < (w3.alloc (.cells #[.slice (some ⟨gz, 0, none⟩) m m, .slice a5 rl c5] 75)).heap.size) := by show _ ∧ _; rw [hgy]; exact ⟨HB3.out.size, by simp⟩
 have HDB := Lib.hid (HD.out.below HBB.out)
 rw [← hgy] at HLIT ⊢
 clear hlit hba hgy
 generalize (w3.alloc (.cells #[.slice (some ⟨gz, 0, none⟩) m m, .slice a5 rl c5] 75)) = wb at HLIT HBB HZB HRB HGY HDB ⊢
 go_wp2_with fail
 go_loopw [60] (fun i wr => ∃ (k : Nat) (Dk : DK) (F1 : Nat → Prop), k ≤ 2 ∧ i = .int .i64 k ∧ DX wr g F1 n Dk ∧ Kept Fd wb wr ∧ (∀ q, F1 q → Fd q ∨ wb.heap.size ≤ q) ∧ Hid (dPhases D ot [List.replicate (n / 2) zero64, rowsOf (ge + 1) 0 s] = dPhases Dk ot ([List.replicate (n / 2) zero64, rowsOf (ge + 1) 0 s].drop k)) ∧ Hid (Dk.op.length ≤ 500000)) (fun i _ => 2 - (intOf i).toNat)
 case atStart => exact ⟨0, D, Fd, by omega, rfl, HDB.out, Kept.refl _ _, fun q e => .inl e, rfl, hop⟩
 case round =>
  obtain ⟨k, Dk, F1, hk, rfl, hdk, hkp, hf1, HREC, HOP⟩ := hrel
  have HDK := Lib.hid hdk
  have HK := Lib.hid hkp
  have HF1 := Lib.hid hf1
  clear hdk hkp hf1
  rcases (show k = 0 ∨ k = 1 ∨ k = 2 by omega) with rfl | rfl | rfl
  ·
   have hcell : wr.cell? ⟨gy, 0, none⟩ = some (.slice (some ⟨gz, 0, none⟩) m m) := (HT.keptJ HLIT.out HK.out (fun e => by have := HFDL.out gy e; have := HGY.out; omega)).cell (j := 0) rfl
   have hglc : ∀ w', Kept F1 wr w' → w'.cell? ⟨gl, 0, none⟩ = some (.pointer (some ⟨g, 0, none⟩)) := fun w' hk' => (HT.keptJ (HT.keptJ (HTL.out.below HBB.out) HK.out (fun e => HDIS.out gl e HGL.out)) hk' (fun e => by
    rcases HF1.out gl e with e | e
    ·
     exact HDIS.out gl e HGL.out
    ·
     have := HGLT.out; have := HBB.out.size; omega)).cell (j := 0) rfl
   have hrs : ∀ w', Kept F1 wr w' → Rs encB 64 w' (.slice (some ⟨gz, 0, none⟩) m m) (List.replicate (n / 2) zero64) := fun w' hk' => (((OwnR.keptJ HZB.out HK.out (fun q hq e => by have := OwnR.ge HZB.out q hq; have := HFDL.out q e; omega)).keptJ hk' (fun q hq e => by
    have h1 := OwnR.ge HZB.out q hq
    have h2 := OwnR.lt HZB.out q hq
    rcases HF1.out q e with e | e
    ·
     have := HFDL.out q e; omega
    ·
     omega))).rs
   have hwr := write_any wr gl g n F1 Dk HDK.out hglc ot (.slice (some ⟨gz, 0, none⟩) m m) (List.replicate (n / 2) zero64) (fun b hb => by rw [List.eq_of_mem_replicate hb]; exact zero64_length) hrs (by rw [List.length_replicate, ← HM.out]; omega) (by rw [List.length_replicate, ← HM.out]; have := HOP.out; omega)
   have hcg := hglc wr (Kept.refl _ _)
   have HGC := Lib.hid hglc
   clear hglc hrs
   obtain ⟨E1, hE1⟩ : ∃ z, z = (dWrites Dk ot (List.replicate (n / 2) zero64)).1 := ⟨_, rfl⟩
   obtain ⟨D1, hD1⟩ : ∃ z, z = (dWrites Dk ot (List.replicate (n / 2) zero64)).2 := ⟨_, rfl⟩
   rw [← hE1, ← hD1] at hwr
   have HE1 := Lib.hid hE1
   have HD1 := Lib.hid hD1
   clear hE1 hD1
   go_wp2_with fail
   refine hwr.mono ?_
   clear hwr
   rintro e w4 ⟨rfl, F2, hd4, hk4, hf4⟩
   have HK4 : Hid (Kept Fd wb w4) := HK.out.trans hk4 (fun i hi e => by
    rcases HF1.out i e with e | e
    ·
     exact e
    ·
     omega)
   have HF4 : Hid (∀ q, F2 q → Fd q ∨ wb.heap.size ≤ q) := fun q e => by
    rcases hf4 q e with e | e
    ·
     exact HF1.out q e
    ·
     have := HK.out.size; right; omega
   have hcg4 := HGC.out w4 hk4
   have HD4 := Lib.hid hd4
   clear hd4 hk4 hf4
   by_cases h0 : E1 = 0
   ·
    have h01 : ((E1 : Int) == 0) = true := by rw [h0]; rfl
    have H0 := Lib.hid h0
    clear h0
    have hsy := Sync_x w4 g n F2 D1 HD4.out
    obtain ⟨E, hE⟩ : ∃ z, z = (dSync D1).1 := ⟨_, rfl⟩
    obtain ⟨Dn, hDn⟩ : ∃ z, z = (dSync D1).2 := ⟨_, rfl⟩
    rw [← hE, ← hDn] at hsy
    have HE := Lib.hid hE
    have HDN0 := Lib.hid hDn
    have HPH : Hid (dPhase Dk ot (List.replicate (n / 2) zero64) = (E, Dn)) := by
     show _ = _
     unfold dPhase
     rw [if_pos (by rw [← HE1.out]; exact H0.out), ← HD1.out, HE.out, HDN0.out]
    clear hE hDn
    go_wp2_with fail
    refine hsy.mono ?_
    clear hsy
    rintro e w5 ⟨rfl, F3, hd5, hk5, hf5⟩
    have HKN : Hid (Kept Fd wb w5) := HK4.out.trans hk5 (fun i hi e => by
     rcases HF4.out i e with e | e
     ·
      exact e
     ·
      omega)
    have HFN : Hid (∀ q, F3 q → Fd q ∨ wb.heap.size ≤ q) := fun q e => by
     rcases hf5 q e with e | e
     ·
      exact HF4.out q e
     ·
      have := HK4.out.size; right; omega
    have HDN := Lib.hid hd5
    clear hd5 hk5 hf5
    by_cases h00 : E = 0
    ·
     have h02 : ((E : Int) != 0) = false := by rw [h00]; rfl
     have H00 := Lib.hid h00
     clear h00
     go_wp2_with fail
     refine ⟨⟨0 + 1, Dn, F3, by omega, rfl, HDN.out, HKN.out, HFN.out, ?_, ?_⟩, by simp [intOf]⟩
     ·
      show _ = _
      rw [HREC.out]
      show dPhases Dk ot (_ :: _) = _
      rw [dPhases_ok (by rw [HPH.out]; exact H00.out), HPH.out]
      rfl
     ·
      show _ ≤ _
      rw [HDN0.out, dSync_done (by rw [← HE.out]; exact H00.out)]
      exact Nat.zero_le _
    ·
     have h02 : ((E : Int) != 0) = true := by rw [bne_iff_ne]; exact h00
     have H00 := Lib.hid h00
     clear h00
     have HFIN : Hid (dPhases D ot [List.replicate (n / 2) zero64, rowsOf (ge + 1) 0 s] = (E, Dn)) := by
      show _ = _
      rw [HREC.out]
      show dPhases Dk ot (_ :: _) = _
      rw [dPhases_stop (by rw [HPH.out]; exact H00.out), HPH.out]
     go_wp2_with fail
     go_ret
     have hres : dPhases D ot [List.replicate (n / 2) zero64, rowsOf (ge + 1) 0 s] = (E, Dn) := HFIN.out
     unfold BeginPost
     rw [show ((LT.mk fr ⟨ge, sn, rc, fi⟩ bg).half.gen) = ge from rfl, show n / 2 - (LT.mk fr ⟨ge, sn, rc, fi⟩ bg).from_ = ot from HOT.out.symm, hres]
     refine ⟨rfl, ?_⟩
     show JPost _ _ _ _ _ _ _ (if E = 0 then _ else _) _
     rw [if_neg H00.out]
     exact JPost.quit HLX.out HDN.out HBB.out HKN.out HFN.out HDIS.out
   ·
    have h01 : ((E1 : Int) == 0) = false := by rw [beq_eq_false_iff_ne]; exact h0
    have h02 : ((E1 : Int) != 0) = true := by rw [bne_iff_ne]; exact h0
    have H00 := Lib.hid h0
    clear h0
    have HFIN : Hid (dPhases D ot [List.replicate (n / 2) zero64, rowsOf (ge + 1) 0 s] = (E1, D1)) := by
     have hph : dPhase Dk ot (List.replicate (n / 2) zero64) = (E1, D1) := by
      unfold dPhase
      rw [if_neg (by rw [← HE1.out]; exact H00.out), HE1.out, HD1.out]
     show _ = _
     rw [HREC.out]
     show dPhases Dk ot (_ :: _) = _
     rw [dPhases_stop (by rw [hph]; exact H00.out), hph]
    have HDN := HD4
    have HKN := HK4
    have HFN := HF4
    go_wp2_with fail
    go_ret
    have hres : dPhases D ot [List.replicate (n / 2) zero64, rowsOf (ge + 1) 0 s] = (E1, D1) := HFIN.out
    unfold BeginPost
    rw [show ((LT.mk fr ⟨ge, sn, rc, fi⟩ bg).half.gen) = ge from rfl, show n / 2 - (LT.mk fr ⟨ge, sn, rc, fi⟩ bg).from_ = ot from HOT.out.symm, hres]
    refine ⟨rfl, ?_⟩
    show JPost _ _ _ _ _ _ _ (if E1 = 0 then _ else _) _
    rw [if_neg H00.out]
    exact JPost.quit HLX.out HDN.out HBB.out HKN.out HFN.out HDIS.out
  ·
   have hcell : wr.cell? ⟨gy, 1, none⟩ = some (.slice a5 rl c5) := (HT.keptJ HLIT.out HK.out (fun e => by have := HFDL.out gy e; have := HGY.out; omega)).cell (j := 1) rfl
   have hglc : ∀ w', Kept F1 wr w' → w'.cell? ⟨gl, 0, none⟩ = some (.pointer (some ⟨g, 0, none⟩)) := fun w' hk' => (HT.keptJ (HT.keptJ (HTL.out.below HBB.out) HK.out (fun e => HDIS.out gl e HGL.out)) hk' (fun e => by
    rcases HF1.out gl e with e | e
    ·
     exact HDIS.out gl e HGL.out
    ·
     have := HGLT.out; have := HBB.out.size; omega)).cell (j := 0) rfl
   have hrs : ∀ w', Kept F1 wr w' → Rs encB 64 w' (.slice a5 rl c5) (rowsOf (ge + 1) 0 s) := fun w' hk' => (((OwnR.keptJ HRB.out HK.out (fun q hq e => by have := OwnR.ge HRB.out q hq; have := HFDL.out q e; omega)).keptJ hk' (fun q hq e => by
    have h1 := OwnR.ge HRB.out q hq
    have h2 := OwnR.lt HRB.out q hq
    rcases HF1.out q e with e | e
    ·
     have := HFDL.out q e; omega
    ·
     omega))).rs
   have hwr := write_any wr gl g n F1 Dk HDK.out hglc ot (.slice a5 rl c5) (rowsOf (ge + 1) 0 s) (rowsOf_64) hrs (by rw [← HRL.out]; omega) (by rw [← HRL.out]; have := HOP.out; omega)
   have hcg := hglc wr (Kept.refl _ _)
   have HGC := Lib.hid hglc
   clear hglc hrs
   obtain ⟨E1, hE1⟩ : ∃ z, z = (dWrites Dk ot (rowsOf (ge + 1) 0 s)).1 := ⟨_, rfl⟩
   obtain ⟨D1, hD1⟩ : ∃ z, z = (dWrites Dk ot (rowsOf (ge + 1) 0 s)).2 := ⟨_, rfl⟩
   rw [← hE1, ← hD1] at hwr
   have HE1 := Lib.hid hE1
   have HD1 := Lib.hid hD1
   clear hE1 hD1
   go_wp2_with fail
   refine hwr.mono ?_
   clear hwr
   rintro e w4 ⟨rfl, F2, hd4, hk4, hf4⟩
   have HK4 : Hid (Kept Fd wb w4) := HK.out.trans hk4 (fun i hi e => by
    rcases HF1.out i e with e | e
    ·
     exact e
    ·
     omega)
   have HF4 : Hid (∀ q, F2 q → Fd q ∨ wb.heap.size ≤ q) := fun q e => by
    rcases hf4 q e with e | e
    ·
     exact HF1.out q e
    ·
     have := HK.out.size; right; omega
   have hcg4 := HGC.out w4 hk4
   have HD4 := Lib.hid hd4
   clear hd4 hk4 hf4
   by_cases h0 : E1 = 0
   ·
    have h01 : ((E1 : Int) == 0) = true := by rw [h0]; rfl
    have H0 := Lib.hid h0
    clear h0
    have hsy := Sync_x w4 g n F2 D1 HD4.out
    obtain ⟨E, hE⟩ : ∃ z, z = (dSync D1).1 := ⟨_, rfl⟩
    obtain ⟨Dn, hDn⟩ : ∃ z, z = (dSync D1).2 := ⟨_, rfl⟩
    rw [← hE, ← hDn] at hsy
    have HE := Lib.hid hE
    have HDN0 := Lib.hid hDn
    have HPH : Hid (dPhase Dk ot (rowsOf (ge + 1) 0 s) = (E, Dn)) := by
     show _ = _
     unfold dPhase
     rw [if_pos (by rw [← HE1.out]; exact H0.out), ← HD1.out, HE.out, HDN0.out]
    clear hE hDn
    go_wp2_with fail
    refine hsy.mono ?_
    clear hsy
    rintro e w5 ⟨rfl, F3, hd5, hk5, hf5⟩
    have HKN : Hid (Kept Fd wb w5) := HK4.out.trans hk5 (fun i hi e => by
     rcases HF4.out i e with e | e
     ·
      exact e
     ·
      omega)
    have HFN : Hid (∀ q, F3 q → Fd q ∨ wb.heap.size ≤ q) := fun q e => by
     rcases hf5 q e with e | e
     ·
      exact HF4.out q e
     ·
      have := HK4.out.size; right; omega
    have HDN := Lib.hid hd5
    clear hd5 hk5 hf5
    by_cases h00 : E = 0
    ·
     have h02 : ((E : Int) != 0) = false := by rw [h00]; rfl
     have H00 := Lib.hid h00
     clear h00
     go_wp2_with fail
     refine ⟨⟨1 + 1, Dn, F3, by omega, rfl, HDN.out, HKN.out, HFN.out, ?_, ?_⟩, by simp [intOf]⟩
     ·
      show _ = _
      rw [HREC.out]
      show dPhases Dk ot (_ :: _) = _
      rw [dPhases_ok (by rw [HPH.out]; exact H00.out), HPH.out]
      rfl
     ·
      show _ ≤ _
      rw [HDN0.out, dSync_done (by rw [← HE.out]; exact H00.out)]
      exact Nat.zero_le _
    ·
     have h02 : ((E : Int) != 0) = true := by rw [bne_iff_ne]; exact h00
     have H00 := Lib.hid h00
     clear h00
     have HFIN : Hid (dPhases D ot [List.replicate (n / 2) zero64, rowsOf (ge + 1) 0 s] = (E, Dn)) := by
      show _ = _
      rw [HREC.out]
      show dPhases Dk ot (_ :: _) = _
      rw [dPhases_stop (by rw [HPH.out]; exact H00.out), HPH.out]
     go_wp2_with fail
     go_ret
     have hres : dPhases D ot [List.replicate (n / 2) zero64, rowsOf (ge + 1) 0 s] = (E, Dn) := HFIN.out
     unfold BeginPost
     rw [show ((LT.mk fr ⟨ge, sn, rc, fi⟩ bg).half.gen) = ge from rfl, show n / 2 - (LT.mk fr ⟨ge, sn, rc, fi⟩ bg).from_ = ot from HOT.out.symm, hres]
     refine ⟨rfl, ?_⟩
     show JPost _ _ _ _ _ _ _ (if E = 0 then _ else _) _
     rw [if_neg H00.out]
     exact JPost.quit HLX.out HDN.out HBB.out HKN.out HFN.out HDIS.out
   ·
    have h01 : ((E1 : Int) == 0) = false := by rw [beq_eq_false_iff_ne]; exact h0
    have h02 : ((E1 : Int) != 0) = true := by rw [bne_iff_ne]; exact h0
    have H00 := Lib.hid h0
    clear h0
    have HFIN : Hid (dPhases D ot [List.replicate (n / 2) zero64, rowsOf (ge + 1) 0 s] = (E1, D1)) := by
     have hph : dPhase Dk ot (rowsOf (ge + 1) 0 s) = (E1, D1) := by
      unfold dPhase
      rw [if_neg (by rw [← HE1.out]; exact H00.out), HE1.out, HD1.out]
     show _ = _
     rw [HREC.out]
     show dPhases Dk ot (_ :: _) = _
     rw [dPhases_stop (by rw [hph]; exact H00.out), hph]
    have HDN := HD4
    have HKN := HK4
    have HFN := HF4
    go_wp2_with fail
    go_ret
    have hres : dPhases D ot [List.replicate (n / 2) zero64, rowsOf (ge + 1) 0 s] = (E1, D1) := HFIN.out
    unfold BeginPost
    rw [show ((LT.mk fr ⟨ge, sn, rc, fi⟩ bg).half.gen) = ge from rfl, show n / 2 - (LT.mk fr ⟨ge, sn, rc, fi⟩ bg).from_ = ot from HOT.out.symm, hres]
    refine ⟨rfl, ?_⟩
    show JPost _ _ _ _ _ _ _ (if E1 = 0 then _ else _) _
    rw [if_neg H00.out]
    exact JPost.quit HLX.out HDN.out HBB.out HKN.out HFN.out HDIS.out
  ·
   have HFIN : Hid (dPhases D ot [List.replicate (n / 2) zero64, rowsOf (ge + 1) 0 s] = (0, Dk)) := HREC.out
   have HLL := Lib.hid (HT.keptJ (HTL.out.below HBB.out) HK.out (fun e => HDIS.out gl e HGL.out))
   have HL2 := Lib.hid (HLL.out.cell (j := 2) rfl)
   have HKW := HK
   have HKL := Lib.hid (Kept.pre HBB.out HK.out)
   have HSN := HSN0
   have HSZL : Hid (w.heap.size ≤ wr.heap.size) := Nat.le_trans HBB.out.size HK.out.size
   have HWR : Hid (IntKind.i64.wrap ((ge : Int) + 1) = (ge : Int) + 1) := IntWalk.i64_in _ (by omega)
   obtain ⟨wl, hwl⟩ : ∃ z, z = wr := ⟨_, rfl⟩
   rw [← hwl] at HLL HL2 HKW HKL HSZL HDK ⊢
   clear hwl
   go_upto_region 18 with fail
   refine wp_region_bl 15 (by kernel_rfl) ?_
   refine wpAnyU_take (i := 0) (oi := { dst := some 79, op := Op.move (Operand.tmp 0), type := 30, pos := "journal.go:131", after := #[], guard := none }) (v := (.pointer (some ⟨gl, 0, none⟩))) rfl (by kernel_rfl) (by kernel_rfl) (by kernel_rfl) (by kernel_rfl) (by kernel_rfl) (fun _ _ _ h => h) (BL.cls wl) ?_ ?_
   ·
    refine Or.inl ⟨rfl, fun w hSw => ?_⟩
    exact EffR.same (by go_simp)
   try simp only [Act.put, zA, zB, zC]
   refine wpAnyU_take (i := 1) (oi := { dst := some 80, op := Op.move (Operand.tmp 7), type := 3, pos := "journal.go:131", after := #[], guard := none }) (v := (.int .i64 (ot : Int))) rfl (by kernel_rfl) (by kernel_rfl) (by kernel_rfl) (by kernel_rfl) (by kernel_rfl) (fun _ _ _ h => h) (BL.cls wl) ?_ ?_
   ·
    refine Or.inl ⟨rfl, fun w hSw => ?_⟩
    exact EffR.same (by go_simp)
   try simp only [Act.put, zA, zB, zC]
   refine wpAnyU_take (i := 2) (oi := { dst := some 81, op := Op.move (Operand.tmp 0), type := 30, pos := "journal.go:131", after := #[], guard := none }) (v := (.pointer (some ⟨gl, 0, none⟩))) rfl (by kernel_rfl) (by kernel_rfl) (by kernel_rfl) (by kernel_rfl) (by kernel_rfl) (fun _ _ _ h => h) (BL.cls wl) ?_ ?_
   ·
    refine Or.inl ⟨rfl, fun w hSw => ?_⟩
    exact EffR.same (by go_simp)
   try simp only [Act.put, zA, zB, zC]
   refine wpAnyU_take (i := 3) (oi := { dst := some 82, op := Op.nilCheck (Operand.tmp 81), type := 0, pos := "journal.go:131", after := #[{ on := 2, ground := Ground.data }], guard := none }) (v := (.pointer (some ⟨gl, 0, none⟩))) rfl (by kernel_rfl) (by kernel_rfl) (by kernel_rfl) (by kernel_rfl) (by kernel_rfl) (fun _ _ _ h => h) (BL.cls wl) ?_ ?_
   ·
    refine Or.inl ⟨rfl, fun w hSw => ?_⟩
    exact EffR.same (by go_simp)
   try simp only [Act.put, zA, zB, zC]
   refine wpAnyU_take (i := 4) (oi := { dst := some 83, op := Op.fieldAddr 89 (Operand.tmp 82) 1, type := 0, pos := "journal.go:131", after := #[{ on := 3, ground := Ground.data }], guard := none }) (v := (.pointer (some ⟨gl, 1, none⟩))) rfl (by kernel_rfl) (by kernel_rfl) (by kernel_rfl) (by kernel_rfl) (by kernel_rfl) (fun _ _ _ h => h) (BL.cls wl) ?_ ?_
   ·
    refine Or.inl ⟨rfl, fun w hSw => ?_⟩
    exact EffR.same (by go_simp)
   try simp only [Act.put, zA, zB, zC]
   refine wpAnyU_take (i := 5) (oi := { dst := some 84, op := Op.fieldAddr 84 (Operand.tmp 83) 1, type := 0, pos := "journal.go:131", after := #[{ on := 4, ground := Ground.data }], guard := none }) (v := (.pointer (some ⟨gl, 2, none⟩))) rfl (by kernel_rfl) (by kernel_rfl) (by kernel_rfl) (by kernel_rfl) (by kernel_rfl) (fun _ _ _ h => h) (BL.cls wl) ?_ ?_
   ·
    refine Or.inl ⟨rfl, fun w hSw => ?_⟩
    exact EffR.same (by go_simp)
   try simp only [Act.put, zA, zB, zC]
   refine wpAnyU_take (i := 6) (oi := { dst := some 85, op := Op.load 3 (Operand.tmp 84), type := 3, pos := "journal.go:131", after := #[{ on := 5, ground := Ground.data }], guard := none }) (v := (.int .i64 (ge : Int))) rfl (by kernel_rfl) (by kernel_rfl) (by kernel_rfl) (by kernel_rfl) (by kernel_rfl) (fun _ _ _ h => h) (BL.cls wl) ?_ ?_
   ·
    refine Or.inl ⟨rfl, fun w hSw => ?_⟩
    have e0 := BL.cell hSw HL2.out
    exact EffR.same (by go_simp)
   try simp only [Act.put, zA, zB, zC]
   refine wpAnyU_take (i := 7) (oi := { dst := some 86, op := Op.binOp BinOp.add 3 (Operand.tmp 85) (Operand.const (Value.int IntKind.i64 1)) 3, type := 3, pos := "journal.go:131", after := #[{ on := 6, ground := Ground.data }], guard := none }) (v := (.int .i64 ((ge : Int) + 1))) rfl (by kernel_rfl) (by kernel_rfl) (by kernel_rfl) (by kernel_rfl) (by kernel_rfl) (fun _ _ _ h => h) (BL.cls wl) ?_ ?_
   ·
    refine Or.inl ⟨rfl, fun w hSw => ?_⟩
    have e0 := HWR.out
    exact EffR.same (by go_simp)
   try simp only [Act.put, zA, zB, zC]
   refine wpAnyU_take (i := 8) (oi := { dst := some 87, op := Op.move (Operand.tmp 1), type := 22, pos := "journal.go:131", after := #[], guard := none }) (v := (v)) rfl (by kernel_rfl) (by kernel_rfl) (by kernel_rfl) (by kernel_rfl) (by kernel_rfl) (fun _ _ _ h => h) (BL.cls wl) ?_ ?_
   ·
    refine Or.inl ⟨rfl, fun w hSw => ?_⟩
    exact EffR.same (by go_simp)
   try simp only [Act.put, zA, zB, zC]
   refine wpAnyU_take (i := 10) (oi := { dst := some 89, op := Op.move (Operand.tmp 5), type := 75, pos := "journal.go:131", after := #[], guard := none }) (v := (.slice a5 rl c5)) rfl (by kernel_rfl) (by kernel_rfl) (by kernel_rfl) (by kernel_rfl) (by kernel_rfl) (fun _ _ _ h => h) (BL.cls wl) ?_ ?_
   ·
    refine Or.inl ⟨rfl, fun w hSw => ?_⟩
    exact EffR.same (by go_simp)
   try simp only [Act.put, zA, zB, zC]
   refine wpAnyU_take (i := 11) (oi := { dst := some 90, op := Op.call { callee := Callee.builtin Builtin.len, args := #[Operand.tmp 89], argTypes := #[75] }, type := 3, pos := "journal.go:131", after := #[{ on := 10, ground := Ground.data }], guard := none }) (v := (.int .i64 (rl : Int))) rfl (by kernel_rfl) (by kernel_rfl) (by kernel_rfl) (by kernel_rfl) (by kernel_rfl) (fun _ _ _ h => h) (BL.cls wl) ?_ ?_
   ·
    refine Or.inl ⟨rfl, fun w hSw => ?_⟩
    exact EffR.same (by go_simp)
   try simp only [Act.put, zA, zB, zC]
   refine wpAnyU_ready (rs := [9]) (by kernel_rfl) (by simp) ?_
   refine AllReadyU.cons (o := { dst := some 88, op := Op.call { callee := Callee.value (Operand.func 45), args := #[Operand.tmp 87], argTypes := #[22] }, type := 22, pos := "journal.go:131", after := #[{ on := 8, ground := Ground.data }], guard := none }) rfl (fun wA9 hA9 K hK => ?_) AllReadyU.nil
   have hcl := BClone_any wA9 v s (HSN.out wA9 ((HKL.out.next hA9))) HS.out
   go_simp
   refine hcl.mono ?_
   rintro e0 w5 ⟨vS, rfl, hvS, hb5⟩
   obtain ⟨p1, p2, p3, rfl, _, hvS2⟩ := hvS.named
   refine hK.out _ _ (fun x => BL wl x ∧ OwnB 5 x wl.heap.size (.slice p1 p2 p3) s) (Cls.and (BL.cls wl) (fun _ _ h hb => OwnB.below h hb)) ⟨Below.next hA9 hb5, hvS2.base (Below.size hA9)⟩ ?_
   clear hcl hvS hvS2 hb5
   clear hK K
   try simp only [Act.put, zA, zB, zC]
   refine wpAnyU_take (i := 12) (oi := { dst := some 91, op := Op.build 84 #[(0, Operand.tmp 80), (1, Operand.tmp 86), (2, Operand.tmp 88), (4, Operand.tmp 90)], type := 84, pos := "journal.go:131", after := #[{ on := 1, ground := Ground.data }, { on := 7, ground := Ground.data }, { on := 9, ground := Ground.data }, { on := 11, ground := Ground.data }], guard := none }) (v := (.agg #[.int .i64 (ot : Int), .int .i64 ((ge : Int) + 1), .slice p1 p2 p3, .slice none 0 0, .int .i64 (rl : Int)])) rfl (by kernel_rfl) (by kernel_rfl) (by kernel_rfl) (by kernel_rfl) (by kernel_rfl) (fun _ _ _ h => h) (Cls.and (BL.cls wl) (fun _ _ h hb => OwnB.below h hb)) ?_ ?_
   ·
    refine Or.inl ⟨rfl, fun w hSw => ?_⟩
    exact EffR.same (by go_simp)
   try simp only [Act.put, zA, zB, zC]
   refine wpAnyU_take (i := 13) (oi := { dst := some 92, op := Op.nilCheck (Operand.tmp 79), type := 0, pos := "journal.go:131", after := #[{ on := 0, ground := Ground.data }, { on := 0, ground := Ground.phase }, { on := 1, ground := Ground.phase }, { on := 2, ground := Ground.phase }, { on := 3, ground := Ground.phase }, { on := 4, ground := Ground.phase }, { on := 5, ground := Ground.phase }, { on := 6, ground := Ground.phase }, { on := 7, ground := Ground.phase }, { on := 8, ground := Ground.phase }, { on := 9, ground := Ground.phase }, { on := 10, ground := Ground.phase }, { on := 11, ground := Ground.phase }, { on := 12, ground := Ground.phase }], guard := none }) (v := (.pointer (some ⟨gl, 0, none⟩))) rfl (by kernel_rfl) (by kernel_rfl) (by kernel_rfl) (by kernel_rfl) (by kernel_rfl) (fun _ _ _ h => h) (Cls.and (BL.cls wl) (fun _ _ h hb => OwnB.below h hb)) ?_ ?_
   ·
    refine Or.inl ⟨rfl, fun w hSw => ?_⟩
    exact EffR.same (by go_simp)
   try simp only [Act.put, zA, zB, zC]
   refine wpAnyU_take (i := 14) (oi := { dst := some 93, op := Op.fieldAddr 89 (Operand.tmp 92) 1, type := 0, pos := "journal.go:131", after := #[{ on := 13, ground := Ground.data }, { on := 0, ground := Ground.phase }, { on := 1, ground := Ground.phase }, { on := 2, ground := Ground.phase }, { on := 3, ground := Ground.phase }, { on := 4, ground := Ground.phase }, { on := 5, ground := Ground.phase }, { on := 6, ground := Ground.phase }, { on := 7, ground := Ground.phase }, { on := 8, ground := Ground.phase }, { on := 9, ground := Ground.phase }, { on := 10, ground := Ground.phase }, { on := 11, ground := Ground.phase }, { on := 12, ground := Ground.phase }], guard := none }) (v := (.pointer (some ⟨gl, 1, none⟩))) rfl (by kernel_rfl) (by kernel_rfl) (by kernel_rfl) (by kernel_rfl) (by kernel_rfl) (fun _ _ _ h => h) (Cls.and (BL.cls wl) (fun _ _ h hb => OwnB.below h hb)) ?_ ?_
   ·
    refine Or.inl ⟨rfl, fun w hSw => ?_⟩
    exact EffR.same (by go_simp)
   try simp only [Act.put, zA, zB, zC]
   refine wpAnyU_last (o := { dst := none, op := Op.store 84 (Operand.tmp 93) (Operand.tmp 91), type := 0, pos := "journal.go:131", after := #[{ on := 14, ground := Ground.data }, { on := 12, ground := Ground.data }, { on := 9, ground := Ground.chain }, { on := 0, ground := Ground.phase }, { on := 1, ground := Ground.phase }, { on := 2, ground := Ground.phase }, { on := 3, ground := Ground.phase }, { on := 4, ground := Ground.phase }, { on := 5, ground := Ground.phase }, { on := 6, ground := Ground.phase }, { on := 7, ground := Ground.phase }, { on := 8, ground := Ground.phase }, { on := 9, ground := Ground.phase }, { on := 10, ground := Ground.phase }, { on := 11, ground := Ground.phase }, { on := 12, ground := Ground.phase }], guard := none }) (by kernel_rfl) (by kernel_rfl) rfl (fun w1 hb1 K hK => ?_)
   have hx := HT.below HLL.out hb1.1
   refine step_store_mid rfl 84 (.tmp 93) (.tmp 91) rfl gl 1 [.int .i64 (ot : Int), .int .i64 ((ge : Int) + 1), .slice p1 p2 p3, .slice none 0 0, .int .i64 (rl : Int)] rfl rfl (fun j hj => ⟨hx.isSome (by simp at hj ⊢; omega), hx.frozen _⟩) (by rw [half5]; rfl) (by simp [Value.oneCell']) ?_
   have HX3 : Hid (HT (w1.setCells gl 1 [.int .i64 (ot : Int), .int .i64 ((ge : Int) + 1), .slice p1 p2 p3, .slice none 0 0, .int .i64 (rl : Int)]) gl 89 [.pointer (some ⟨g, 0, none⟩), .int .i64 (ot : Int), .int .i64 ((ge : Int) + 1), .slice p1 p2 p3, .slice none 0 0, .int .i64 (rl : Int), .bool bg]) := hx.puts (o := 1) (vs := [.int .i64 (ot : Int), .int .i64 ((ge : Int) + 1), .slice p1 p2 p3, .slice none 0 0, .int .i64 (rl : Int)]) (by simp)
   have HK3 := Lib.hid ((setCells_kept gl [.int .i64 (ot : Int), .int .i64 ((ge : Int) + 1), .slice p1 p2 p3, .slice none 0 0, .int .i64 (rl : Int)] 1 w1))
   clear hx
   refine hK.out _ _ ?_
   clear hK K
   try simp only [Act.put]
   obtain ⟨w2, hw2⟩ : ∃ z, z = w1.setCells gl 1 [.int .i64 (ot : Int), .int .i64 ((ge : Int) + 1), .slice p1 p2 p3, .slice none 0 0, .int .i64 (rl : Int)] := ⟨_, rfl⟩
   rw [← hw2] at HX3 HK3 ⊢
   have HB1 := Lib.hid hb1.1
   have HV1 := Lib.hid hb1.2
   clear hw2 hb1
   have c6 := HX3.out.cell (j := 6) rfl
   have f6 := HX3.out.frozen 6
   have HX4 : Hid (HT (w2.setCell ⟨gl, 6, none⟩ (.bool true)) gl 89 [.pointer (some ⟨g, 0, none⟩), .int .i64 (ot : Int), .int .i64 ((ge : Int) + 1), .slice p1 p2 p3, .slice none 0 0, .int .i64 (rl : Int), .bool true]) := HX3.out.put 6 (.bool true)
   have HK4 : Hid (Kept (fun q => q = gl) w1 (w2.setCell ⟨gl, 6, none⟩ (.bool true))) := HK3.out.setCell ⟨gl, 6, none⟩ (.bool true) rfl
   go_wp2_with fail
   go_ret
   have hres : dPhases D ot [List.replicate (n / 2) zero64, rowsOf (ge + 1) 0 s] = (0, Dk) := HFIN.out
   unfold BeginPost
   rw [show ((LT.mk fr ⟨ge, sn, rc, fi⟩ bg).half.gen) = ge from rfl, show n / 2 - (LT.mk fr ⟨ge, sn, rc, fi⟩ bg).from_ = ot from HOT.out.symm, hres]
   refine ⟨rfl, ?_⟩
   show JPost _ _ _ _ _ _ _ (if (0 : Int) = 0 then _ else _) _
   rw [if_pos rfl]
   have hkA : Kept Fd wb w1 := HKW.out.next HB1.out
   have hkE := HK4.out
   have hgF : ¬ F1 gl := fun e => by
    rcases HF1.out gl e with e | e
    ·
     exact HDIS.out gl e HGL.out
    ·
     have := HGLT.out; have := HBB.out.size; omega
   refine ⟨F1, fun q => q = gl ∨ (Value.slice p1 p2 p3).ownBlock = some q, ?_, ?_, ?_, ?_, ?_⟩
   ·
    exact (HDK.out.below HB1.out).kept hkE (fun q e1 e2 => hgF (by rw [← e2]; exact e1))
   ·
    refine ⟨.slice p1 p2 p3, .slice none 0 0, ?_, ⟨?_, fun q e => .inr e, recsM.nil _ _⟩, .inl rfl, fun q e => ?_⟩
    ·
     rw [← HRL.out]
     exact HX4.out
    ·
     exact (HV1.out.keptJ hkE (fun q hq e => by have := OwnB.ge HV1.out q hq; have := HGLT.out; have := HSZL.out; omega)).base (Nat.zero_le _)
    ·
     rcases e with e | e
     ·
      rw [e]; exact HX4.out.lt
     ·
      exact Nat.lt_of_lt_of_le (OwnB.lt HV1.out q e) hkE.size
   ·
    intro q e1 e2
    rcases e2 with e2 | e2
    ·
     exact hgF (by rw [← e2]; exact e1)
    ·
     have h1 := OwnB.ge HV1.out q e2
     have h2 := HDK.out.lt q e1
     omega
   ·
    have h1 : Kept (fun k => Fd k ∨ Fl k) w w1 := (Kept.pre HBB.out hkA).weaken (fun q e => .inl e)
    exact h1.trans hkE (fun i _ e => by rw [e]; exact .inr HGL.out)
   ·
    intro q e
    have hsb := HBB.out.size
    rcases e with e | e | e
    ·
     rcases HF1.out q e with e | e
     ·
      exact .inl e
     ·
      exact .inr (.inr (by omega))
    ·
     exact .inr (.inl (by rw [e]; exact HGL.out))
    ·
     have h1 := OwnB.ge HV1.out q e
     have h2 := HSZL.out
     exact .inr (.inr (by omega))
theorem Begin_full (w : World) (gl g n : Nat) (Fd Fl : Nat → Prop) (D : DK) (T : LT) (hd : DX w g Fd n D) (hl : LX w gl Fl g T) (v : Value) (s : List UInt8) (hbs : Bs w v s)
  (hgen : T.half.gen < 1099511627776) (hs : s.length ≤ 65536) (hfit : n / 2 < (rowsOf (T.half.gen + 1) 0 s).length) :
  Calls Try.prog 14 #[.pointer (some ⟨gl, 0, none⟩), v] w fun e w' => e = .returned (.int .i64 9) ∧ Below w.heap.size w w' := by
 obtain ⟨vsn, vrc, h1, h2, h3, h4⟩ := hl
 have hx2 := h1.cell (j := 2) rfl
 have hr := rowed_ok w v (T.half.gen + 1) 0 s hbs (by omega) (by omega) hs
 rw [Int.natCast_add, show ((1 : Nat) : Int) = 1 from rfl, show ((0 : Nat) : Int) = 0 from rfl] at hr
 obtain ⟨ge, hge⟩ : ∃ z, z = T.half.gen := ⟨_, rfl⟩
 rw [← hge] at hgen hr hfit hx2
 have hgb : (0 : Int) ≤ ge ∧ (ge : Int) < 1099511627776 := by omega
 have hge2 : decide ((1099511627776 : Int) ≤ (ge : Int)) = false := by simp; omega
 have hn1 := hd.ok.n1
 obtain ⟨m, hm⟩ : ∃ z, z = n / 2 := ⟨_, rfl⟩
 obtain ⟨rl, hrl⟩ : ∃ z, z = (rowsOf (ge + 1) 0 s).length := ⟨_, rfl⟩
 have hrlm : rl ≤ 1058 := by rw [hrl, rowsOf_length]; unfold needN; omega
 have hrlN : decide (m < rl) = true := by simp; omega
 have hrlc : decide ((m : Int) < (rl : Int)) = true := by simp; omega
 have HRL := Lib.hid hrl
 have HTL := Lib.hid h1
 have hsz := fun w' (hb : Below w.heap.size w w') => size_any w' g n Fd D (hd.below hb)
 rw [← hm] at hsz
 have HSZ := Lib.hid hsz
 clear h1 h2 h3 h4 hm hrl hsz hd hge hbs hfit hgen
 go_enter Try.func14, Try.ntmps14
 go_wp2_with fail
 refine hr.mono ?_
 clear hr
 rintro e w1 ⟨v5, rfl, hv5, hb1⟩
 obtain ⟨a5, n5, c5, rfl, hn5, hv5'⟩ := hv5.named
 obtain rfl : rl = n5 := by rw [hn5.out, HRL.out]
 have hs1 := HSZ.out w1 hb1
 have hx0 := (HTL.out.below hb1).cell (j := 0) rfl
 have HB1 := Lib.hid hb1
 clear hv5 hv5' hn5 hb1 hx2
 go_wp2_with fail
 refine hs1.mono ?_
 rintro e w' ⟨rfl, rfl⟩
 clear hs1
 go_wp2_with fail
 go_ret
 exact ⟨rfl, HB1.out⟩
end Cam
