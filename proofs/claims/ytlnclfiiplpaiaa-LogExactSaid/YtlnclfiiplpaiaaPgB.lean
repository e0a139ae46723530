import Derived.Test.YtlnclfiiplpaiaaPgW
/- the page's journal: Begin. -/
namespace Cam
open Go Go.RowKit Go.Proofs
def PJPost (w : World) (g gl : Nat) (Fd Fl : Nat → Prop) (n : Nat) (D : DK) (hf : Nat) (T : LT) (w' : World) : Prop :=
 ∃ Fd' Fl', PX w' g Fd' n D ∧ PLX w' gl hf Fl' g T ∧ (∀ k, Fd' k → ¬ Fl' k) ∧ Kept (fun k => Fd k ∨ Fl k) w w' ∧ ∀ k, Fd' k ∨ Fl' k → Fd k ∨ Fl k ∨ w.heap.size ≤ k
theorem PJPost.quit {w w' : World} {g gl n hf : Nat} {Fd Fl F1 : Nat → Prop} {D : DK} {T : LT} (hl : PLX w gl hf Fl g T) (hd : PX w' g F1 n D) (hk : Kept Fd w w') (hF : ∀ k, F1 k → Fd k ∨ w.heap.size ≤ k) (hdis : ∀ k, Fd k → ¬ Fl k) :
  PJPost w g gl Fd Fl n D hf T w' := by
 refine ⟨F1, Fl, hd, hl.kept hk (fun q e1 e2 => hdis q e2 e1), fun q e1 e2 => ?_, hk.weaken (fun q e => .inl e), fun q e => ?_⟩
 ·
  rcases hF q e1 with e | e
  ·
   exact hdis q e e2
  ·
   have := hl.lt q e2; omega
 ·
  rcases e with e | e
  ·
   rcases hF q e with e | e
   ·
    exact .inl e
   ·
    exact .inr (.inr e)
  ·
   exact .inr (.inl e)
def PBegRes (w : World) (g gl : Nat) (Fd Fl : Nat → Prop) (n hf : Nat) (T : LT) (hf2 : Nat) (T2 : LT) (PH : Int × DK) (e : Ending) (w' : World) : Prop :=
 e = .returned (.int .i64 PH.1) ∧ PJPost w g gl Fd Fl n PH.2 (if PH.1 = 0 then hf2 else hf) (if PH.1 = 0 then T2 else T) w'
theorem PBegRes.ok {w w' : World} {g gl n hf hf2 : Nat} {Fd Fl : Nat → Prop} {T T2 : LT} {PH : Int × DK} {e : Ending} (h0 : PH.1 = 0) (he : e = .returned (.int .i64 PH.1)) (hj : PJPost w g gl Fd Fl n PH.2 hf2 T2 w') : PBegRes w g gl Fd Fl n hf T hf2 T2 PH e w' := by
 refine ⟨he, ?_⟩
 rw [if_pos h0, if_pos h0]
 exact hj
theorem PBegRes.no {w w' : World} {g gl n hf hf2 : Nat} {Fd Fl : Nat → Prop} {T T2 : LT} {PH : Int × DK} {e : Ending} (h0 : ¬ PH.1 = 0) (he : e = .returned (.int .i64 PH.1)) (hj : PJPost w g gl Fd Fl n PH.2 hf T w') : PBegRes w g gl Fd Fl n hf T hf2 T2 PH e w' := by
 refine ⟨he, ?_⟩
 rw [if_neg h0, if_neg h0]
 exact hj
set_option maxRecDepth 100000 in
set_option maxHeartbeats 12800000 in
theorem PBegin_go (w : World) (gl hf g n : Nat) (Fd Fl : Nat → Prop) (D : DK) (T : LT) (hd : PX w g Fd n D) (hl : PLX w gl hf Fl g T) (hdis : ∀ k, Fd k → ¬ Fl k) (v : Value) (s : List UInt8) (hsn : ∀ w', Kept Fd w w' → Bs w' v s)
  (hhf : hf ≤ 1) (ot : Nat) (hot : ot = (1 - hf) * (n / 2)) (hgen : T.half.gen < 1099511627776) (hs : s.length ≤ 65536) (hfit : (rowsOf (T.half.gen + 1) 0 s).length ≤ n / 2) (hop : D.op.length ≤ 500000) :
  Calls Try.prog 51 #[.pointer (some ⟨gl, 0, none⟩), v] w (PBegRes w g gl Fd Fl n hf T (1 - hf) ⟨ot, ⟨T.half.gen + 1, s, [], (rowsOf (T.half.gen + 1) 0 s).length⟩, true⟩ (dPhases D ot [List.replicate (n / 2) zero64, rowsOf (T.half.gen + 1) 0 s])) := by
 have HLX := Lib.hid hl
 have HDIS := Lib.hid hdis
 have hrm := PRoom_x w g n Fd D hd gl hf Fl T hl
 obtain ⟨vsn, vrc, h1, h2, h3, h4⟩ := hl
 obtain ⟨a1, n1, c1, a2, n2, c2, rfl, rfl, h2n⟩ := h2.named
 obtain ⟨fr, ⟨ge, sn, rc, fi⟩, bg⟩ := T
 simp only at hgen hfit ⊢
 have h1' : HT w gl 107 [.pointer (some ⟨g, 0, none⟩), .int .i64 (hf : Int), .int .i64 (ge : Int), .slice a1 n1 c1, .slice a2 n2 c2, .int .i64 (fi : Int), .bool bg] := h1
 have HTL := Lib.hid h1'
 have HGL := Lib.hid h3
 have HGLT := Lib.hid (h4 gl h3)
 have hx1 := h1'.cell (j := 1) rfl
 have hx2 := h1'.cell (j := 2) rfl
 have HG : Hid (∀ w', Kept Fd w w' → w'.cell? ⟨gl, 0, none⟩ = some (.pointer (some ⟨g, 0, none⟩))) := fun w' hk => (HTL.out.keptJ hk (fun e => HDIS.out gl e HGL.out)).cell (j := 0) rfl
 have HGE : Hid (∀ w', Kept Fd w w' → w'.cell? ⟨gl, 2, none⟩ = some (.int .i64 (ge : Int))) := fun w' hk => (HTL.out.keptJ hk (fun e => HDIS.out gl e HGL.out)).cell (j := 2) rfl
 have hge : (0 : Int) ≤ ge ∧ (ge : Int) < 1099511627776 := by omega
 have hge2 : ((ge : Int) == 1099511627776) = false := by rw [beq_eq_false_iff_ne]; omega
 have HWG : Hid (IntKind.i64.wrap ((ge : Int) + 1) = (ge : Int) + 1) := IntWalk.i64_in _ (by omega)
 obtain ⟨av, cap, rfl, hcap, hcm⟩ := (hsn w (Kept.refl _ _)).shape
 obtain ⟨v, hv⟩ : ∃ z, z = Value.slice av s.length cap := ⟨_, rfl⟩
 obtain ⟨ls, hls⟩ : ∃ z, z = s.length := ⟨_, rfl⟩
 have HSL := Lib.hid hs
 rw [← hls] at hs hcap hsn hv ⊢
 have hls0 : (0 : Int) ≤ ls ∧ (ls : Int) ≤ 65536 := by omega
 have HWL : Hid (IntKind.i64.wrap ((ls : Int) + 21) = (ls : Int) + 21) := IntWalk.i64_in _ (by omega)
 have hbl := pBlocks_any w (ls + 21) (by omega)
 obtain ⟨rl, hrl⟩ : ∃ z, z = needN (ls + 21) := ⟨_, rfl⟩
 have HRLN := Lib.hid hrl
 have HRL : Hid (rl = (rowsOf (ge + 1) 0 s).length) := by show _ = _; rw [rowsOf_length, ← hls, hrl]
 rw [← hrl, show ((ls + 21 : Nat) : Int) = (ls : Int) + 21 from by push_cast; rfl] at hbl
 have hn1 := hd.ok.n1
 obtain ⟨m, hm⟩ : ∃ z, z = n / 2 := ⟨_, rfl⟩
 rw [← hm] at hot hfit hrm ⊢
 have hm2 : m + m ≤ n ∧ n ≤ m + m + 1 := by omega
 rw [← HRL.out] at hfit
 obtain ⟨h2, hh2⟩ : ∃ z, z = 1 - hf := ⟨_, rfl⟩
 rw [← hh2] at hot ⊢
 have HH2 : Hid ((1 : Int) - (hf : Int) = (h2 : Int)) := by show _ = _; omega
 have hhb : (0 : Int) ≤ hf ∧ (hf : Int) ≤ 1 ∧ (0 : Int) ≤ h2 ∧ (h2 : Int) ≤ 1 := by omega
 have HOTM : Hid (ot = h2 * (n / 2)) := by show _ = _; rw [← hm]; exact hot
 have HOT : Hid ((h2 : Int) * (m : Int) = (ot : Int)) := by show _ = _; rw [hot]; push_cast; rfl
 have hotb : ot + m ≤ n := by
  rcases (show h2 = 0 ∨ h2 = 1 by omega) with e | e
  ·
   rw [hot, e]; omega
  ·
   rw [hot, e]; omega
 have HWO : Hid (IntKind.i64.wrap (ot : Int) = (ot : Int)) := IntWalk.i64_in _ (by omega)
 have hdv : (n : Int).tdiv 2 = (m : Int) := by rw [Int.tdiv_eq_ediv_of_nonneg (by omega)]; omega
 have hdv2 : (n : Int) / 2 = (m : Int) := by omega
 have HDV1 := Lib.hid hdv
 have HDV2 := Lib.hid hdv2
 have HWM : Hid (IntKind.i64.wrap (m : Int) = (m : Int)) := IntWalk.i64_in _ (by omega)
 have hm3 : (0 : Int) ≤ m ∧ (m : Int) ≤ 32768 ∧ (0 : Int) ≤ n ∧ (n : Int) ≤ 65536 := by omega
 have hrlN : decide (m < rl) = false := by simp; omega
 have hrlc : decide ((m : Int) < (rl : Int)) = false := by simp; omega
 have hrl0 : (rl : Int) ≤ m ∧ (0 : Int) ≤ rl := by omega
 obtain ⟨PH, hPH⟩ : ∃ z, z = dPhases D ot [List.replicate m zero64, rowsOf (ge + 1) 0 s] := ⟨_, rfl⟩
 rw [← hPH, ← HRL.out]
 have HPH := Lib.hid hPH
 have HSN0 := Lib.hid hsn
 have HSN : Hid (∀ w', Kept Fd w w' → Bs w' v s) := fun w' hk => by rw [hv]; exact HSN0.out w' hk
 have HV := Lib.hid hv
 have HD0 := Lib.hid hd
 have HLS := Lib.hid hls
 clear h1 h1' h2n h3 h4 hls hrl hm hot hh2 hPH hsn hd hdis hs hfit hhf hgen hv
 go_enter Try.func51, Try.ntmps51
 go_wp2_with fail
 refine hbl.mono ?_
 clear hbl
 rintro e w' ⟨rfl, rfl⟩
 go_wp2_with fail
 refine hrm.mono ?_
 clear hrm
 rintro e w' ⟨rfl, rfl⟩
 go_wp2_with fail
 rw [HH2.out]
 clear hx1 hx2
 go_loopw [6] (fun i wr => ∃ (k : Nat) (Dk : DK) (F1 : Nat → Prop), k ≤ m ∧ i = .int .i64 k ∧ PX wr g F1 n Dk ∧ Kept Fd w wr ∧ (∀ q, F1 q → Fd q ∨ w.heap.size ≤ q) ∧ Hid (dWrites D ot (List.replicate m zero64) = dWrites Dk (ot + k) (List.replicate (m - k) zero64)) ∧ Hid (Dk.op.length ≤ D.op.length + k)) (fun i _ => m - (intOf i).toNat)
 case atStart => exact ⟨0, D, Fd, Nat.zero_le _, rfl, HD0.out, Kept.refl _ _, fun q e => .inl e, rfl, Nat.le_refl _⟩
 case round =>
  obtain ⟨k, Dk, F1, hk, rfl, hdk, hkp, hf1, HREC, HOP⟩ := hrel
  have HD := Lib.hid hdk
  have HK := Lib.hid hkp
  have HF1 := Lib.hid hf1
  have hcg0 := HG.out wr hkp
  have hcn0 := hdk.cell0
  clear hdk hkp hf1
  by_cases hlt : k < m
  ·
   have hk0 : (0 : Int) ≤ k ∧ (k : Int) < m := by omega
   have HWK : Hid (IntKind.i64.wrap ((ot : Int) + k) = (ot : Int) + k) := IntWalk.i64_in _ (by omega)
   have HG0 := Lib.hid hcg0
   have HN0 := Lib.hid hcn0
   obtain ⟨Dn, hDn⟩ : ∃ z, z = (dWrite Dk (ot + k) zero64).2 := ⟨_, rfl⟩
   obtain ⟨E, hE⟩ : ∃ z, z = (dWrite Dk (ot + k) zero64).1 := ⟨_, rfl⟩
   have HDN := Lib.hid hDn
   have HE := Lib.hid hE
   clear hDn hE
   go_upto_region 11 with fail
   refine wp_region_uni (S0 := (fun x => x.cell? ⟨gl, 0, none⟩ = some (.pointer (some ⟨g, 0, none⟩)) ∧ x.cell? ⟨g, 0, none⟩ = some (.int .i64 (n : Int)))) (S := BL wr) 19 (by kernel_rfl) (Below.refl _ _).drew ?_
   refine wpAnyU_take (i := 0) (oi := { dst := some 42, op := Op.move (Operand.tmp 0), type := 69, pos := "ref.go:234", after := #[], guard := none }) (v := (.pointer (some ⟨gl, 0, none⟩))) rfl (by kernel_rfl) (by kernel_rfl) (by kernel_rfl) (by kernel_rfl) (by kernel_rfl) (fun _ _ _ h => h) (⟨fun x h => ⟨BL.cell h HG0.out, BL.cell h HN0.out⟩, fun _ _ h hb => Below.next h hb⟩ : Cls (fun x => x.cell? ⟨gl, 0, none⟩ = some (.pointer (some ⟨g, 0, none⟩)) ∧ x.cell? ⟨g, 0, none⟩ = some (.int .i64 (n : Int))) (BL wr)) ?_ ?_
   ·
    refine Or.inl ⟨rfl, fun w hSw => ?_⟩
    exact EffR.same (by go_simp)
   try simp only [Act.put, zA, zB, zC]
   refine wpAnyU_take (i := 1) (oi := { dst := some 43, op := Op.nilCheck (Operand.tmp 42), type := 0, pos := "ref.go:234", after := #[{ on := 0, ground := Ground.data }], guard := none }) (v := (.pointer (some ⟨gl, 0, none⟩))) rfl (by kernel_rfl) (by kernel_rfl) (by kernel_rfl) (by kernel_rfl) (by kernel_rfl) (fun _ _ _ h => h) (⟨fun x h => ⟨BL.cell h HG0.out, BL.cell h HN0.out⟩, fun _ _ h hb => Below.next h hb⟩ : Cls (fun x => x.cell? ⟨gl, 0, none⟩ = some (.pointer (some ⟨g, 0, none⟩)) ∧ x.cell? ⟨g, 0, none⟩ = some (.int .i64 (n : Int))) (BL wr)) ?_ ?_
   ·
    refine Or.inl ⟨rfl, fun w hSw => ?_⟩
    exact EffR.same (by go_simp)
   try simp only [Act.put, zA, zB, zC]
   refine wpAnyU_take (i := 2) (oi := { dst := some 44, op := Op.fieldAddr 107 (Operand.tmp 43) 0, type := 0, pos := "ref.go:234", after := #[{ on := 1, ground := Ground.data }], guard := none }) (v := (.pointer (some ⟨gl, 0, none⟩))) rfl (by kernel_rfl) (by kernel_rfl) (by kernel_rfl) (by kernel_rfl) (by kernel_rfl) (fun _ _ _ h => h) (⟨fun x h => ⟨BL.cell h HG0.out, BL.cell h HN0.out⟩, fun _ _ h hb => Below.next h hb⟩ : Cls (fun x => x.cell? ⟨gl, 0, none⟩ = some (.pointer (some ⟨g, 0, none⟩)) ∧ x.cell? ⟨g, 0, none⟩ = some (.int .i64 (n : Int))) (BL wr)) ?_ ?_
   ·
    refine Or.inl ⟨rfl, fun w hSw => ?_⟩
    exact EffR.same (by go_simp)
   try simp only [Act.put, zA, zB, zC]
   refine wpAnyU_take (i := 3) (oi := { dst := some 45, op := Op.load 67 (Operand.tmp 44), type := 67, pos := "ref.go:234", after := #[{ on := 2, ground := Ground.data }], guard := none }) (v := (.pointer (some ⟨g, 0, none⟩))) rfl (by kernel_rfl) (by kernel_rfl) (by kernel_rfl) (by kernel_rfl) (by kernel_rfl) (fun _ _ _ h => h) (⟨fun x h => ⟨BL.cell h HG0.out, BL.cell h HN0.out⟩, fun _ _ h hb => Below.next h hb⟩ : Cls (fun x => x.cell? ⟨gl, 0, none⟩ = some (.pointer (some ⟨g, 0, none⟩)) ∧ x.cell? ⟨g, 0, none⟩ = some (.int .i64 (n : Int))) (BL wr)) ?_ ?_
   ·
    refine Or.inl ⟨rfl, fun w hSw => ?_⟩
    have e0 := hSw.1
    exact EffR.same (by go_simp)
   try simp only [Act.put, zA, zB, zC]
   refine wpAnyU_take (i := 4) (oi := { dst := some 46, op := Op.move (Operand.tmp 5), type := 3, pos := "ref.go:234", after := #[], guard := none }) (v := (.int .i64 (h2 : Int))) rfl (by kernel_rfl) (by kernel_rfl) (by kernel_rfl) (by kernel_rfl) (by kernel_rfl) (fun _ _ _ h => h) (⟨fun x h => ⟨BL.cell h HG0.out, BL.cell h HN0.out⟩, fun _ _ h hb => Below.next h hb⟩ : Cls (fun x => x.cell? ⟨gl, 0, none⟩ = some (.pointer (some ⟨g, 0, none⟩)) ∧ x.cell? ⟨g, 0, none⟩ = some (.int .i64 (n : Int))) (BL wr)) ?_ ?_
   ·
    refine Or.inl ⟨rfl, fun w hSw => ?_⟩
    exact EffR.same (by go_simp)
   try simp only [Act.put, zA, zB, zC]
   refine wpAnyU_take (i := 5) (oi := { dst := some 47, op := Op.move (Operand.tmp 0), type := 69, pos := "ref.go:234", after := #[], guard := none }) (v := (.pointer (some ⟨gl, 0, none⟩))) rfl (by kernel_rfl) (by kernel_rfl) (by kernel_rfl) (by kernel_rfl) (by kernel_rfl) (fun _ _ _ h => h) (⟨fun x h => ⟨BL.cell h HG0.out, BL.cell h HN0.out⟩, fun _ _ h hb => Below.next h hb⟩ : Cls (fun x => x.cell? ⟨gl, 0, none⟩ = some (.pointer (some ⟨g, 0, none⟩)) ∧ x.cell? ⟨g, 0, none⟩ = some (.int .i64 (n : Int))) (BL wr)) ?_ ?_
   ·
    refine Or.inl ⟨rfl, fun w hSw => ?_⟩
    exact EffR.same (by go_simp)
   try simp only [Act.put, zA, zB, zC]
   refine wpAnyU_take (i := 6) (oi := { dst := some 48, op := Op.nilCheck (Operand.tmp 47), type := 0, pos := "ref.go:234", after := #[{ on := 5, ground := Ground.data }], guard := none }) (v := (.pointer (some ⟨gl, 0, none⟩))) rfl (by kernel_rfl) (by kernel_rfl) (by kernel_rfl) (by kernel_rfl) (by kernel_rfl) (fun _ _ _ h => h) (⟨fun x h => ⟨BL.cell h HG0.out, BL.cell h HN0.out⟩, fun _ _ h hb => Below.next h hb⟩ : Cls (fun x => x.cell? ⟨gl, 0, none⟩ = some (.pointer (some ⟨g, 0, none⟩)) ∧ x.cell? ⟨g, 0, none⟩ = some (.int .i64 (n : Int))) (BL wr)) ?_ ?_
   ·
    refine Or.inl ⟨rfl, fun w hSw => ?_⟩
    exact EffR.same (by go_simp)
   try simp only [Act.put, zA, zB, zC]
   refine wpAnyU_take (i := 7) (oi := { dst := some 49, op := Op.fieldAddr 107 (Operand.tmp 48) 0, type := 0, pos := "ref.go:234", after := #[{ on := 6, ground := Ground.data }], guard := none }) (v := (.pointer (some ⟨gl, 0, none⟩))) rfl (by kernel_rfl) (by kernel_rfl) (by kernel_rfl) (by kernel_rfl) (by kernel_rfl) (fun _ _ _ h => h) (⟨fun x h => ⟨BL.cell h HG0.out, BL.cell h HN0.out⟩, fun _ _ h hb => Below.next h hb⟩ : Cls (fun x => x.cell? ⟨gl, 0, none⟩ = some (.pointer (some ⟨g, 0, none⟩)) ∧ x.cell? ⟨g, 0, none⟩ = some (.int .i64 (n : Int))) (BL wr)) ?_ ?_
   ·
    refine Or.inl ⟨rfl, fun w hSw => ?_⟩
    exact EffR.same (by go_simp)
   try simp only [Act.put, zA, zB, zC]
   refine wpAnyU_take (i := 8) (oi := { dst := some 50, op := Op.load 67 (Operand.tmp 49), type := 67, pos := "ref.go:234", after := #[{ on := 7, ground := Ground.data }], guard := none }) (v := (.pointer (some ⟨g, 0, none⟩))) rfl (by kernel_rfl) (by kernel_rfl) (by kernel_rfl) (by kernel_rfl) (by kernel_rfl) (fun _ _ _ h => h) (⟨fun x h => ⟨BL.cell h HG0.out, BL.cell h HN0.out⟩, fun _ _ h hb => Below.next h hb⟩ : Cls (fun x => x.cell? ⟨gl, 0, none⟩ = some (.pointer (some ⟨g, 0, none⟩)) ∧ x.cell? ⟨g, 0, none⟩ = some (.int .i64 (n : Int))) (BL wr)) ?_ ?_
   ·
    refine Or.inl ⟨rfl, fun w hSw => ?_⟩
    have e0 := hSw.1
    exact EffR.same (by go_simp)
   try simp only [Act.put, zA, zB, zC]
   refine wpAnyU_take (i := 9) (oi := { dst := some 51, op := Op.nilCheck (Operand.tmp 50), type := 0, pos := "ref.go:234", after := #[{ on := 8, ground := Ground.data }], guard := none }) (v := (.pointer (some ⟨g, 0, none⟩))) rfl (by kernel_rfl) (by kernel_rfl) (by kernel_rfl) (by kernel_rfl) (by kernel_rfl) (fun _ _ _ h => h) (⟨fun x h => ⟨BL.cell h HG0.out, BL.cell h HN0.out⟩, fun _ _ h hb => Below.next h hb⟩ : Cls (fun x => x.cell? ⟨gl, 0, none⟩ = some (.pointer (some ⟨g, 0, none⟩)) ∧ x.cell? ⟨g, 0, none⟩ = some (.int .i64 (n : Int))) (BL wr)) ?_ ?_
   ·
    refine Or.inl ⟨rfl, fun w hSw => ?_⟩
    exact EffR.same (by go_simp)
   try simp only [Act.put, zA, zB, zC]
   refine wpAnyU_take (i := 10) (oi := { dst := some 52, op := Op.fieldAddr 78 (Operand.tmp 51) 0, type := 0, pos := "ref.go:234", after := #[{ on := 9, ground := Ground.data }], guard := none }) (v := (.pointer (some ⟨g, 0, none⟩))) rfl (by kernel_rfl) (by kernel_rfl) (by kernel_rfl) (by kernel_rfl) (by kernel_rfl) (fun _ _ _ h => h) (⟨fun x h => ⟨BL.cell h HG0.out, BL.cell h HN0.out⟩, fun _ _ h hb => Below.next h hb⟩ : Cls (fun x => x.cell? ⟨gl, 0, none⟩ = some (.pointer (some ⟨g, 0, none⟩)) ∧ x.cell? ⟨g, 0, none⟩ = some (.int .i64 (n : Int))) (BL wr)) ?_ ?_
   ·
    refine Or.inl ⟨rfl, fun w hSw => ?_⟩
    exact EffR.same (by go_simp)
   try simp only [Act.put, zA, zB, zC]
   refine wpAnyU_take (i := 11) (oi := { dst := some 53, op := Op.load 3 (Operand.tmp 52), type := 3, pos := "ref.go:234", after := #[{ on := 10, ground := Ground.data }], guard := none }) (v := (.int .i64 (n : Int))) rfl (by kernel_rfl) (by kernel_rfl) (by kernel_rfl) (by kernel_rfl) (by kernel_rfl) (fun _ _ _ h => h) (⟨fun x h => ⟨BL.cell h HG0.out, BL.cell h HN0.out⟩, fun _ _ h hb => Below.next h hb⟩ : Cls (fun x => x.cell? ⟨gl, 0, none⟩ = some (.pointer (some ⟨g, 0, none⟩)) ∧ x.cell? ⟨g, 0, none⟩ = some (.int .i64 (n : Int))) (BL wr)) ?_ ?_
   ·
    refine Or.inl ⟨rfl, fun w hSw => ?_⟩
    have e0 := hSw.2
    exact EffR.same (by go_simp)
   try simp only [Act.put, zA, zB, zC]
   refine wpAnyU_take (i := 12) (oi := { dst := some 54, op := Op.binOp BinOp.quo 3 (Operand.tmp 53) (Operand.const (Value.int IntKind.i64 2)) 3, type := 3, pos := "ref.go:234", after := #[{ on := 11, ground := Ground.data }], guard := none }) (v := (.int .i64 (m : Int))) rfl (by kernel_rfl) (by kernel_rfl) (by kernel_rfl) (by kernel_rfl) (by kernel_rfl) (fun _ _ _ h => h) (⟨fun x h => ⟨BL.cell h HG0.out, BL.cell h HN0.out⟩, fun _ _ h hb => Below.next h hb⟩ : Cls (fun x => x.cell? ⟨gl, 0, none⟩ = some (.pointer (some ⟨g, 0, none⟩)) ∧ x.cell? ⟨g, 0, none⟩ = some (.int .i64 (n : Int))) (BL wr)) ?_ ?_
   ·
    refine Or.inl ⟨rfl, fun w hSw => ?_⟩
    have e0 := HDV1.out
    have e1 := HDV2.out
    have e2 := HWM.out
    exact EffR.same (by go_simp)
   try simp only [Act.put, zA, zB, zC]
   refine wpAnyU_take (i := 13) (oi := { dst := some 55, op := Op.binOp BinOp.mul 3 (Operand.tmp 46) (Operand.tmp 54) 3, type := 3, pos := "ref.go:234", after := #[{ on := 4, ground := Ground.data }, { on := 12, ground := Ground.data }], guard := none }) (v := (.int .i64 (ot : Int))) rfl (by kernel_rfl) (by kernel_rfl) (by kernel_rfl) (by kernel_rfl) (by kernel_rfl) (fun _ _ _ h => h) (⟨fun x h => ⟨BL.cell h HG0.out, BL.cell h HN0.out⟩, fun _ _ h hb => Below.next h hb⟩ : Cls (fun x => x.cell? ⟨gl, 0, none⟩ = some (.pointer (some ⟨g, 0, none⟩)) ∧ x.cell? ⟨g, 0, none⟩ = some (.int .i64 (n : Int))) (BL wr)) ?_ ?_
   ·
    refine Or.inl ⟨rfl, fun w hSw => ?_⟩
    have e0 := HOT.out
    have e1 := HWO.out
    exact EffR.same (by go_simp)
   try simp only [Act.put, zA, zB, zC]
   refine wpAnyU_take (i := 14) (oi := { dst := some 56, op := Op.move (Operand.tmp 6), type := 3, pos := "ref.go:234", after := #[], guard := none }) (v := (.int .i64 (k : Int))) rfl (by kernel_rfl) (by kernel_rfl) (by kernel_rfl) (by kernel_rfl) (by kernel_rfl) (fun _ _ _ h => h) (⟨fun x h => ⟨BL.cell h HG0.out, BL.cell h HN0.out⟩, fun _ _ h hb => Below.next h hb⟩ : Cls (fun x => x.cell? ⟨gl, 0, none⟩ = some (.pointer (some ⟨g, 0, none⟩)) ∧ x.cell? ⟨g, 0, none⟩ = some (.int .i64 (n : Int))) (BL wr)) ?_ ?_
   ·
    refine Or.inl ⟨rfl, fun w hSw => ?_⟩
    exact EffR.same (by go_simp)
   try simp only [Act.put, zA, zB, zC]
   refine wpAnyU_take (i := 15) (oi := { dst := some 57, op := Op.binOp BinOp.add 3 (Operand.tmp 55) (Operand.tmp 56) 3, type := 3, pos := "ref.go:234", after := #[{ on := 13, ground := Ground.data }, { on := 14, ground := Ground.data }], guard := none }) (v := (.int .i64 ((ot : Int) + k))) rfl (by kernel_rfl) (by kernel_rfl) (by kernel_rfl) (by kernel_rfl) (by kernel_rfl) (fun _ _ _ h => h) (⟨fun x h => ⟨BL.cell h HG0.out, BL.cell h HN0.out⟩, fun _ _ h hb => Below.next h hb⟩ : Cls (fun x => x.cell? ⟨gl, 0, none⟩ = some (.pointer (some ⟨g, 0, none⟩)) ∧ x.cell? ⟨g, 0, none⟩ = some (.int .i64 (n : Int))) (BL wr)) ?_ ?_
   ·
    refine Or.inl ⟨rfl, fun w hSw => ?_⟩
    have e0 := HWK.out
    exact EffR.same (by go_simp)
   try simp only [Act.put, zA, zB, zC]
   refine wpAnyU_take (i := 16) (oi := { dst := some 58, op := Op.build 36 #[], type := 36, pos := "ref.go:234", after := #[], guard := none }) (v := (.agg (bvs zero64).toArray)) rfl (by kernel_rfl) (by kernel_rfl) (by kernel_rfl) (by kernel_rfl) (by kernel_rfl) (fun _ _ _ h => h) (⟨fun x h => ⟨BL.cell h HG0.out, BL.cell h HN0.out⟩, fun _ _ h hb => Below.next h hb⟩ : Cls (fun x => x.cell? ⟨gl, 0, none⟩ = some (.pointer (some ⟨g, 0, none⟩)) ∧ x.cell? ⟨g, 0, none⟩ = some (.int .i64 (n : Int))) (BL wr)) ?_ ?_
   ·
    refine Or.inl ⟨rfl, fun w hSw => ?_⟩
    exact EffR.same (by kernel_rfl)
   try simp only [Act.put, zA, zB, zC]
   refine wpAnyU_ready (rs := [17]) (by kernel_rfl) (by simp) ?_
   refine AllReadyU.cons (o := { dst := some 59, op := Op.call { callee := Callee.value (Operand.func 55), args := #[Operand.tmp 45, Operand.tmp 57, Operand.tmp 58], argTypes := #[67, 3, 36] }, type := 27, pos := "ref.go:234", after := #[{ on := 3, ground := Ground.data }, { on := 15, ground := Ground.data }, { on := 16, ground := Ground.data }], guard := none }) rfl (fun wA17 hA17 K hK => ?_) AllReadyU.nil
   have hw := PWrite_x wA17 g n F1 Dk (HD.out.below hA17) (ot + k) (by omega) zero64 zero64_length (by have := HOP.out; omega)
   rw [Int.natCast_add] at hw
   go_simp
   refine hw.mono ?_
   rintro e0 w3 ⟨he0, hpost⟩
   clear hw
   rw [← HE.out] at he0
   rw [← HDN.out] at hpost
   subst he0
   obtain ⟨F2, hd3, hk3, hf3⟩ := hpost
   have hkW : Kept Fd w w3 := (HK.out.next hA17).trans hk3 (fun i hi e => by
    rcases HF1.out i e with e | e
    ·
     exact e
    ·
     omega)
   have hn3 := hd3.cell0
   have hg3 := HG.out w3 hkW
   have hf4 : Hid (∀ k, F2 k → Fd k ∨ w.heap.size ≤ k) := fun k e => by
    rcases hf3 k e with e | e
    ·
     exact HF1.out k e
    ·
     have h1 := HK.out.size; have h2 := Below.size hA17; right; omega
   have HD3 := Lib.hid hd3
   have HK3 := Lib.hid hkW
   refine hK.out _ _ (BL w3) (⟨fun x h => ⟨BL.cell h hg3, BL.cell h hn3⟩, fun _ _ h hb => Below.next h hb⟩ : Cls (fun x => x.cell? ⟨gl, 0, none⟩ = some (.pointer (some ⟨g, 0, none⟩)) ∧ x.cell? ⟨g, 0, none⟩ = some (.int .i64 (n : Int))) (BL w3)) (Below.refl _ _) ?_
   clear hkW hd3 hk3 hf3
   clear hK K
   try simp only [Act.put, zA, zB, zC]
   refine wpAnyU_take (i := 18) (oi := { dst := some 7, op := Op.assign (Operand.tmp 59), type := 27, pos := "ref.go:234", after := #[{ on := 17, ground := Ground.data }, { on := 17, ground := Ground.chain }, { on := 0, ground := Ground.phase }, { on := 1, ground := Ground.phase }, { on := 2, ground := Ground.phase }, { on := 3, ground := Ground.phase }, { on := 4, ground := Ground.phase }, { on := 5, ground := Ground.phase }, { on := 6, ground := Ground.phase }, { on := 7, ground := Ground.phase }, { on := 8, ground := Ground.phase }, { on := 9, ground := Ground.phase }, { on := 10, ground := Ground.phase }, { on := 11, ground := Ground.phase }, { on := 12, ground := Ground.phase }, { on := 13, ground := Ground.phase }, { on := 14, ground := Ground.phase }, { on := 15, ground := Ground.phase }, { on := 16, ground := Ground.phase }, { on := 17, ground := Ground.phase }], guard := none }) (v := (.int .i64 E)) rfl (by kernel_rfl) (by kernel_rfl) (by kernel_rfl) (by kernel_rfl) (by kernel_rfl) (fun _ _ _ h => h) (⟨fun x h => ⟨BL.cell h hg3, BL.cell h hn3⟩, fun _ _ h hb => Below.next h hb⟩ : Cls (fun x => x.cell? ⟨gl, 0, none⟩ = some (.pointer (some ⟨g, 0, none⟩)) ∧ x.cell? ⟨g, 0, none⟩ = some (.int .i64 (n : Int))) (BL w3)) ?_ ?_
   ·
    refine Or.inl ⟨rfl, fun w hSw => ?_⟩
    exact EffR.same (by go_simp)
   try simp only [Act.put, zA, zB, zC]
   refine wpAnyU_done (by kernel_rfl) (fun w1 hb1 => ?_) _
   have HD4 := Lib.hid (HD3.out.below hb1)
   have HK4 := Lib.hid (HK3.out.next hb1)
   clear hb1 HD3 HK3
   by_cases h0 : E = 0
   ·
    have h01 : ((E : Int) != 0) = false := by rw [h0]; rfl
    have H00 := Lib.hid h0
    clear h0
    go_wp2_with fail
    refine ⟨⟨k + 1, Dn, F2, by omega, by push_cast; rfl, HD4.out, HK4.out, hf4.out, ?_, ?_⟩, by simp [intOf]; omega⟩
    ·
     show dWrites D ot (List.replicate m zero64) = _
     rw [HREC.out, show m - k = (m - (k + 1)) + 1 by omega, List.replicate_succ]
     rw [dWrites_ok (by rw [← HE.out]; exact H00.out), ← HDN.out, Nat.add_assoc]
    ·
     show _ ≤ _
     rw [HDN.out]
     have := dWrite_op Dk (ot + k) zero64
     have := HOP.out
     omega
   ·
    have h01 : ((E : Int) != 0) = true := by rw [bne_iff_ne]; exact h0
    have H00 := Lib.hid h0
    clear h0
    go_wp2_with fail
    go_ret
    have hres : PH = (E, Dn) := by
     have h1 : dWrites D ot (List.replicate m zero64) = (E, Dn) := by
      rw [HREC.out, show m - k = (m - (k + 1)) + 1 by omega, List.replicate_succ]
      rw [dWrites_stop (by rw [← HE.out]; exact H00.out), HE.out, HDN.out]
     have h2 : dPhase D ot (List.replicate m zero64) = (E, Dn) := by
      unfold dPhase
      rw [h1, if_neg H00.out]
     rw [HPH.out, dPhases_stop (by rw [h2]; exact H00.out), h2]
    rw [hres]
    exact PBegRes.no (by exact H00.out) rfl (PJPost.quit HLX.out HD4.out HK4.out hf4.out HDIS.out)
  ·
   obtain rfl : k = m := by omega
   have HW1 : Hid (dWrites D ot (List.replicate k zero64) = (0, Dk)) := by
    show _ = _
    rw [HREC.out, Nat.sub_self]
    rfl
   have hsy := PSync_x wr g n F1 Dk HD.out
   obtain ⟨E2, hE2⟩ : ∃ z, z = (dSync Dk).1 := ⟨_, rfl⟩
   obtain ⟨D2, hD2⟩ : ∃ z, z = (dSync Dk).2 := ⟨_, rfl⟩
   rw [← hE2, ← hD2] at hsy
   have HE2 := Lib.hid hE2
   have HD2E := Lib.hid hD2
   have HP1 : Hid (dPhase D ot (List.replicate k zero64) = (E2, D2)) := by
    show _ = _
    unfold dPhase
    rw [HW1.out, if_pos rfl, HE2.out, HD2E.out]
   clear hE2 hD2
   go_wp2_with fail
   refine hsy.mono ?_
   clear hsy hcg0 hcn0
   rintro e w5 ⟨rfl, F3, hd5, hk5, hf5⟩
   have HK5 : Hid (Kept Fd w w5) := HK.out.trans hk5 (fun i hi e => by
    rcases HF1.out i e with e | e
    ·
     exact e
    ·
     omega)
   have HF5 : Hid (∀ q, F3 q → Fd q ∨ w.heap.size ≤ q) := fun q e => by
    rcases hf5 q e with e | e
    ·
     exact HF1.out q e
    ·
     have := HK.out.size; right; omega
   have HD5 := Lib.hid hd5
   clear hd5 hk5 hf5
   by_cases h02 : E2 = 0
   ·
    have h021 : ((E2 : Int) == 0) = true := by rw [h02]; rfl
    have H02 := Lib.hid h02
    clear h02
    have HOP2 : Hid (D2.op.length = 0) := by
     show _ = _
     rw [HD2E.out]
     exact dSync_done (by rw [← HE2.out]; exact H02.out)
    have HPH1 : Hid (PH = dPhases D2 ot [rowsOf (ge + 1) 0 s]) := by
     show _ = _
     rw [HPH.out, dPhases_ok (by rw [HP1.out]; exact H02.out), HP1.out]
    have HG5 := Lib.hid (HG.out w5 HK5.out)
    have HG52 := Lib.hid (HGE.out w5 HK5.out)
    obtain ⟨E3, hE3⟩ : ∃ z, z = (dWrites D2 ot (rowsOf (ge + 1) 0 s)).1 := ⟨_, rfl⟩
    obtain ⟨D3, hD3⟩ : ∃ z, z = (dWrites D2 ot (rowsOf (ge + 1) 0 s)).2 := ⟨_, rfl⟩
    have HE3 := Lib.hid hE3
    have HD3E := Lib.hid hD3
    clear hE3 hD3
    go_upto_region 16 with fail
    rw [← HV.out]
    refine wp_region_uni (S0 := (fun x => x.cell? ⟨gl, 0, none⟩ = some (.pointer (some ⟨g, 0, none⟩)) ∧ x.cell? ⟨gl, 2, none⟩ = some (.int .i64 (ge : Int)))) (S := BL w5) 19 (by kernel_rfl) (Below.refl _ _).drew ?_
    refine wpAnyU_take (i := 0) (oi := { dst := some 70, op := Op.move (Operand.tmp 0), type := 69, pos := "ref.go:241", after := #[], guard := none }) (v := (.pointer (some ⟨gl, 0, none⟩))) rfl (by kernel_rfl) (by kernel_rfl) (by kernel_rfl) (by kernel_rfl) (by kernel_rfl) (fun _ _ _ h => h) (⟨fun x h => ⟨BL.cell h HG5.out, BL.cell h HG52.out⟩, fun _ _ h hb => Below.next h hb⟩ : Cls (fun x => x.cell? ⟨gl, 0, none⟩ = some (.pointer (some ⟨g, 0, none⟩)) ∧ x.cell? ⟨gl, 2, none⟩ = some (.int .i64 (ge : Int))) (BL w5)) ?_ ?_
    ·
     refine Or.inl ⟨rfl, fun w hSw => ?_⟩
     exact EffR.same (by go_simp)
    try simp only [Act.put, zA, zB, zC]
    refine wpAnyU_take (i := 1) (oi := { dst := some 71, op := Op.nilCheck (Operand.tmp 70), type := 0, pos := "ref.go:241", after := #[{ on := 0, ground := Ground.data }], guard := none }) (v := (.pointer (some ⟨gl, 0, none⟩))) rfl (by kernel_rfl) (by kernel_rfl) (by kernel_rfl) (by kernel_rfl) (by kernel_rfl) (fun _ _ _ h => h) (⟨fun x h => ⟨BL.cell h HG5.out, BL.cell h HG52.out⟩, fun _ _ h hb => Below.next h hb⟩ : Cls (fun x => x.cell? ⟨gl, 0, none⟩ = some (.pointer (some ⟨g, 0, none⟩)) ∧ x.cell? ⟨gl, 2, none⟩ = some (.int .i64 (ge : Int))) (BL w5)) ?_ ?_
    ·
     refine Or.inl ⟨rfl, fun w hSw => ?_⟩
     exact EffR.same (by go_simp)
    try simp only [Act.put, zA, zB, zC]
    refine wpAnyU_take (i := 2) (oi := { dst := some 72, op := Op.fieldAddr 107 (Operand.tmp 71) 0, type := 0, pos := "ref.go:241", after := #[{ on := 1, ground := Ground.data }], guard := none }) (v := (.pointer (some ⟨gl, 0, none⟩))) rfl (by kernel_rfl) (by kernel_rfl) (by kernel_rfl) (by kernel_rfl) (by kernel_rfl) (fun _ _ _ h => h) (⟨fun x h => ⟨BL.cell h HG5.out, BL.cell h HG52.out⟩, fun _ _ h hb => Below.next h hb⟩ : Cls (fun x => x.cell? ⟨gl, 0, none⟩ = some (.pointer (some ⟨g, 0, none⟩)) ∧ x.cell? ⟨gl, 2, none⟩ = some (.int .i64 (ge : Int))) (BL w5)) ?_ ?_
    ·
     refine Or.inl ⟨rfl, fun w hSw => ?_⟩
     exact EffR.same (by go_simp)
    try simp only [Act.put, zA, zB, zC]
    refine wpAnyU_take (i := 3) (oi := { dst := some 73, op := Op.load 67 (Operand.tmp 72), type := 67, pos := "ref.go:241", after := #[{ on := 2, ground := Ground.data }], guard := none }) (v := (.pointer (some ⟨g, 0, none⟩))) rfl (by kernel_rfl) (by kernel_rfl) (by kernel_rfl) (by kernel_rfl) (by kernel_rfl) (fun _ _ _ h => h) (⟨fun x h => ⟨BL.cell h HG5.out, BL.cell h HG52.out⟩, fun _ _ h hb => Below.next h hb⟩ : Cls (fun x => x.cell? ⟨gl, 0, none⟩ = some (.pointer (some ⟨g, 0, none⟩)) ∧ x.cell? ⟨gl, 2, none⟩ = some (.int .i64 (ge : Int))) (BL w5)) ?_ ?_
    ·
     refine Or.inl ⟨rfl, fun w hSw => ?_⟩
     have e0 := hSw.1
     exact EffR.same (by go_simp)
    try simp only [Act.put, zA, zB, zC]
    refine wpAnyU_take (i := 4) (oi := { dst := some 74, op := Op.move (Operand.tmp 5), type := 3, pos := "ref.go:241", after := #[], guard := none }) (v := (.int .i64 (h2 : Int))) rfl (by kernel_rfl) (by kernel_rfl) (by kernel_rfl) (by kernel_rfl) (by kernel_rfl) (fun _ _ _ h => h) (⟨fun x h => ⟨BL.cell h HG5.out, BL.cell h HG52.out⟩, fun _ _ h hb => Below.next h hb⟩ : Cls (fun x => x.cell? ⟨gl, 0, none⟩ = some (.pointer (some ⟨g, 0, none⟩)) ∧ x.cell? ⟨gl, 2, none⟩ = some (.int .i64 (ge : Int))) (BL w5)) ?_ ?_
    ·
     refine Or.inl ⟨rfl, fun w hSw => ?_⟩
     exact EffR.same (by go_simp)
    try simp only [Act.put, zA, zB, zC]
    refine wpAnyU_take (i := 5) (oi := { dst := some 75, op := Op.move (Operand.tmp 0), type := 69, pos := "ref.go:241", after := #[], guard := none }) (v := (.pointer (some ⟨gl, 0, none⟩))) rfl (by kernel_rfl) (by kernel_rfl) (by kernel_rfl) (by kernel_rfl) (by kernel_rfl) (fun _ _ _ h => h) (⟨fun x h => ⟨BL.cell h HG5.out, BL.cell h HG52.out⟩, fun _ _ h hb => Below.next h hb⟩ : Cls (fun x => x.cell? ⟨gl, 0, none⟩ = some (.pointer (some ⟨g, 0, none⟩)) ∧ x.cell? ⟨gl, 2, none⟩ = some (.int .i64 (ge : Int))) (BL w5)) ?_ ?_
    ·
     refine Or.inl ⟨rfl, fun w hSw => ?_⟩
     exact EffR.same (by go_simp)
    try simp only [Act.put, zA, zB, zC]
    refine wpAnyU_take (i := 6) (oi := { dst := some 76, op := Op.nilCheck (Operand.tmp 75), type := 0, pos := "ref.go:241", after := #[{ on := 5, ground := Ground.data }], guard := none }) (v := (.pointer (some ⟨gl, 0, none⟩))) rfl (by kernel_rfl) (by kernel_rfl) (by kernel_rfl) (by kernel_rfl) (by kernel_rfl) (fun _ _ _ h => h) (⟨fun x h => ⟨BL.cell h HG5.out, BL.cell h HG52.out⟩, fun _ _ h hb => Below.next h hb⟩ : Cls (fun x => x.cell? ⟨gl, 0, none⟩ = some (.pointer (some ⟨g, 0, none⟩)) ∧ x.cell? ⟨gl, 2, none⟩ = some (.int .i64 (ge : Int))) (BL w5)) ?_ ?_
    ·
     refine Or.inl ⟨rfl, fun w hSw => ?_⟩
     exact EffR.same (by go_simp)
    try simp only [Act.put, zA, zB, zC]
    refine wpAnyU_take (i := 7) (oi := { dst := some 77, op := Op.fieldAddr 107 (Operand.tmp 76) 2, type := 0, pos := "ref.go:241", after := #[{ on := 6, ground := Ground.data }], guard := none }) (v := (.pointer (some ⟨gl, 2, none⟩))) rfl (by kernel_rfl) (by kernel_rfl) (by kernel_rfl) (by kernel_rfl) (by kernel_rfl) (fun _ _ _ h => h) (⟨fun x h => ⟨BL.cell h HG5.out, BL.cell h HG52.out⟩, fun _ _ h hb => Below.next h hb⟩ : Cls (fun x => x.cell? ⟨gl, 0, none⟩ = some (.pointer (some ⟨g, 0, none⟩)) ∧ x.cell? ⟨gl, 2, none⟩ = some (.int .i64 (ge : Int))) (BL w5)) ?_ ?_
    ·
     refine Or.inl ⟨rfl, fun w hSw => ?_⟩
     exact EffR.same (by go_simp)
    try simp only [Act.put, zA, zB, zC]
    refine wpAnyU_take (i := 8) (oi := { dst := some 78, op := Op.load 3 (Operand.tmp 77), type := 3, pos := "ref.go:241", after := #[{ on := 7, ground := Ground.data }], guard := none }) (v := (.int .i64 (ge : Int))) rfl (by kernel_rfl) (by kernel_rfl) (by kernel_rfl) (by kernel_rfl) (by kernel_rfl) (fun _ _ _ h => h) (⟨fun x h => ⟨BL.cell h HG5.out, BL.cell h HG52.out⟩, fun _ _ h hb => Below.next h hb⟩ : Cls (fun x => x.cell? ⟨gl, 0, none⟩ = some (.pointer (some ⟨g, 0, none⟩)) ∧ x.cell? ⟨gl, 2, none⟩ = some (.int .i64 (ge : Int))) (BL w5)) ?_ ?_
    ·
     refine Or.inl ⟨rfl, fun w hSw => ?_⟩
     have e0 := hSw.2
     exact EffR.same (by go_simp)
    try simp only [Act.put, zA, zB, zC]
    refine wpAnyU_take (i := 9) (oi := { dst := some 79, op := Op.binOp BinOp.add 3 (Operand.tmp 78) (Operand.const (Value.int IntKind.i64 1)) 3, type := 3, pos := "ref.go:241", after := #[{ on := 8, ground := Ground.data }], guard := none }) (v := (.int .i64 ((ge : Int) + 1))) rfl (by kernel_rfl) (by kernel_rfl) (by kernel_rfl) (by kernel_rfl) (by kernel_rfl) (fun _ _ _ h => h) (⟨fun x h => ⟨BL.cell h HG5.out, BL.cell h HG52.out⟩, fun _ _ h hb => Below.next h hb⟩ : Cls (fun x => x.cell? ⟨gl, 0, none⟩ = some (.pointer (some ⟨g, 0, none⟩)) ∧ x.cell? ⟨gl, 2, none⟩ = some (.int .i64 (ge : Int))) (BL w5)) ?_ ?_
    ·
     refine Or.inl ⟨rfl, fun w hSw => ?_⟩
     have e0 := HWG.out
     exact EffR.same (by go_simp)
    try simp only [Act.put, zA, zB, zC]
    refine wpAnyU_take (i := 10) (oi := { dst := some 80, op := Op.move (Operand.tmp 0), type := 69, pos := "ref.go:241", after := #[], guard := none }) (v := (.pointer (some ⟨gl, 0, none⟩))) rfl (by kernel_rfl) (by kernel_rfl) (by kernel_rfl) (by kernel_rfl) (by kernel_rfl) (fun _ _ _ h => h) (⟨fun x h => ⟨BL.cell h HG5.out, BL.cell h HG52.out⟩, fun _ _ h hb => Below.next h hb⟩ : Cls (fun x => x.cell? ⟨gl, 0, none⟩ = some (.pointer (some ⟨g, 0, none⟩)) ∧ x.cell? ⟨gl, 2, none⟩ = some (.int .i64 (ge : Int))) (BL w5)) ?_ ?_
    ·
     refine Or.inl ⟨rfl, fun w hSw => ?_⟩
     exact EffR.same (by go_simp)
    try simp only [Act.put, zA, zB, zC]
    refine wpAnyU_take (i := 11) (oi := { dst := some 81, op := Op.nilCheck (Operand.tmp 80), type := 0, pos := "ref.go:241", after := #[{ on := 10, ground := Ground.data }], guard := none }) (v := (.pointer (some ⟨gl, 0, none⟩))) rfl (by kernel_rfl) (by kernel_rfl) (by kernel_rfl) (by kernel_rfl) (by kernel_rfl) (fun _ _ _ h => h) (⟨fun x h => ⟨BL.cell h HG5.out, BL.cell h HG52.out⟩, fun _ _ h hb => Below.next h hb⟩ : Cls (fun x => x.cell? ⟨gl, 0, none⟩ = some (.pointer (some ⟨g, 0, none⟩)) ∧ x.cell? ⟨gl, 2, none⟩ = some (.int .i64 (ge : Int))) (BL w5)) ?_ ?_
    ·
     refine Or.inl ⟨rfl, fun w hSw => ?_⟩
     exact EffR.same (by go_simp)
    try simp only [Act.put, zA, zB, zC]
    refine wpAnyU_take (i := 12) (oi := { dst := some 82, op := Op.fieldAddr 107 (Operand.tmp 81) 2, type := 0, pos := "ref.go:241", after := #[{ on := 11, ground := Ground.data }], guard := none }) (v := (.pointer (some ⟨gl, 2, none⟩))) rfl (by kernel_rfl) (by kernel_rfl) (by kernel_rfl) (by kernel_rfl) (by kernel_rfl) (fun _ _ _ h => h) (⟨fun x h => ⟨BL.cell h HG5.out, BL.cell h HG52.out⟩, fun _ _ h hb => Below.next h hb⟩ : Cls (fun x => x.cell? ⟨gl, 0, none⟩ = some (.pointer (some ⟨g, 0, none⟩)) ∧ x.cell? ⟨gl, 2, none⟩ = some (.int .i64 (ge : Int))) (BL w5)) ?_ ?_
    ·
     refine Or.inl ⟨rfl, fun w hSw => ?_⟩
     exact EffR.same (by go_simp)
    try simp only [Act.put, zA, zB, zC]
    refine wpAnyU_take (i := 13) (oi := { dst := some 83, op := Op.load 3 (Operand.tmp 82), type := 3, pos := "ref.go:241", after := #[{ on := 12, ground := Ground.data }], guard := none }) (v := (.int .i64 (ge : Int))) rfl (by kernel_rfl) (by kernel_rfl) (by kernel_rfl) (by kernel_rfl) (by kernel_rfl) (fun _ _ _ h => h) (⟨fun x h => ⟨BL.cell h HG5.out, BL.cell h HG52.out⟩, fun _ _ h hb => Below.next h hb⟩ : Cls (fun x => x.cell? ⟨gl, 0, none⟩ = some (.pointer (some ⟨g, 0, none⟩)) ∧ x.cell? ⟨gl, 2, none⟩ = some (.int .i64 (ge : Int))) (BL w5)) ?_ ?_
    ·
     refine Or.inl ⟨rfl, fun w hSw => ?_⟩
     have e0 := hSw.2
     exact EffR.same (by go_simp)
    try simp only [Act.put, zA, zB, zC]
    refine wpAnyU_take (i := 14) (oi := { dst := some 84, op := Op.binOp BinOp.add 3 (Operand.tmp 83) (Operand.const (Value.int IntKind.i64 1)) 3, type := 3, pos := "ref.go:241", after := #[{ on := 13, ground := Ground.data }], guard := none }) (v := (.int .i64 ((ge : Int) + 1))) rfl (by kernel_rfl) (by kernel_rfl) (by kernel_rfl) (by kernel_rfl) (by kernel_rfl) (fun _ _ _ h => h) (⟨fun x h => ⟨BL.cell h HG5.out, BL.cell h HG52.out⟩, fun _ _ h hb => Below.next h hb⟩ : Cls (fun x => x.cell? ⟨gl, 0, none⟩ = some (.pointer (some ⟨g, 0, none⟩)) ∧ x.cell? ⟨gl, 2, none⟩ = some (.int .i64 (ge : Int))) (BL w5)) ?_ ?_
    ·
     refine Or.inl ⟨rfl, fun w hSw => ?_⟩
     have e0 := HWG.out
     exact EffR.same (by go_simp)
    try simp only [Act.put, zA, zB, zC]
    refine wpAnyU_take (i := 15) (oi := { dst := some 85, op := Op.move (Operand.tmp 1), type := 22, pos := "ref.go:241", after := #[], guard := none }) (v := (v)) rfl (by kernel_rfl) (by kernel_rfl) (by kernel_rfl) (by kernel_rfl) (by kernel_rfl) (fun _ _ _ h => h) (⟨fun x h => ⟨BL.cell h HG5.out, BL.cell h HG52.out⟩, fun _ _ h hb => Below.next h hb⟩ : Cls (fun x => x.cell? ⟨gl, 0, none⟩ = some (.pointer (some ⟨g, 0, none⟩)) ∧ x.cell? ⟨gl, 2, none⟩ = some (.int .i64 (ge : Int))) (BL w5)) ?_ ?_
    ·
     refine Or.inl ⟨rfl, fun w hSw => ?_⟩
     exact EffR.same (by go_simp)
    try simp only [Act.put, zA, zB, zC]
    refine wpAnyU_ready (rs := [16]) (by kernel_rfl) (by simp) ?_
    refine AllReadyU.cons (o := { dst := some 86, op := Op.call { callee := Callee.value (Operand.func 22), args := #[Operand.tmp 84, Operand.const (Value.int IntKind.i64 0), Operand.tmp 85], argTypes := #[3, 3, 22] }, type := 22, pos := "ref.go:241", after := #[{ on := 14, ground := Ground.data }, { on := 15, ground := Ground.data }], guard := none }) rfl (fun wA16 hA16 K hK => ?_) AllReadyU.nil
    have hse := refSeal_any wA16 v (ge + 1) 0 s (HSN.out wA16 (HK5.out.next hA16)) (by omega) (by omega) HSL.out
    rw [Int.natCast_add, show ((1 : Nat) : Int) = 1 from rfl, show ((0 : Nat) : Int) = 0 from rfl] at hse
    go_simp
    refine hse.mono ?_
    clear hse
    rintro e0 w6 ⟨vS, rfl, hvS, hb6⟩
    obtain ⟨p1, p2, p3, rfl, _, hvS2⟩ := hvS.named
    refine hK.out _ _ (fun x => BL w5 x ∧ OwnB 5 x w5.heap.size (.slice p1 p2 p3) (sealB (ge + 1) 0 s)) (⟨fun x h => ⟨BL.cell h.1 HG5.out, BL.cell h.1 HG52.out⟩, fun _ _ h hb => ⟨Below.next h.1 hb, OwnB.below h.2 hb⟩⟩ : Cls (fun x => x.cell? ⟨gl, 0, none⟩ = some (.pointer (some ⟨g, 0, none⟩)) ∧ x.cell? ⟨gl, 2, none⟩ = some (.int .i64 (ge : Int))) (fun x => BL w5 x ∧ OwnB 5 x w5.heap.size (.slice p1 p2 p3) (sealB (ge + 1) 0 s))) ⟨Below.next hA16 hb6, hvS2.base (Below.size hA16)⟩ ?_
    clear hvS hvS2 hb6
    clear hK K
    try simp only [Act.put, zA, zB, zC]
    refine wpAnyU_ready (rs := [17]) (by kernel_rfl) (by simp) ?_
    refine AllReadyU.cons (o := { dst := some 87, op := Op.call { callee := Callee.value (Operand.func 67), args := #[Operand.tmp 73, Operand.tmp 74, Operand.const (Value.int IntKind.i64 0), Operand.tmp 79, Operand.tmp 86], argTypes := #[67, 3, 3, 3, 22] }, type := 27, pos := "ref.go:241", after := #[{ on := 3, ground := Ground.data }, { on := 4, ground := Ground.data }, { on := 9, ground := Ground.data }, { on := 16, ground := Ground.data }, { on := 16, ground := Ground.chain }], guard := none }) rfl (fun wA17 hA17 K hK => ?_) AllReadyU.nil
    have hown := hA17.2
    have hpu := pput_any wA17 g n F3 D2 (HD5.out.below hA17.1) h2 0 (ge + 1) (.slice p1 p2 p3) (sealB (ge + 1) 0 s) (fun w' hk' => (hown.keptJ hk' (fun q hq e => by have h1 := OwnB.ge hown q hq; have h3 := HD5.out.lt q e; omega)).bs) (by rw [sealB_length, ← HLS.out, ← HRLN.out, ← HOTM.out]; omega) (by omega) (by rw [sealB_length]; have := HSL.out; omega) (by rw [sealB_length, ← HLS.out, ← HRLN.out]; have := HOP2.out; omega)
    rw [putL_rows _ _ _ (sealB_length _ _ _), ← HOTM.out, show ot + 0 = ot from rfl, ← HE3.out, ← HD3E.out] at hpu
    rw [Int.natCast_add, show ((1 : Nat) : Int) = 1 from rfl, show ((0 : Nat) : Int) = 0 from rfl] at hpu
    go_simp
    refine hpu.mono ?_
    clear hpu
    rintro e0 w7 ⟨rfl, F4, hd7, hk7, hf7⟩
    have hkW : Kept Fd w w7 := (HK5.out.next hA17.1).trans hk7 (fun i hi e => by
     rcases HF5.out i e with e | e
     ·
      exact e
     ·
      omega)
    have hg7 := HG.out w7 hkW
    have hg72 := HGE.out w7 hkW
    have HF7 : Hid (∀ k, F4 k → Fd k ∨ w.heap.size ≤ k) := fun k e => by
     rcases hf7 k e with e | e
     ·
      exact HF5.out k e
     ·
      have h1 := HK5.out.size; have h2 := Below.size hA17.1; right; omega
    have HD7 := Lib.hid hd7
    have HK7 := Lib.hid hkW
    refine hK.out _ _ (BL w7) (⟨fun x h => ⟨BL.cell h hg7, BL.cell h hg72⟩, fun _ _ h hb => Below.next h hb⟩ : Cls (fun x => x.cell? ⟨gl, 0, none⟩ = some (.pointer (some ⟨g, 0, none⟩)) ∧ x.cell? ⟨gl, 2, none⟩ = some (.int .i64 (ge : Int))) (BL w7)) (Below.refl _ _) ?_
    clear hown hkW hd7 hk7 hf7
    clear hK K
    try simp only [Act.put, zA, zB, zC]
    refine wpAnyU_take (i := 18) (oi := { dst := some 8, op := Op.assign (Operand.tmp 87), type := 27, pos := "ref.go:241", after := #[{ on := 17, ground := Ground.data }, { on := 17, ground := Ground.chain }, { on := 0, ground := Ground.phase }, { on := 1, ground := Ground.phase }, { on := 2, ground := Ground.phase }, { on := 3, ground := Ground.phase }, { on := 4, ground := Ground.phase }, { on := 5, ground := Ground.phase }, { on := 6, ground := Ground.phase }, { on := 7, ground := Ground.phase }, { on := 8, ground := Ground.phase }, { on := 9, ground := Ground.phase }, { on := 10, ground := Ground.phase }, { on := 11, ground := Ground.phase }, { on := 12, ground := Ground.phase }, { on := 13, ground := Ground.phase }, { on := 14, ground := Ground.phase }, { on := 15, ground := Ground.phase }, { on := 16, ground := Ground.phase }, { on := 17, ground := Ground.phase }], guard := none }) (v := (.int .i64 E3)) rfl (by kernel_rfl) (by kernel_rfl) (by kernel_rfl) (by kernel_rfl) (by kernel_rfl) (fun _ _ _ h => h) (⟨fun x h => ⟨BL.cell h hg7, BL.cell h hg72⟩, fun _ _ h hb => Below.next h hb⟩ : Cls (fun x => x.cell? ⟨gl, 0, none⟩ = some (.pointer (some ⟨g, 0, none⟩)) ∧ x.cell? ⟨gl, 2, none⟩ = some (.int .i64 (ge : Int))) (BL w7)) ?_ ?_
    ·
     refine Or.inl ⟨rfl, fun w hSw => ?_⟩
     exact EffR.same (by go_simp)
    try simp only [Act.put, zA, zB, zC]
    refine wpAnyU_done (by kernel_rfl) (fun w1 hb1 => ?_) _
    have HD8 := Lib.hid (HD7.out.below hb1)
    have HK8 := Lib.hid (HK7.out.next hb1)
    clear hb1 HD7 HK7
    by_cases h03 : E3 = 0
    ·
     have h031 : ((E3 : Int) == 0) = true := by rw [h03]; rfl
     have H03 := Lib.hid h03
     clear h03
     have hcg8 := HG.out w1 HK8.out
     have hsy := PSync_x w1 g n F4 D3 HD8.out
     obtain ⟨E4, hE4⟩ : ∃ z, z = (dSync D3).1 := ⟨_, rfl⟩
     obtain ⟨D4, hD4⟩ : ∃ z, z = (dSync D3).2 := ⟨_, rfl⟩
     rw [← hE4, ← hD4] at hsy
     have HE4 := Lib.hid hE4
     have HD4E := Lib.hid hD4
     have HPH2 : Hid (dPhase D2 ot (rowsOf (ge + 1) 0 s) = (E4, D4)) := by
      show _ = _
      unfold dPhase
      rw [if_pos (by rw [← HE3.out]; exact H03.out), ← HD3E.out, HE4.out, HD4E.out]
     clear hE4 hD4
     go_wp2_with fail
     refine hsy.mono ?_
     clear hsy
     rintro e wl ⟨rfl, F5, hd9, hk9, hf9⟩
     have HKL : Hid (Kept Fd w wl) := HK8.out.trans hk9 (fun i hi e => by
      rcases HF7.out i e with e | e
      ·
       exact e
      ·
       omega)
     have HF9 : Hid (∀ q, F5 q → Fd q ∨ w.heap.size ≤ q) := fun q e => by
      rcases hf9 q e with e | e
      ·
       exact HF7.out q e
      ·
       have := HK8.out.size; right; omega
     have HDL := Lib.hid hd9
     clear hd9 hk9 hf9 hcg8
     by_cases h04 : E4 = 0
     ·
      have h041 : ((E4 : Int) != 0) = false := by rw [h04]; rfl
      have H04 := Lib.hid h04
      clear h04
      have HFIN : Hid (PH = (0, D4)) := by
       show _ = _
       rw [HPH1.out, dPhases_ok (by rw [HPH2.out]; exact H04.out), HPH2.out]
       rfl
      have HLL := Lib.hid (HTL.out.keptJ HKL.out (fun e => HDIS.out gl e HGL.out))
      go_upto_region 22 with fail
      rw [HV.out]
      refine wp_region_uni (S0 := (fun _ => True)) (S := BL wl) 37 (by kernel_rfl) (Below.refl _ _).drew ?_
      refine wpAnyU_take (i := 0) (oi := { dst := some 98, op := Op.move (Operand.tmp 0), type := 69, pos := "ref.go:250", after := #[], guard := none }) (v := (.pointer (some ⟨gl, 0, none⟩))) rfl (by kernel_rfl) (by kernel_rfl) (by kernel_rfl) (by kernel_rfl) (by kernel_rfl) (fun _ _ _ h => h) (⟨fun _ _ => trivial, fun _ _ h hb => Below.next h hb⟩ : Cls (fun _ => True) (BL wl)) ?_ ?_
      ·
       refine Or.inl ⟨rfl, fun w hSw => ?_⟩
       exact EffR.same (by go_simp)
      try simp only [Act.put, zA, zB, zC]
      refine wpAnyU_take (i := 1) (oi := { dst := some 99, op := Op.move (Operand.tmp 0), type := 69, pos := "ref.go:250", after := #[{ on := 21, ground := Ground.gcOnly Departure.lateStores }], guard := none }) (v := (.pointer (some ⟨gl, 0, none⟩))) rfl (by kernel_rfl) (by kernel_rfl) (by kernel_rfl) (by kernel_rfl) (by kernel_rfl) (fun _ _ _ h => h) (⟨fun _ _ => trivial, fun _ _ h hb => Below.next h hb⟩ : Cls (fun _ => True) (BL wl)) ?_ ?_
      ·
       refine Or.inl ⟨rfl, fun w hSw => ?_⟩
       exact EffR.same (by go_simp)
      try simp only [Act.put, zA, zB, zC]
      refine wpAnyU_take (i := 2) (oi := { dst := some 100, op := Op.move (Operand.tmp 0), type := 69, pos := "ref.go:250", after := #[{ on := 24, ground := Ground.gcOnly Departure.lateStores }], guard := none }) (v := (.pointer (some ⟨gl, 0, none⟩))) rfl (by kernel_rfl) (by kernel_rfl) (by kernel_rfl) (by kernel_rfl) (by kernel_rfl) (fun _ _ _ h => h) (⟨fun _ _ => trivial, fun _ _ h hb => Below.next h hb⟩ : Cls (fun _ => True) (BL wl)) ?_ ?_
      ·
       refine Or.inl ⟨rfl, fun w hSw => ?_⟩
       exact EffR.same (by go_simp)
      try simp only [Act.put, zA, zB, zC]
      refine wpAnyU_take (i := 3) (oi := { dst := some 101, op := Op.move (Operand.tmp 0), type := 69, pos := "ref.go:250", after := #[{ on := 27, ground := Ground.gcOnly Departure.lateStores }], guard := none }) (v := (.pointer (some ⟨gl, 0, none⟩))) rfl (by kernel_rfl) (by kernel_rfl) (by kernel_rfl) (by kernel_rfl) (by kernel_rfl) (fun _ _ _ h => h) (⟨fun _ _ => trivial, fun _ _ h hb => Below.next h hb⟩ : Cls (fun _ => True) (BL wl)) ?_ ?_
      ·
       refine Or.inl ⟨rfl, fun w hSw => ?_⟩
       exact EffR.same (by go_simp)
      try simp only [Act.put, zA, zB, zC]
      refine wpAnyU_take (i := 4) (oi := { dst := some 102, op := Op.move (Operand.tmp 0), type := 69, pos := "ref.go:250", after := #[{ on := 30, ground := Ground.gcOnly Departure.lateStores }], guard := none }) (v := (.pointer (some ⟨gl, 0, none⟩))) rfl (by kernel_rfl) (by kernel_rfl) (by kernel_rfl) (by kernel_rfl) (by kernel_rfl) (fun _ _ _ h => h) (⟨fun _ _ => trivial, fun _ _ h hb => Below.next h hb⟩ : Cls (fun _ => True) (BL wl)) ?_ ?_
      ·
       refine Or.inl ⟨rfl, fun w hSw => ?_⟩
       exact EffR.same (by go_simp)
      try simp only [Act.put, zA, zB, zC]
      refine wpAnyU_take (i := 5) (oi := { dst := some 103, op := Op.move (Operand.tmp 0), type := 69, pos := "ref.go:250", after := #[{ on := 33, ground := Ground.gcOnly Departure.lateStores }], guard := none }) (v := (.pointer (some ⟨gl, 0, none⟩))) rfl (by kernel_rfl) (by kernel_rfl) (by kernel_rfl) (by kernel_rfl) (by kernel_rfl) (fun _ _ _ h => h) (⟨fun _ _ => trivial, fun _ _ h hb => Below.next h hb⟩ : Cls (fun _ => True) (BL wl)) ?_ ?_
      ·
       refine Or.inl ⟨rfl, fun w hSw => ?_⟩
       exact EffR.same (by go_simp)
      try simp only [Act.put, zA, zB, zC]
      refine wpAnyU_take (i := 6) (oi := { dst := some 104, op := Op.move (Operand.tmp 5), type := 3, pos := "ref.go:250", after := #[], guard := none }) (v := (.int .i64 (h2 : Int))) rfl (by kernel_rfl) (by kernel_rfl) (by kernel_rfl) (by kernel_rfl) (by kernel_rfl) (fun _ _ _ h => h) (⟨fun _ _ => trivial, fun _ _ h hb => Below.next h hb⟩ : Cls (fun _ => True) (BL wl)) ?_ ?_
      ·
       refine Or.inl ⟨rfl, fun w hSw => ?_⟩
       exact EffR.same (by go_simp)
      try simp only [Act.put, zA, zB, zC]
      refine wpAnyU_take (i := 7) (oi := { dst := some 105, op := Op.move (Operand.tmp 0), type := 69, pos := "ref.go:250", after := #[], guard := none }) (v := (.pointer (some ⟨gl, 0, none⟩))) rfl (by kernel_rfl) (by kernel_rfl) (by kernel_rfl) (by kernel_rfl) (by kernel_rfl) (fun _ _ _ h => h) (⟨fun _ _ => trivial, fun _ _ h hb => Below.next h hb⟩ : Cls (fun _ => True) (BL wl)) ?_ ?_
      ·
       refine Or.inl ⟨rfl, fun w hSw => ?_⟩
       exact EffR.same (by go_simp)
      try simp only [Act.put, zA, zB, zC]
      refine wpAnyU_take (i := 8) (oi := { dst := some 106, op := Op.nilCheck (Operand.tmp 105), type := 0, pos := "ref.go:250", after := #[{ on := 7, ground := Ground.data }], guard := none }) (v := (.pointer (some ⟨gl, 0, none⟩))) rfl (by kernel_rfl) (by kernel_rfl) (by kernel_rfl) (by kernel_rfl) (by kernel_rfl) (fun _ _ _ h => h) (⟨fun _ _ => trivial, fun _ _ h hb => Below.next h hb⟩ : Cls (fun _ => True) (BL wl)) ?_ ?_
      ·
       refine Or.inl ⟨rfl, fun w hSw => ?_⟩
       exact EffR.same (by go_simp)
      try simp only [Act.put, zA, zB, zC]
      refine wpAnyU_take (i := 9) (oi := { dst := some 107, op := Op.fieldAddr 107 (Operand.tmp 106) 2, type := 0, pos := "ref.go:250", after := #[{ on := 8, ground := Ground.data }], guard := none }) (v := (.pointer (some ⟨gl, 2, none⟩))) rfl (by kernel_rfl) (by kernel_rfl) (by kernel_rfl) (by kernel_rfl) (by kernel_rfl) (fun _ _ _ h => h) (⟨fun _ _ => trivial, fun _ _ h hb => Below.next h hb⟩ : Cls (fun _ => True) (BL wl)) ?_ ?_
      ·
       refine Or.inl ⟨rfl, fun w hSw => ?_⟩
       exact EffR.same (by go_simp)
      try simp only [Act.put, zA, zB, zC]
      refine wpAnyU_take (i := 12) (oi := { dst := some 110, op := Op.move (Operand.tmp 9), type := 22, pos := "ref.go:250", after := #[], guard := none }) (v := (.slice none 0 0)) rfl (by kernel_rfl) (by kernel_rfl) (by kernel_rfl) (by kernel_rfl) (by kernel_rfl) (fun _ _ _ h => h) (⟨fun _ _ => trivial, fun _ _ h hb => Below.next h hb⟩ : Cls (fun _ => True) (BL wl)) ?_ ?_
      ·
       refine Or.inl ⟨rfl, fun w hSw => ?_⟩
       exact EffR.same (by go_simp)
      try simp only [Act.put, zA, zB, zC]
      refine wpAnyU_take (i := 13) (oi := { dst := some 111, op := Op.move (Operand.tmp 1), type := 22, pos := "ref.go:250", after := #[], guard := none }) (v := (.slice av ls cap)) rfl (by kernel_rfl) (by kernel_rfl) (by kernel_rfl) (by kernel_rfl) (by kernel_rfl) (fun _ _ _ h => h) (⟨fun _ _ => trivial, fun _ _ h hb => Below.next h hb⟩ : Cls (fun _ => True) (BL wl)) ?_ ?_
      ·
       refine Or.inl ⟨rfl, fun w hSw => ?_⟩
       exact EffR.same (by go_simp)
      try simp only [Act.put, zA, zB, zC]
      refine wpAnyU_take (i := 15) (oi := { dst := some 113, op := Op.move (Operand.tmp 1), type := 22, pos := "ref.go:250", after := #[], guard := none }) (v := (.slice av ls cap)) rfl (by kernel_rfl) (by kernel_rfl) (by kernel_rfl) (by kernel_rfl) (by kernel_rfl) (fun _ _ _ h => h) (⟨fun _ _ => trivial, fun _ _ h hb => Below.next h hb⟩ : Cls (fun _ => True) (BL wl)) ?_ ?_
      ·
       refine Or.inl ⟨rfl, fun w hSw => ?_⟩
       exact EffR.same (by go_simp)
      try simp only [Act.put, zA, zB, zC]
      refine wpAnyU_take (i := 16) (oi := { dst := some 114, op := Op.call { callee := Callee.builtin Builtin.len, args := #[Operand.tmp 113], argTypes := #[22] }, type := 3, pos := "ref.go:250", after := #[{ on := 15, ground := Ground.data }], guard := none }) (v := (.int .i64 (ls : Int))) rfl (by kernel_rfl) (by kernel_rfl) (by kernel_rfl) (by kernel_rfl) (by kernel_rfl) (fun _ _ _ h => h) (⟨fun _ _ => trivial, fun _ _ h hb => Below.next h hb⟩ : Cls (fun _ => True) (BL wl)) ?_ ?_
      ·
       refine Or.inl ⟨rfl, fun w hSw => ?_⟩
       exact EffR.same (by go_simp)
      try simp only [Act.put, zA, zB, zC]
      refine wpAnyU_take (i := 17) (oi := { dst := some 115, op := Op.binOp BinOp.add 3 (Operand.tmp 114) (Operand.const (Value.int IntKind.i64 21)) 3, type := 3, pos := "ref.go:250", after := #[{ on := 16, ground := Ground.data }], guard := none }) (v := (.int .i64 ((ls : Int) + 21))) rfl (by kernel_rfl) (by kernel_rfl) (by kernel_rfl) (by kernel_rfl) (by kernel_rfl) (fun _ _ _ h => h) (⟨fun _ _ => trivial, fun _ _ h hb => Below.next h hb⟩ : Cls (fun _ => True) (BL wl)) ?_ ?_
      ·
       refine Or.inl ⟨rfl, fun w hSw => ?_⟩
       have e0 := HWL.out
       exact EffR.same (by go_simp)
      try simp only [Act.put, zA, zB, zC]
      refine wpAnyU_ready (rs := [10, 14]) (by kernel_rfl) (by simp) ?_
      refine AllReadyU.cons (o := { dst := some 108, op := Op.load 3 (Operand.tmp 107), type := 3, pos := "ref.go:250", after := #[{ on := 9, ground := Ground.data }], guard := none }) rfl (fun wA10 hA10 K hK => ?_) (AllReadyU.cons (o := { dst := some 112, op := Op.call { callee := Callee.builtin Builtin.append, args := #[Operand.tmp 110, Operand.tmp 111], argTypes := #[22, 22] }, type := 22, pos := "ref.go:250", after := #[{ on := 12, ground := Ground.data }, { on := 13, ground := Ground.data }], guard := none }) rfl (fun wA14 hA14 K hK => ?_) AllReadyU.nil)
      ·
       go_simp
       have c2 := (HT.below HLL.out hA10).cell (j := 2) rfl
       go_simp
       refine hK.out _ _ (BL wl) (⟨fun _ _ => trivial, fun _ _ h hb => Below.next h hb⟩ : Cls (fun _ => True) (BL wl)) hA10 ?_
       clear c2
       clear hK K
       try simp only [Act.put, zA, zB, zC]
       refine wpAnyU_take (i := 11) (oi := { dst := some 109, op := Op.binOp BinOp.add 3 (Operand.tmp 108) (Operand.const (Value.int IntKind.i64 1)) 3, type := 3, pos := "ref.go:250", after := #[{ on := 10, ground := Ground.data }], guard := none }) (v := (.int .i64 ((ge : Int) + 1))) rfl (by kernel_rfl) (by kernel_rfl) (by kernel_rfl) (by kernel_rfl) (by kernel_rfl) (fun _ _ _ h => h) (⟨fun _ _ => trivial, fun _ _ h hb => Below.next h hb⟩ : Cls (fun _ => True) (BL wl)) ?_ ?_
       ·
        refine Or.inl ⟨rfl, fun w hSw => ?_⟩
        have e0 := HWG.out
        exact EffR.same (by go_simp)
       try simp only [Act.put, zA, zB, zC]
       refine wpAnyU_ready (rs := [14]) (by kernel_rfl) (by simp) ?_
       refine AllReadyU.cons (o := { dst := some 112, op := Op.call { callee := Callee.builtin Builtin.append, args := #[Operand.tmp 110, Operand.tmp 111], argTypes := #[22, 22] }, type := 22, pos := "ref.go:250", after := #[{ on := 12, ground := Ground.data }, { on := 13, ground := Ground.data }], guard := none }) rfl (fun wA14 hA14 K hK => ?_) AllReadyU.nil
       have hsrc := HSN0.out wA14 (HKL.out.next hA14)
       refine step_append_bytes (v := .slice none 0 0) (l := []) (m := s) rfl (.tmp 110) (.tmp 111) 22 rfl (base := wl.heap.size) elem_u8 rfl rfl (OwnB.empty _ _ _) hsrc (by have := HSL.out; simp; omega) (Below.size hA14) ?_
       intro a9 n9 c9 w9 Hn9 ho9 hb9 hg9
       refine hK.out _ _ (fun x => BL wl x ∧ OwnB 5 x wl.heap.size (.slice a9 n9 c9) s) (⟨fun _ _ => trivial, fun _ _ h hb => ⟨Below.next h.1 hb, OwnB.below h.2 hb⟩⟩ : Cls (fun _ => True) (fun x => BL wl x ∧ OwnB 5 x wl.heap.size (.slice a9 n9 c9) s)) ⟨Below.trans hA14 hb9, ho9⟩ ?_
       clear hsrc ho9 hb9 hg9 Hn9
       clear hK K
       try simp only [Act.put, zA, zB, zC]
       refine wpAnyU_take (i := 18) (oi := { dst := some 116, op := Op.call { callee := Callee.value (Operand.func 65), args := #[Operand.tmp 115], argTypes := #[3] }, type := 3, pos := "ref.go:250", after := #[{ on := 17, ground := Ground.data }, { on := 14, ground := Ground.chain }], guard := none }) (v := (.int .i64 (rl : Int))) rfl (by kernel_rfl) (by kernel_rfl) (by kernel_rfl) (by kernel_rfl) (by kernel_rfl) (fun _ _ _ h => h) (⟨fun _ _ => trivial, fun _ _ h hb => ⟨Below.next h.1 hb, OwnB.below h.2 hb⟩⟩ : Cls (fun _ => True) (fun x => BL wl x ∧ OwnB 5 x wl.heap.size (.slice a9 n9 c9) s)) ?_ ?_
       ·
        refine Or.inl ⟨rfl, fun w hSw => ?_⟩
        have hbl := pBlocks_any w (ls + 21) (by omega)
        rw [← HRLN.out, show ((ls + 21 : Nat) : Int) = (ls : Int) + 21 from by push_cast; rfl] at hbl
        go_simp
        show Calls _ _ _ _ _
        refine hbl.mono ?_
        rintro e w1 ⟨rfl, rfl⟩
        exact ⟨rfl, Below.refl _ _⟩
       try simp only [Act.put, zA, zB, zC]
       refine wpAnyU_take (i := 19) (oi := { dst := some 117, op := Op.nilCheck (Operand.tmp 98), type := 0, pos := "ref.go:250", after := #[{ on := 0, ground := Ground.data }, { on := 0, ground := Ground.phase }, { on := 1, ground := Ground.textOnly Departure.lateStores }, { on := 2, ground := Ground.textOnly Departure.lateStores }, { on := 3, ground := Ground.textOnly Departure.lateStores }, { on := 4, ground := Ground.textOnly Departure.lateStores }, { on := 5, ground := Ground.textOnly Departure.lateStores }, { on := 6, ground := Ground.phase }, { on := 7, ground := Ground.textOnly Departure.lateStores }, { on := 8, ground := Ground.textOnly Departure.lateStoresUnsure }, { on := 9, ground := Ground.textOnly Departure.lateStoresUnsure }, { on := 10, ground := Ground.phase }, { on := 11, ground := Ground.textOnly Departure.lateStoresUnsure }, { on := 12, ground := Ground.textOnly Departure.lateStores }, { on := 13, ground := Ground.textOnly Departure.lateStores }, { on := 14, ground := Ground.phase }, { on := 15, ground := Ground.textOnly Departure.lateStores }, { on := 16, ground := Ground.textOnly Departure.lateStoresUnsure }, { on := 17, ground := Ground.textOnly Departure.lateStores }, { on := 18, ground := Ground.phase }], guard := none }) (v := (.pointer (some ⟨gl, 0, none⟩))) rfl (by kernel_rfl) (by kernel_rfl) (by kernel_rfl) (by kernel_rfl) (by kernel_rfl) (fun _ _ _ h => h) (⟨fun _ _ => trivial, fun _ _ h hb => ⟨Below.next h.1 hb, OwnB.below h.2 hb⟩⟩ : Cls (fun _ => True) (fun x => BL wl x ∧ OwnB 5 x wl.heap.size (.slice a9 n9 c9) s)) ?_ ?_
       ·
        refine Or.inl ⟨rfl, fun w hSw => ?_⟩
        exact EffR.same (by go_simp)
       try simp only [Act.put, zA, zB, zC]
       refine wpAnyU_take (i := 20) (oi := { dst := some 118, op := Op.fieldAddr 107 (Operand.tmp 117) 1, type := 0, pos := "ref.go:250", after := #[{ on := 19, ground := Ground.data }, { on := 0, ground := Ground.phase }, { on := 1, ground := Ground.textOnly Departure.lateStores }, { on := 2, ground := Ground.textOnly Departure.lateStores }, { on := 3, ground := Ground.textOnly Departure.lateStores }, { on := 4, ground := Ground.textOnly Departure.lateStores }, { on := 5, ground := Ground.textOnly Departure.lateStores }, { on := 6, ground := Ground.phase }, { on := 7, ground := Ground.textOnly Departure.lateStores }, { on := 8, ground := Ground.textOnly Departure.lateStoresUnsure }, { on := 9, ground := Ground.textOnly Departure.lateStoresUnsure }, { on := 10, ground := Ground.phase }, { on := 11, ground := Ground.textOnly Departure.lateStoresUnsure }, { on := 12, ground := Ground.textOnly Departure.lateStores }, { on := 13, ground := Ground.textOnly Departure.lateStores }, { on := 14, ground := Ground.phase }, { on := 15, ground := Ground.textOnly Departure.lateStores }, { on := 16, ground := Ground.textOnly Departure.lateStoresUnsure }, { on := 17, ground := Ground.textOnly Departure.lateStores }, { on := 18, ground := Ground.phase }], guard := none }) (v := (.pointer (some ⟨gl, 1, none⟩))) rfl (by kernel_rfl) (by kernel_rfl) (by kernel_rfl) (by kernel_rfl) (by kernel_rfl) (fun _ _ _ h => h) (⟨fun _ _ => trivial, fun _ _ h hb => ⟨Below.next h.1 hb, OwnB.below h.2 hb⟩⟩ : Cls (fun _ => True) (fun x => BL wl x ∧ OwnB 5 x wl.heap.size (.slice a9 n9 c9) s)) ?_ ?_
       ·
        refine Or.inl ⟨rfl, fun w hSw => ?_⟩
        exact EffR.same (by go_simp)
       try simp only [Act.put, zA, zB, zC]
       refine wpAnyU_ready (rs := [21]) (by kernel_rfl) (by simp) ?_
       refine AllReadyU.cons (o := { dst := none, op := Op.store 3 (Operand.tmp 118) (Operand.tmp 104), type := 0, pos := "ref.go:250", after := #[{ on := 20, ground := Ground.data }, { on := 6, ground := Ground.data }, { on := 18, ground := Ground.chain }, { on := 0, ground := Ground.phase }, { on := 1, ground := Ground.textOnly Departure.lateStores }, { on := 2, ground := Ground.textOnly Departure.lateStores }, { on := 3, ground := Ground.textOnly Departure.lateStores }, { on := 4, ground := Ground.textOnly Departure.lateStores }, { on := 5, ground := Ground.textOnly Departure.lateStores }, { on := 6, ground := Ground.phase }, { on := 7, ground := Ground.textOnly Departure.lateStores }, { on := 8, ground := Ground.textOnly Departure.lateStoresUnsure }, { on := 9, ground := Ground.textOnly Departure.lateStoresUnsure }, { on := 10, ground := Ground.phase }, { on := 11, ground := Ground.textOnly Departure.lateStoresUnsure }, { on := 12, ground := Ground.textOnly Departure.lateStores }, { on := 13, ground := Ground.textOnly Departure.lateStores }, { on := 14, ground := Ground.phase }, { on := 15, ground := Ground.textOnly Departure.lateStores }, { on := 16, ground := Ground.textOnly Departure.lateStoresUnsure }, { on := 17, ground := Ground.textOnly Departure.lateStores }, { on := 18, ground := Ground.phase }], guard := none }) rfl (fun wA21 hA21 K hK => ?_) AllReadyU.nil
       have hx := HT.below HLL.out hA21.1
       have cj := hx.cell (j := 1) rfl
       have fj := hx.frozen 1
       have how := hA21.2
       go_simp
       obtain ⟨w21, hw21⟩ : ∃ z, z = wA21.setCell ⟨gl, 1, none⟩ (.int .i64 (h2 : Int)) := ⟨_, rfl⟩
       have hk1 : Kept (fun q => q = gl) wA21 w21 := by rw [hw21]; exact (Kept.refl (fun q => q = gl) wA21).setCell ⟨gl, 1, none⟩ _ rfl
       have HXw21 : Hid (HT w21 gl 107 [.pointer (some ⟨g, 0, none⟩), .int .i64 (h2 : Int), .int .i64 (ge : Int), .slice a1 n1 c1, .slice a2 n2 c2, .int .i64 (fi : Int), .bool bg]) := by show HT _ _ _ _; rw [hw21]; exact hx.put 1 (.int .i64 (h2 : Int))
       have HKw21 : Hid (Kept (fun q => q = gl) wl w21) := ((Kept.refl (fun q => q = gl) wl).next hA21.1).trans hk1 (fun _ _ e => e)
       have HOw21 : Hid (OwnB 5 w21 wl.heap.size (.slice a9 n9 c9) s) := how.keptJ hk1 (fun q hq e => by have := OwnB.ge how q hq; have := HLL.out.lt; omega)
       rw [← hw21]
       refine hK.out _ _ (BL w21) (⟨fun _ _ => trivial, fun _ _ h hb => Below.next h hb⟩ : Cls (fun _ => True) (BL w21)) (Below.refl _ _) ?_
       clear hx cj fj how hk1 hw21
       clear hK K
       try simp only [Act.put]
       refine wpAnyU_take (i := 22) (oi := { dst := some 119, op := Op.nilCheck (Operand.tmp 99), type := 0, pos := "ref.go:250", after := #[{ on := 1, ground := Ground.data }, { on := 0, ground := Ground.phase }, { on := 1, ground := Ground.phase }, { on := 2, ground := Ground.textOnly Departure.lateStores }, { on := 3, ground := Ground.textOnly Departure.lateStores }, { on := 4, ground := Ground.textOnly Departure.lateStores }, { on := 5, ground := Ground.textOnly Departure.lateStores }, { on := 6, ground := Ground.phase }, { on := 7, ground := Ground.phase }, { on := 8, ground := Ground.phase }, { on := 9, ground := Ground.phase }, { on := 10, ground := Ground.phase }, { on := 11, ground := Ground.phase }, { on := 12, ground := Ground.textOnly Departure.lateStores }, { on := 13, ground := Ground.textOnly Departure.lateStores }, { on := 14, ground := Ground.phase }, { on := 15, ground := Ground.textOnly Departure.lateStores }, { on := 16, ground := Ground.textOnly Departure.lateStoresUnsure }, { on := 17, ground := Ground.textOnly Departure.lateStores }, { on := 18, ground := Ground.phase }, { on := 19, ground := Ground.phase }, { on := 20, ground := Ground.phase }, { on := 21, ground := Ground.phase }], guard := none }) (v := (.pointer (some ⟨gl, 0, none⟩))) rfl (by kernel_rfl) (by kernel_rfl) (by kernel_rfl) (by kernel_rfl) (by kernel_rfl) (fun _ _ _ h => h) (⟨fun _ _ => trivial, fun _ _ h hb => Below.next h hb⟩ : Cls (fun _ => True) (BL w21)) ?_ ?_
       ·
        refine Or.inl ⟨rfl, fun w hSw => ?_⟩
        exact EffR.same (by go_simp)
       try simp only [Act.put, zA, zB, zC]
       refine wpAnyU_take (i := 23) (oi := { dst := some 120, op := Op.fieldAddr 107 (Operand.tmp 119) 2, type := 0, pos := "ref.go:250", after := #[{ on := 22, ground := Ground.data }, { on := 0, ground := Ground.phase }, { on := 1, ground := Ground.phase }, { on := 2, ground := Ground.textOnly Departure.lateStores }, { on := 3, ground := Ground.textOnly Departure.lateStores }, { on := 4, ground := Ground.textOnly Departure.lateStores }, { on := 5, ground := Ground.textOnly Departure.lateStores }, { on := 6, ground := Ground.phase }, { on := 7, ground := Ground.phase }, { on := 8, ground := Ground.phase }, { on := 9, ground := Ground.phase }, { on := 10, ground := Ground.phase }, { on := 11, ground := Ground.phase }, { on := 12, ground := Ground.textOnly Departure.lateStores }, { on := 13, ground := Ground.textOnly Departure.lateStores }, { on := 14, ground := Ground.phase }, { on := 15, ground := Ground.textOnly Departure.lateStores }, { on := 16, ground := Ground.textOnly Departure.lateStoresUnsure }, { on := 17, ground := Ground.textOnly Departure.lateStores }, { on := 18, ground := Ground.phase }, { on := 19, ground := Ground.phase }, { on := 20, ground := Ground.phase }, { on := 21, ground := Ground.phase }], guard := none }) (v := (.pointer (some ⟨gl, 2, none⟩))) rfl (by kernel_rfl) (by kernel_rfl) (by kernel_rfl) (by kernel_rfl) (by kernel_rfl) (fun _ _ _ h => h) (⟨fun _ _ => trivial, fun _ _ h hb => Below.next h hb⟩ : Cls (fun _ => True) (BL w21)) ?_ ?_
       ·
        refine Or.inl ⟨rfl, fun w hSw => ?_⟩
        exact EffR.same (by go_simp)
       try simp only [Act.put, zA, zB, zC]
       refine wpAnyU_ready (rs := [24]) (by kernel_rfl) (by simp) ?_
       refine AllReadyU.cons (o := { dst := none, op := Op.store 3 (Operand.tmp 120) (Operand.tmp 109), type := 0, pos := "ref.go:250", after := #[{ on := 23, ground := Ground.data }, { on := 11, ground := Ground.data }, { on := 21, ground := Ground.chain }, { on := 0, ground := Ground.phase }, { on := 1, ground := Ground.phase }, { on := 2, ground := Ground.textOnly Departure.lateStores }, { on := 3, ground := Ground.textOnly Departure.lateStores }, { on := 4, ground := Ground.textOnly Departure.lateStores }, { on := 5, ground := Ground.textOnly Departure.lateStores }, { on := 6, ground := Ground.phase }, { on := 7, ground := Ground.phase }, { on := 8, ground := Ground.phase }, { on := 9, ground := Ground.phase }, { on := 10, ground := Ground.phase }, { on := 11, ground := Ground.phase }, { on := 12, ground := Ground.textOnly Departure.lateStores }, { on := 13, ground := Ground.textOnly Departure.lateStores }, { on := 14, ground := Ground.phase }, { on := 15, ground := Ground.textOnly Departure.lateStores }, { on := 16, ground := Ground.textOnly Departure.lateStoresUnsure }, { on := 17, ground := Ground.textOnly Departure.lateStores }, { on := 18, ground := Ground.phase }, { on := 19, ground := Ground.phase }, { on := 20, ground := Ground.phase }, { on := 21, ground := Ground.phase }], guard := none }) rfl (fun wA24 hA24 K hK => ?_) AllReadyU.nil
       have hx := HT.below HXw21.out hA24
       have cj := hx.cell (j := 2) rfl
       have fj := hx.frozen 2
       have how := OwnB.below HOw21.out hA24
       go_simp
       obtain ⟨w24, hw24⟩ : ∃ z, z = wA24.setCell ⟨gl, 2, none⟩ (.int .i64 ((ge : Int) + 1)) := ⟨_, rfl⟩
       have hk1 : Kept (fun q => q = gl) wA24 w24 := by rw [hw24]; exact (Kept.refl (fun q => q = gl) wA24).setCell ⟨gl, 2, none⟩ _ rfl
       have HXw24 : Hid (HT w24 gl 107 [.pointer (some ⟨g, 0, none⟩), .int .i64 (h2 : Int), .int .i64 ((ge : Int) + 1), .slice a1 n1 c1, .slice a2 n2 c2, .int .i64 (fi : Int), .bool bg]) := by show HT _ _ _ _; rw [hw24]; exact hx.put 2 (.int .i64 ((ge : Int) + 1))
       have HKw24 : Hid (Kept (fun q => q = gl) wl w24) := ((HKw21.out).next hA24).trans hk1 (fun _ _ e => e)
       have HOw24 : Hid (OwnB 5 w24 wl.heap.size (.slice a9 n9 c9) s) := how.keptJ hk1 (fun q hq e => by have := OwnB.ge how q hq; have := HLL.out.lt; omega)
       rw [← hw24]
       refine hK.out _ _ (BL w24) (⟨fun _ _ => trivial, fun _ _ h hb => Below.next h hb⟩ : Cls (fun _ => True) (BL w24)) (Below.refl _ _) ?_
       clear hx cj fj how hk1 hw24
       clear hK K
       try simp only [Act.put]
       refine wpAnyU_take (i := 25) (oi := { dst := some 121, op := Op.nilCheck (Operand.tmp 100), type := 0, pos := "ref.go:250", after := #[{ on := 2, ground := Ground.data }, { on := 0, ground := Ground.phase }, { on := 1, ground := Ground.phase }, { on := 2, ground := Ground.phase }, { on := 3, ground := Ground.textOnly Departure.lateStores }, { on := 4, ground := Ground.textOnly Departure.lateStores }, { on := 5, ground := Ground.textOnly Departure.lateStores }, { on := 6, ground := Ground.phase }, { on := 7, ground := Ground.phase }, { on := 8, ground := Ground.phase }, { on := 9, ground := Ground.phase }, { on := 10, ground := Ground.phase }, { on := 11, ground := Ground.phase }, { on := 12, ground := Ground.phase }, { on := 13, ground := Ground.phase }, { on := 14, ground := Ground.phase }, { on := 15, ground := Ground.textOnly Departure.lateStores }, { on := 16, ground := Ground.textOnly Departure.lateStoresUnsure }, { on := 17, ground := Ground.textOnly Departure.lateStores }, { on := 18, ground := Ground.phase }, { on := 19, ground := Ground.phase }, { on := 20, ground := Ground.phase }, { on := 21, ground := Ground.phase }, { on := 22, ground := Ground.phase }, { on := 23, ground := Ground.phase }, { on := 24, ground := Ground.phase }], guard := none }) (v := (.pointer (some ⟨gl, 0, none⟩))) rfl (by kernel_rfl) (by kernel_rfl) (by kernel_rfl) (by kernel_rfl) (by kernel_rfl) (fun _ _ _ h => h) (⟨fun _ _ => trivial, fun _ _ h hb => Below.next h hb⟩ : Cls (fun _ => True) (BL w24)) ?_ ?_
       ·
        refine Or.inl ⟨rfl, fun w hSw => ?_⟩
        exact EffR.same (by go_simp)
       try simp only [Act.put, zA, zB, zC]
       refine wpAnyU_take (i := 26) (oi := { dst := some 122, op := Op.fieldAddr 107 (Operand.tmp 121) 3, type := 0, pos := "ref.go:250", after := #[{ on := 25, ground := Ground.data }, { on := 0, ground := Ground.phase }, { on := 1, ground := Ground.phase }, { on := 2, ground := Ground.phase }, { on := 3, ground := Ground.textOnly Departure.lateStores }, { on := 4, ground := Ground.textOnly Departure.lateStores }, { on := 5, ground := Ground.textOnly Departure.lateStores }, { on := 6, ground := Ground.phase }, { on := 7, ground := Ground.phase }, { on := 8, ground := Ground.phase }, { on := 9, ground := Ground.phase }, { on := 10, ground := Ground.phase }, { on := 11, ground := Ground.phase }, { on := 12, ground := Ground.phase }, { on := 13, ground := Ground.phase }, { on := 14, ground := Ground.phase }, { on := 15, ground := Ground.textOnly Departure.lateStores }, { on := 16, ground := Ground.textOnly Departure.lateStoresUnsure }, { on := 17, ground := Ground.textOnly Departure.lateStores }, { on := 18, ground := Ground.phase }, { on := 19, ground := Ground.phase }, { on := 20, ground := Ground.phase }, { on := 21, ground := Ground.phase }, { on := 22, ground := Ground.phase }, { on := 23, ground := Ground.phase }, { on := 24, ground := Ground.phase }], guard := none }) (v := (.pointer (some ⟨gl, 3, none⟩))) rfl (by kernel_rfl) (by kernel_rfl) (by kernel_rfl) (by kernel_rfl) (by kernel_rfl) (fun _ _ _ h => h) (⟨fun _ _ => trivial, fun _ _ h hb => Below.next h hb⟩ : Cls (fun _ => True) (BL w24)) ?_ ?_
       ·
        refine Or.inl ⟨rfl, fun w hSw => ?_⟩
        exact EffR.same (by go_simp)
       try simp only [Act.put, zA, zB, zC]
       refine wpAnyU_ready (rs := [27]) (by kernel_rfl) (by simp) ?_
       refine AllReadyU.cons (o := { dst := none, op := Op.store 22 (Operand.tmp 122) (Operand.tmp 112), type := 0, pos := "ref.go:250", after := #[{ on := 26, ground := Ground.data }, { on := 14, ground := Ground.data }, { on := 24, ground := Ground.chain }, { on := 0, ground := Ground.phase }, { on := 1, ground := Ground.phase }, { on := 2, ground := Ground.phase }, { on := 3, ground := Ground.textOnly Departure.lateStores }, { on := 4, ground := Ground.textOnly Departure.lateStores }, { on := 5, ground := Ground.textOnly Departure.lateStores }, { on := 6, ground := Ground.phase }, { on := 7, ground := Ground.phase }, { on := 8, ground := Ground.phase }, { on := 9, ground := Ground.phase }, { on := 10, ground := Ground.phase }, { on := 11, ground := Ground.phase }, { on := 12, ground := Ground.phase }, { on := 13, ground := Ground.phase }, { on := 14, ground := Ground.phase }, { on := 15, ground := Ground.textOnly Departure.lateStores }, { on := 16, ground := Ground.textOnly Departure.lateStoresUnsure }, { on := 17, ground := Ground.textOnly Departure.lateStores }, { on := 18, ground := Ground.phase }, { on := 19, ground := Ground.phase }, { on := 20, ground := Ground.phase }, { on := 21, ground := Ground.phase }, { on := 22, ground := Ground.phase }, { on := 23, ground := Ground.phase }, { on := 24, ground := Ground.phase }], guard := none }) rfl (fun wA27 hA27 K hK => ?_) AllReadyU.nil
       have hx := HT.below HXw24.out hA27
       have cj := hx.cell (j := 3) rfl
       have fj := hx.frozen 3
       have how := OwnB.below HOw24.out hA27
       go_simp
       obtain ⟨w27, hw27⟩ : ∃ z, z = wA27.setCell ⟨gl, 3, none⟩ (.slice a9 n9 c9) := ⟨_, rfl⟩
       have hk1 : Kept (fun q => q = gl) wA27 w27 := by rw [hw27]; exact (Kept.refl (fun q => q = gl) wA27).setCell ⟨gl, 3, none⟩ _ rfl
       have HXw27 : Hid (HT w27 gl 107 [.pointer (some ⟨g, 0, none⟩), .int .i64 (h2 : Int), .int .i64 ((ge : Int) + 1), .slice a9 n9 c9, .slice a2 n2 c2, .int .i64 (fi : Int), .bool bg]) := by show HT _ _ _ _; rw [hw27]; exact hx.put 3 (.slice a9 n9 c9)
       have HKw27 : Hid (Kept (fun q => q = gl) wl w27) := ((HKw24.out).next hA27).trans hk1 (fun _ _ e => e)
       have HOw27 : Hid (OwnB 5 w27 wl.heap.size (.slice a9 n9 c9) s) := how.keptJ hk1 (fun q hq e => by have := OwnB.ge how q hq; have := HLL.out.lt; omega)
       rw [← hw27]
       refine hK.out _ _ (BL w27) (⟨fun _ _ => trivial, fun _ _ h hb => Below.next h hb⟩ : Cls (fun _ => True) (BL w27)) (Below.refl _ _) ?_
       clear hx cj fj how hk1 hw27
       clear hK K
       try simp only [Act.put]
       refine wpAnyU_take (i := 28) (oi := { dst := some 123, op := Op.nilCheck (Operand.tmp 101), type := 0, pos := "ref.go:250", after := #[{ on := 3, ground := Ground.data }, { on := 0, ground := Ground.phase }, { on := 1, ground := Ground.phase }, { on := 2, ground := Ground.phase }, { on := 3, ground := Ground.phase }, { on := 4, ground := Ground.textOnly Departure.lateStores }, { on := 5, ground := Ground.textOnly Departure.lateStores }, { on := 6, ground := Ground.phase }, { on := 7, ground := Ground.phase }, { on := 8, ground := Ground.phase }, { on := 9, ground := Ground.phase }, { on := 10, ground := Ground.phase }, { on := 11, ground := Ground.phase }, { on := 12, ground := Ground.phase }, { on := 13, ground := Ground.phase }, { on := 14, ground := Ground.phase }, { on := 15, ground := Ground.textOnly Departure.lateStores }, { on := 16, ground := Ground.textOnly Departure.lateStoresUnsure }, { on := 17, ground := Ground.textOnly Departure.lateStores }, { on := 18, ground := Ground.phase }, { on := 19, ground := Ground.phase }, { on := 20, ground := Ground.phase }, { on := 21, ground := Ground.phase }, { on := 22, ground := Ground.phase }, { on := 23, ground := Ground.phase }, { on := 24, ground := Ground.phase }, { on := 25, ground := Ground.phase }, { on := 26, ground := Ground.phase }, { on := 27, ground := Ground.phase }], guard := none }) (v := (.pointer (some ⟨gl, 0, none⟩))) rfl (by kernel_rfl) (by kernel_rfl) (by kernel_rfl) (by kernel_rfl) (by kernel_rfl) (fun _ _ _ h => h) (⟨fun _ _ => trivial, fun _ _ h hb => Below.next h hb⟩ : Cls (fun _ => True) (BL w27)) ?_ ?_
       ·
        refine Or.inl ⟨rfl, fun w hSw => ?_⟩
        exact EffR.same (by go_simp)
       try simp only [Act.put, zA, zB, zC]
       refine wpAnyU_take (i := 29) (oi := { dst := some 124, op := Op.fieldAddr 107 (Operand.tmp 123) 4, type := 0, pos := "ref.go:250", after := #[{ on := 28, ground := Ground.data }, { on := 0, ground := Ground.phase }, { on := 1, ground := Ground.phase }, { on := 2, ground := Ground.phase }, { on := 3, ground := Ground.phase }, { on := 4, ground := Ground.textOnly Departure.lateStores }, { on := 5, ground := Ground.textOnly Departure.lateStores }, { on := 6, ground := Ground.phase }, { on := 7, ground := Ground.phase }, { on := 8, ground := Ground.phase }, { on := 9, ground := Ground.phase }, { on := 10, ground := Ground.phase }, { on := 11, ground := Ground.phase }, { on := 12, ground := Ground.phase }, { on := 13, ground := Ground.phase }, { on := 14, ground := Ground.phase }, { on := 15, ground := Ground.textOnly Departure.lateStores }, { on := 16, ground := Ground.textOnly Departure.lateStoresUnsure }, { on := 17, ground := Ground.textOnly Departure.lateStores }, { on := 18, ground := Ground.phase }, { on := 19, ground := Ground.phase }, { on := 20, ground := Ground.phase }, { on := 21, ground := Ground.phase }, { on := 22, ground := Ground.phase }, { on := 23, ground := Ground.phase }, { on := 24, ground := Ground.phase }, { on := 25, ground := Ground.phase }, { on := 26, ground := Ground.phase }, { on := 27, ground := Ground.phase }], guard := none }) (v := (.pointer (some ⟨gl, 4, none⟩))) rfl (by kernel_rfl) (by kernel_rfl) (by kernel_rfl) (by kernel_rfl) (by kernel_rfl) (fun _ _ _ h => h) (⟨fun _ _ => trivial, fun _ _ h hb => Below.next h hb⟩ : Cls (fun _ => True) (BL w27)) ?_ ?_
       ·
        refine Or.inl ⟨rfl, fun w hSw => ?_⟩
        exact EffR.same (by go_simp)
       try simp only [Act.put, zA, zB, zC]
       refine wpAnyU_ready (rs := [30]) (by kernel_rfl) (by simp) ?_
       refine AllReadyU.cons (o := { dst := none, op := Op.store 23 (Operand.tmp 124) (Operand.const (Value.slice none 0 0)), type := 0, pos := "ref.go:250", after := #[{ on := 29, ground := Ground.data }, { on := 27, ground := Ground.chain }, { on := 0, ground := Ground.phase }, { on := 1, ground := Ground.phase }, { on := 2, ground := Ground.phase }, { on := 3, ground := Ground.phase }, { on := 4, ground := Ground.textOnly Departure.lateStores }, { on := 5, ground := Ground.textOnly Departure.lateStores }, { on := 6, ground := Ground.phase }, { on := 7, ground := Ground.phase }, { on := 8, ground := Ground.phase }, { on := 9, ground := Ground.phase }, { on := 10, ground := Ground.phase }, { on := 11, ground := Ground.phase }, { on := 12, ground := Ground.phase }, { on := 13, ground := Ground.phase }, { on := 14, ground := Ground.phase }, { on := 15, ground := Ground.textOnly Departure.lateStores }, { on := 16, ground := Ground.textOnly Departure.lateStoresUnsure }, { on := 17, ground := Ground.textOnly Departure.lateStores }, { on := 18, ground := Ground.phase }, { on := 19, ground := Ground.phase }, { on := 20, ground := Ground.phase }, { on := 21, ground := Ground.phase }, { on := 22, ground := Ground.phase }, { on := 23, ground := Ground.phase }, { on := 24, ground := Ground.phase }, { on := 25, ground := Ground.phase }, { on := 26, ground := Ground.phase }, { on := 27, ground := Ground.phase }], guard := none }) rfl (fun wA30 hA30 K hK => ?_) AllReadyU.nil
       have hx := HT.below HXw27.out hA30
       have cj := hx.cell (j := 4) rfl
       have fj := hx.frozen 4
       have how := OwnB.below HOw27.out hA30
       go_simp
       obtain ⟨w30, hw30⟩ : ∃ z, z = wA30.setCell ⟨gl, 4, none⟩ (.slice none 0 0) := ⟨_, rfl⟩
       have hk1 : Kept (fun q => q = gl) wA30 w30 := by rw [hw30]; exact (Kept.refl (fun q => q = gl) wA30).setCell ⟨gl, 4, none⟩ _ rfl
       have HXw30 : Hid (HT w30 gl 107 [.pointer (some ⟨g, 0, none⟩), .int .i64 (h2 : Int), .int .i64 ((ge : Int) + 1), .slice a9 n9 c9, .slice none 0 0, .int .i64 (fi : Int), .bool bg]) := by show HT _ _ _ _; rw [hw30]; exact hx.put 4 (.slice none 0 0)
       have HKw30 : Hid (Kept (fun q => q = gl) wl w30) := ((HKw27.out).next hA30).trans hk1 (fun _ _ e => e)
       have HOw30 : Hid (OwnB 5 w30 wl.heap.size (.slice a9 n9 c9) s) := how.keptJ hk1 (fun q hq e => by have := OwnB.ge how q hq; have := HLL.out.lt; omega)
       rw [← hw30]
       refine hK.out _ _ (BL w30) (⟨fun _ _ => trivial, fun _ _ h hb => Below.next h hb⟩ : Cls (fun _ => True) (BL w30)) (Below.refl _ _) ?_
       clear hx cj fj how hk1 hw30
       clear hK K
       try simp only [Act.put]
       refine wpAnyU_take (i := 31) (oi := { dst := some 125, op := Op.nilCheck (Operand.tmp 102), type := 0, pos := "ref.go:250", after := #[{ on := 4, ground := Ground.data }, { on := 0, ground := Ground.phase }, { on := 1, ground := Ground.phase }, { on := 2, ground := Ground.phase }, { on := 3, ground := Ground.phase }, { on := 4, ground := Ground.phase }, { on := 5, ground := Ground.textOnly Departure.lateStores }, { on := 6, ground := Ground.phase }, { on := 7, ground := Ground.phase }, { on := 8, ground := Ground.phase }, { on := 9, ground := Ground.phase }, { on := 10, ground := Ground.phase }, { on := 11, ground := Ground.phase }, { on := 12, ground := Ground.phase }, { on := 13, ground := Ground.phase }, { on := 14, ground := Ground.phase }, { on := 15, ground := Ground.phase }, { on := 16, ground := Ground.phase }, { on := 17, ground := Ground.phase }, { on := 18, ground := Ground.phase }, { on := 19, ground := Ground.phase }, { on := 20, ground := Ground.phase }, { on := 21, ground := Ground.phase }, { on := 22, ground := Ground.phase }, { on := 23, ground := Ground.phase }, { on := 24, ground := Ground.phase }, { on := 25, ground := Ground.phase }, { on := 26, ground := Ground.phase }, { on := 27, ground := Ground.phase }, { on := 28, ground := Ground.phase }, { on := 29, ground := Ground.phase }, { on := 30, ground := Ground.phase }], guard := none }) (v := (.pointer (some ⟨gl, 0, none⟩))) rfl (by kernel_rfl) (by kernel_rfl) (by kernel_rfl) (by kernel_rfl) (by kernel_rfl) (fun _ _ _ h => h) (⟨fun _ _ => trivial, fun _ _ h hb => Below.next h hb⟩ : Cls (fun _ => True) (BL w30)) ?_ ?_
       ·
        refine Or.inl ⟨rfl, fun w hSw => ?_⟩
        exact EffR.same (by go_simp)
       try simp only [Act.put, zA, zB, zC]
       refine wpAnyU_take (i := 32) (oi := { dst := some 126, op := Op.fieldAddr 107 (Operand.tmp 125) 5, type := 0, pos := "ref.go:250", after := #[{ on := 31, ground := Ground.data }, { on := 0, ground := Ground.phase }, { on := 1, ground := Ground.phase }, { on := 2, ground := Ground.phase }, { on := 3, ground := Ground.phase }, { on := 4, ground := Ground.phase }, { on := 5, ground := Ground.textOnly Departure.lateStores }, { on := 6, ground := Ground.phase }, { on := 7, ground := Ground.phase }, { on := 8, ground := Ground.phase }, { on := 9, ground := Ground.phase }, { on := 10, ground := Ground.phase }, { on := 11, ground := Ground.phase }, { on := 12, ground := Ground.phase }, { on := 13, ground := Ground.phase }, { on := 14, ground := Ground.phase }, { on := 15, ground := Ground.phase }, { on := 16, ground := Ground.phase }, { on := 17, ground := Ground.phase }, { on := 18, ground := Ground.phase }, { on := 19, ground := Ground.phase }, { on := 20, ground := Ground.phase }, { on := 21, ground := Ground.phase }, { on := 22, ground := Ground.phase }, { on := 23, ground := Ground.phase }, { on := 24, ground := Ground.phase }, { on := 25, ground := Ground.phase }, { on := 26, ground := Ground.phase }, { on := 27, ground := Ground.phase }, { on := 28, ground := Ground.phase }, { on := 29, ground := Ground.phase }, { on := 30, ground := Ground.phase }], guard := none }) (v := (.pointer (some ⟨gl, 5, none⟩))) rfl (by kernel_rfl) (by kernel_rfl) (by kernel_rfl) (by kernel_rfl) (by kernel_rfl) (fun _ _ _ h => h) (⟨fun _ _ => trivial, fun _ _ h hb => Below.next h hb⟩ : Cls (fun _ => True) (BL w30)) ?_ ?_
       ·
        refine Or.inl ⟨rfl, fun w hSw => ?_⟩
        exact EffR.same (by go_simp)
       try simp only [Act.put, zA, zB, zC]
       refine wpAnyU_ready (rs := [33]) (by kernel_rfl) (by simp) ?_
       refine AllReadyU.cons (o := { dst := none, op := Op.store 3 (Operand.tmp 126) (Operand.tmp 116), type := 0, pos := "ref.go:250", after := #[{ on := 32, ground := Ground.data }, { on := 18, ground := Ground.data }, { on := 30, ground := Ground.chain }, { on := 0, ground := Ground.phase }, { on := 1, ground := Ground.phase }, { on := 2, ground := Ground.phase }, { on := 3, ground := Ground.phase }, { on := 4, ground := Ground.phase }, { on := 5, ground := Ground.textOnly Departure.lateStores }, { on := 6, ground := Ground.phase }, { on := 7, ground := Ground.phase }, { on := 8, ground := Ground.phase }, { on := 9, ground := Ground.phase }, { on := 10, ground := Ground.phase }, { on := 11, ground := Ground.phase }, { on := 12, ground := Ground.phase }, { on := 13, ground := Ground.phase }, { on := 14, ground := Ground.phase }, { on := 15, ground := Ground.phase }, { on := 16, ground := Ground.phase }, { on := 17, ground := Ground.phase }, { on := 18, ground := Ground.phase }, { on := 19, ground := Ground.phase }, { on := 20, ground := Ground.phase }, { on := 21, ground := Ground.phase }, { on := 22, ground := Ground.phase }, { on := 23, ground := Ground.phase }, { on := 24, ground := Ground.phase }, { on := 25, ground := Ground.phase }, { on := 26, ground := Ground.phase }, { on := 27, ground := Ground.phase }, { on := 28, ground := Ground.phase }, { on := 29, ground := Ground.phase }, { on := 30, ground := Ground.phase }], guard := none }) rfl (fun wA33 hA33 K hK => ?_) AllReadyU.nil
       have hx := HT.below HXw30.out hA33
       have cj := hx.cell (j := 5) rfl
       have fj := hx.frozen 5
       have how := OwnB.below HOw30.out hA33
       go_simp
       obtain ⟨w33, hw33⟩ : ∃ z, z = wA33.setCell ⟨gl, 5, none⟩ (.int .i64 (rl : Int)) := ⟨_, rfl⟩
       have hk1 : Kept (fun q => q = gl) wA33 w33 := by rw [hw33]; exact (Kept.refl (fun q => q = gl) wA33).setCell ⟨gl, 5, none⟩ _ rfl
       have HXw33 : Hid (HT w33 gl 107 [.pointer (some ⟨g, 0, none⟩), .int .i64 (h2 : Int), .int .i64 ((ge : Int) + 1), .slice a9 n9 c9, .slice none 0 0, .int .i64 (rl : Int), .bool bg]) := by show HT _ _ _ _; rw [hw33]; exact hx.put 5 (.int .i64 (rl : Int))
       have HKw33 : Hid (Kept (fun q => q = gl) wl w33) := ((HKw30.out).next hA33).trans hk1 (fun _ _ e => e)
       have HOw33 : Hid (OwnB 5 w33 wl.heap.size (.slice a9 n9 c9) s) := how.keptJ hk1 (fun q hq e => by have := OwnB.ge how q hq; have := HLL.out.lt; omega)
       rw [← hw33]
       refine hK.out _ _ (BL w33) (⟨fun _ _ => trivial, fun _ _ h hb => Below.next h hb⟩ : Cls (fun _ => True) (BL w33)) (Below.refl _ _) ?_
       clear hx cj fj how hk1 hw33
       clear hK K
       try simp only [Act.put]
       refine wpAnyU_take (i := 34) (oi := { dst := some 127, op := Op.nilCheck (Operand.tmp 103), type := 0, pos := "ref.go:250", after := #[{ on := 5, ground := Ground.data }, { on := 0, ground := Ground.phase }, { on := 1, ground := Ground.phase }, { on := 2, ground := Ground.phase }, { on := 3, ground := Ground.phase }, { on := 4, ground := Ground.phase }, { on := 5, ground := Ground.phase }, { on := 6, ground := Ground.phase }, { on := 7, ground := Ground.phase }, { on := 8, ground := Ground.phase }, { on := 9, ground := Ground.phase }, { on := 10, ground := Ground.phase }, { on := 11, ground := Ground.phase }, { on := 12, ground := Ground.phase }, { on := 13, ground := Ground.phase }, { on := 14, ground := Ground.phase }, { on := 15, ground := Ground.phase }, { on := 16, ground := Ground.phase }, { on := 17, ground := Ground.phase }, { on := 18, ground := Ground.phase }, { on := 19, ground := Ground.phase }, { on := 20, ground := Ground.phase }, { on := 21, ground := Ground.phase }, { on := 22, ground := Ground.phase }, { on := 23, ground := Ground.phase }, { on := 24, ground := Ground.phase }, { on := 25, ground := Ground.phase }, { on := 26, ground := Ground.phase }, { on := 27, ground := Ground.phase }, { on := 28, ground := Ground.phase }, { on := 29, ground := Ground.phase }, { on := 30, ground := Ground.phase }, { on := 31, ground := Ground.phase }, { on := 32, ground := Ground.phase }, { on := 33, ground := Ground.phase }], guard := none }) (v := (.pointer (some ⟨gl, 0, none⟩))) rfl (by kernel_rfl) (by kernel_rfl) (by kernel_rfl) (by kernel_rfl) (by kernel_rfl) (fun _ _ _ h => h) (⟨fun _ _ => trivial, fun _ _ h hb => Below.next h hb⟩ : Cls (fun _ => True) (BL w33)) ?_ ?_
       ·
        refine Or.inl ⟨rfl, fun w hSw => ?_⟩
        exact EffR.same (by go_simp)
       try simp only [Act.put, zA, zB, zC]
       refine wpAnyU_take (i := 35) (oi := { dst := some 128, op := Op.fieldAddr 107 (Operand.tmp 127) 6, type := 0, pos := "ref.go:250", after := #[{ on := 34, ground := Ground.data }, { on := 0, ground := Ground.phase }, { on := 1, ground := Ground.phase }, { on := 2, ground := Ground.phase }, { on := 3, ground := Ground.phase }, { on := 4, ground := Ground.phase }, { on := 5, ground := Ground.phase }, { on := 6, ground := Ground.phase }, { on := 7, ground := Ground.phase }, { on := 8, ground := Ground.phase }, { on := 9, ground := Ground.phase }, { on := 10, ground := Ground.phase }, { on := 11, ground := Ground.phase }, { on := 12, ground := Ground.phase }, { on := 13, ground := Ground.phase }, { on := 14, ground := Ground.phase }, { on := 15, ground := Ground.phase }, { on := 16, ground := Ground.phase }, { on := 17, ground := Ground.phase }, { on := 18, ground := Ground.phase }, { on := 19, ground := Ground.phase }, { on := 20, ground := Ground.phase }, { on := 21, ground := Ground.phase }, { on := 22, ground := Ground.phase }, { on := 23, ground := Ground.phase }, { on := 24, ground := Ground.phase }, { on := 25, ground := Ground.phase }, { on := 26, ground := Ground.phase }, { on := 27, ground := Ground.phase }, { on := 28, ground := Ground.phase }, { on := 29, ground := Ground.phase }, { on := 30, ground := Ground.phase }, { on := 31, ground := Ground.phase }, { on := 32, ground := Ground.phase }, { on := 33, ground := Ground.phase }], guard := none }) (v := (.pointer (some ⟨gl, 6, none⟩))) rfl (by kernel_rfl) (by kernel_rfl) (by kernel_rfl) (by kernel_rfl) (by kernel_rfl) (fun _ _ _ h => h) (⟨fun _ _ => trivial, fun _ _ h hb => Below.next h hb⟩ : Cls (fun _ => True) (BL w33)) ?_ ?_
       ·
        refine Or.inl ⟨rfl, fun w hSw => ?_⟩
        exact EffR.same (by go_simp)
       try simp only [Act.put, zA, zB, zC]
       refine wpAnyU_ready (rs := [36]) (by kernel_rfl) (by simp) ?_
       refine AllReadyU.cons (o := { dst := none, op := Op.store 4 (Operand.tmp 128) (Operand.const (Value.bool true)), type := 0, pos := "ref.go:250", after := #[{ on := 35, ground := Ground.data }, { on := 33, ground := Ground.chain }, { on := 0, ground := Ground.phase }, { on := 1, ground := Ground.phase }, { on := 2, ground := Ground.phase }, { on := 3, ground := Ground.phase }, { on := 4, ground := Ground.phase }, { on := 5, ground := Ground.phase }, { on := 6, ground := Ground.phase }, { on := 7, ground := Ground.phase }, { on := 8, ground := Ground.phase }, { on := 9, ground := Ground.phase }, { on := 10, ground := Ground.phase }, { on := 11, ground := Ground.phase }, { on := 12, ground := Ground.phase }, { on := 13, ground := Ground.phase }, { on := 14, ground := Ground.phase }, { on := 15, ground := Ground.phase }, { on := 16, ground := Ground.phase }, { on := 17, ground := Ground.phase }, { on := 18, ground := Ground.phase }, { on := 19, ground := Ground.phase }, { on := 20, ground := Ground.phase }, { on := 21, ground := Ground.phase }, { on := 22, ground := Ground.phase }, { on := 23, ground := Ground.phase }, { on := 24, ground := Ground.phase }, { on := 25, ground := Ground.phase }, { on := 26, ground := Ground.phase }, { on := 27, ground := Ground.phase }, { on := 28, ground := Ground.phase }, { on := 29, ground := Ground.phase }, { on := 30, ground := Ground.phase }, { on := 31, ground := Ground.phase }, { on := 32, ground := Ground.phase }, { on := 33, ground := Ground.phase }], guard := none }) rfl (fun wA36 hA36 K hK => ?_) AllReadyU.nil
       have hx := HT.below HXw33.out hA36
       have cj := hx.cell (j := 6) rfl
       have fj := hx.frozen 6
       have how := OwnB.below HOw33.out hA36
       go_simp
       obtain ⟨w36, hw36⟩ : ∃ z, z = wA36.setCell ⟨gl, 6, none⟩ (.bool true) := ⟨_, rfl⟩
       have hk1 : Kept (fun q => q = gl) wA36 w36 := by rw [hw36]; exact (Kept.refl (fun q => q = gl) wA36).setCell ⟨gl, 6, none⟩ _ rfl
       have HXw36 : Hid (HT w36 gl 107 [.pointer (some ⟨g, 0, none⟩), .int .i64 (h2 : Int), .int .i64 ((ge : Int) + 1), .slice a9 n9 c9, .slice none 0 0, .int .i64 (rl : Int), .bool true]) := by show HT _ _ _ _; rw [hw36]; exact hx.put 6 (.bool true)
       have HKw36 : Hid (Kept (fun q => q = gl) wl w36) := ((HKw33.out).next hA36).trans hk1 (fun _ _ e => e)
       have HOw36 : Hid (OwnB 5 w36 wl.heap.size (.slice a9 n9 c9) s) := how.keptJ hk1 (fun q hq e => by have := OwnB.ge how q hq; have := HLL.out.lt; omega)
       rw [← hw36]
       refine hK.out _ _ (BL w36) (⟨fun _ _ => trivial, fun _ _ h hb => Below.next h hb⟩ : Cls (fun _ => True) (BL w36)) (Below.refl _ _) ?_
       clear hx cj fj how hk1 hw36
       clear hK K
       try simp only [Act.put]
       refine wpAnyU_done (by kernel_rfl) (fun w1 hb1 => ?_) _
       have HX9 := Lib.hid (HT.below HXw36.out hb1)
       have HK9 := Lib.hid (HKw36.out.next hb1)
       have HO9 := Lib.hid (OwnB.below HOw36.out hb1)
       clear hb1 HXw21 HKw21 HOw21 HXw24 HKw24 HOw24 HXw27 HKw27 HOw27 HXw30 HKw30 HOw30 HXw33 HKw33 HOw33 HXw36 HKw36 HOw36
       go_wp2_with fail
       go_ret
       have hres : PH = (0, D4) := HFIN.out
       rw [hres]
       refine PBegRes.ok rfl rfl ?_
       have hgF : ¬ F5 gl := fun e => by
        rcases HF9.out gl e with e | e
        ·
         exact HDIS.out gl e HGL.out
        ·
         have := HGLT.out; omega
       refine ⟨F5, fun q => q = gl ∨ (Value.slice a9 n9 c9).ownBlock = some q, ?_, ?_, ?_, ?_, ?_⟩
       ·
        exact HDL.out.kept HK9.out (fun q e1 e2 => hgF (by rw [← e2]; exact e1))
       ·
        refine ⟨.slice a9 n9 c9, .slice none 0 0, ?_, ⟨HO9.out.base (Nat.zero_le _), fun q e => .inr e, recsM.nil _ _⟩, .inl rfl, fun q e => ?_⟩
        ·
         show HT _ _ _ (plcells g h2 _ _ ⟨ot, ⟨ge + 1, s, [], rl⟩, true⟩)
         unfold plcells
         show HT _ _ _ [.pointer (some ⟨g, 0, none⟩), .int .i64 (h2 : Int), .int .i64 ((ge + 1 : Nat) : Int), .slice a9 n9 c9, .slice none 0 0, .int .i64 (rl : Int), .bool true]
         rw [Int.natCast_add]
         exact HX9.out
        ·
         rcases e with e | e
         ·
          rw [e]; exact HX9.out.lt
         ·
          exact OwnB.lt HO9.out q e
       ·
        intro q e1 e2
        rcases e2 with e2 | e2
        ·
         exact hgF (by rw [← e2]; exact e1)
        ·
         have h1 := OwnB.ge HO9.out q e2
         have h3 := HDL.out.lt q e1
         omega
       ·
        exact (HKL.out.weaken (fun q e => .inl e)).trans HK9.out (fun i _ e => by rw [e]; exact .inr HGL.out)
       ·
        intro q e
        have hsb := HKL.out.size
        rcases e with e | e | e
        ·
         rcases HF9.out q e with e | e
         ·
          exact .inl e
         ·
          exact .inr (.inr e)
        ·
         exact .inr (.inl (by rw [e]; exact HGL.out))
        ·
         have h1 := OwnB.ge HO9.out q e
         exact .inr (.inr (by omega))
      ·
       have hsrc := HSN0.out wA14 (HKL.out.next hA14)
       refine step_append_bytes (v := .slice none 0 0) (l := []) (m := s) rfl (.tmp 110) (.tmp 111) 22 rfl (base := wl.heap.size) elem_u8 rfl rfl (OwnB.empty _ _ _) hsrc (by have := HSL.out; simp; omega) (Below.size hA14) ?_
       intro a9 n9 c9 w9 Hn9 ho9 hb9 hg9
       refine hK.out _ _ (fun x => BL wl x ∧ OwnB 5 x wl.heap.size (.slice a9 n9 c9) s) (⟨fun _ _ => trivial, fun _ _ h hb => ⟨Below.next h.1 hb, OwnB.below h.2 hb⟩⟩ : Cls (fun _ => True) (fun x => BL wl x ∧ OwnB 5 x wl.heap.size (.slice a9 n9 c9) s)) ⟨Below.trans hA14 hb9, ho9⟩ ?_
       clear hsrc ho9 hb9 hg9 Hn9
       clear hK K
       try simp only [Act.put, zA, zB, zC]
       refine wpAnyU_take (i := 18) (oi := { dst := some 116, op := Op.call { callee := Callee.value (Operand.func 65), args := #[Operand.tmp 115], argTypes := #[3] }, type := 3, pos := "ref.go:250", after := #[{ on := 17, ground := Ground.data }, { on := 14, ground := Ground.chain }], guard := none }) (v := (.int .i64 (rl : Int))) rfl (by kernel_rfl) (by kernel_rfl) (by kernel_rfl) (by kernel_rfl) (by kernel_rfl) (fun _ _ _ h => h) (⟨fun _ _ => trivial, fun _ _ h hb => ⟨Below.next h.1 hb, OwnB.below h.2 hb⟩⟩ : Cls (fun _ => True) (fun x => BL wl x ∧ OwnB 5 x wl.heap.size (.slice a9 n9 c9) s)) ?_ ?_
       ·
        refine Or.inl ⟨rfl, fun w hSw => ?_⟩
        have hbl := pBlocks_any w (ls + 21) (by omega)
        rw [← HRLN.out, show ((ls + 21 : Nat) : Int) = (ls : Int) + 21 from by push_cast; rfl] at hbl
        go_simp
        show Calls _ _ _ _ _
        refine hbl.mono ?_
        rintro e w1 ⟨rfl, rfl⟩
        exact ⟨rfl, Below.refl _ _⟩
       try simp only [Act.put, zA, zB, zC]
       refine wpAnyU_ready (rs := [10]) (by kernel_rfl) (by simp) ?_
       refine AllReadyU.cons (o := { dst := some 108, op := Op.load 3 (Operand.tmp 107), type := 3, pos := "ref.go:250", after := #[{ on := 9, ground := Ground.data }], guard := none }) rfl (fun wA10 hA10 K hK => ?_) AllReadyU.nil
       have c2 := (HT.below HLL.out hA10.1).cell (j := 2) rfl
       go_simp
       refine hK.out _ _ (fun x => BL wl x ∧ OwnB 5 x wl.heap.size (.slice a9 n9 c9) s) (⟨fun _ _ => trivial, fun _ _ h hb => ⟨Below.next h.1 hb, OwnB.below h.2 hb⟩⟩ : Cls (fun _ => True) (fun x => BL wl x ∧ OwnB 5 x wl.heap.size (.slice a9 n9 c9) s)) hA10 ?_
       clear c2
       clear hK K
       try simp only [Act.put, zA, zB, zC]
       refine wpAnyU_take (i := 11) (oi := { dst := some 109, op := Op.binOp BinOp.add 3 (Operand.tmp 108) (Operand.const (Value.int IntKind.i64 1)) 3, type := 3, pos := "ref.go:250", after := #[{ on := 10, ground := Ground.data }], guard := none }) (v := (.int .i64 ((ge : Int) + 1))) rfl (by kernel_rfl) (by kernel_rfl) (by kernel_rfl) (by kernel_rfl) (by kernel_rfl) (fun _ _ _ h => h) (⟨fun _ _ => trivial, fun _ _ h hb => ⟨Below.next h.1 hb, OwnB.below h.2 hb⟩⟩ : Cls (fun _ => True) (fun x => BL wl x ∧ OwnB 5 x wl.heap.size (.slice a9 n9 c9) s)) ?_ ?_
       ·
        refine Or.inl ⟨rfl, fun w hSw => ?_⟩
        have e0 := HWG.out
        exact EffR.same (by go_simp)
       try simp only [Act.put, zA, zB, zC]
       refine wpAnyU_take (i := 19) (oi := { dst := some 117, op := Op.nilCheck (Operand.tmp 98), type := 0, pos := "ref.go:250", after := #[{ on := 0, ground := Ground.data }, { on := 0, ground := Ground.phase }, { on := 1, ground := Ground.textOnly Departure.lateStores }, { on := 2, ground := Ground.textOnly Departure.lateStores }, { on := 3, ground := Ground.textOnly Departure.lateStores }, { on := 4, ground := Ground.textOnly Departure.lateStores }, { on := 5, ground := Ground.textOnly Departure.lateStores }, { on := 6, ground := Ground.phase }, { on := 7, ground := Ground.textOnly Departure.lateStores }, { on := 8, ground := Ground.textOnly Departure.lateStoresUnsure }, { on := 9, ground := Ground.textOnly Departure.lateStoresUnsure }, { on := 10, ground := Ground.phase }, { on := 11, ground := Ground.textOnly Departure.lateStoresUnsure }, { on := 12, ground := Ground.textOnly Departure.lateStores }, { on := 13, ground := Ground.textOnly Departure.lateStores }, { on := 14, ground := Ground.phase }, { on := 15, ground := Ground.textOnly Departure.lateStores }, { on := 16, ground := Ground.textOnly Departure.lateStoresUnsure }, { on := 17, ground := Ground.textOnly Departure.lateStores }, { on := 18, ground := Ground.phase }], guard := none }) (v := (.pointer (some ⟨gl, 0, none⟩))) rfl (by kernel_rfl) (by kernel_rfl) (by kernel_rfl) (by kernel_rfl) (by kernel_rfl) (fun _ _ _ h => h) (⟨fun _ _ => trivial, fun _ _ h hb => ⟨Below.next h.1 hb, OwnB.below h.2 hb⟩⟩ : Cls (fun _ => True) (fun x => BL wl x ∧ OwnB 5 x wl.heap.size (.slice a9 n9 c9) s)) ?_ ?_
       ·
        refine Or.inl ⟨rfl, fun w hSw => ?_⟩
        exact EffR.same (by go_simp)
       try simp only [Act.put, zA, zB, zC]
       refine wpAnyU_take (i := 20) (oi := { dst := some 118, op := Op.fieldAddr 107 (Operand.tmp 117) 1, type := 0, pos := "ref.go:250", after := #[{ on := 19, ground := Ground.data }, { on := 0, ground := Ground.phase }, { on := 1, ground := Ground.textOnly Departure.lateStores }, { on := 2, ground := Ground.textOnly Departure.lateStores }, { on := 3, ground := Ground.textOnly Departure.lateStores }, { on := 4, ground := Ground.textOnly Departure.lateStores }, { on := 5, ground := Ground.textOnly Departure.lateStores }, { on := 6, ground := Ground.phase }, { on := 7, ground := Ground.textOnly Departure.lateStores }, { on := 8, ground := Ground.textOnly Departure.lateStoresUnsure }, { on := 9, ground := Ground.textOnly Departure.lateStoresUnsure }, { on := 10, ground := Ground.phase }, { on := 11, ground := Ground.textOnly Departure.lateStoresUnsure }, { on := 12, ground := Ground.textOnly Departure.lateStores }, { on := 13, ground := Ground.textOnly Departure.lateStores }, { on := 14, ground := Ground.phase }, { on := 15, ground := Ground.textOnly Departure.lateStores }, { on := 16, ground := Ground.textOnly Departure.lateStoresUnsure }, { on := 17, ground := Ground.textOnly Departure.lateStores }, { on := 18, ground := Ground.phase }], guard := none }) (v := (.pointer (some ⟨gl, 1, none⟩))) rfl (by kernel_rfl) (by kernel_rfl) (by kernel_rfl) (by kernel_rfl) (by kernel_rfl) (fun _ _ _ h => h) (⟨fun _ _ => trivial, fun _ _ h hb => ⟨Below.next h.1 hb, OwnB.below h.2 hb⟩⟩ : Cls (fun _ => True) (fun x => BL wl x ∧ OwnB 5 x wl.heap.size (.slice a9 n9 c9) s)) ?_ ?_
       ·
        refine Or.inl ⟨rfl, fun w hSw => ?_⟩
        exact EffR.same (by go_simp)
       try simp only [Act.put, zA, zB, zC]
       refine wpAnyU_ready (rs := [21]) (by kernel_rfl) (by simp) ?_
       refine AllReadyU.cons (o := { dst := none, op := Op.store 3 (Operand.tmp 118) (Operand.tmp 104), type := 0, pos := "ref.go:250", after := #[{ on := 20, ground := Ground.data }, { on := 6, ground := Ground.data }, { on := 18, ground := Ground.chain }, { on := 0, ground := Ground.phase }, { on := 1, ground := Ground.textOnly Departure.lateStores }, { on := 2, ground := Ground.textOnly Departure.lateStores }, { on := 3, ground := Ground.textOnly Departure.lateStores }, { on := 4, ground := Ground.textOnly Departure.lateStores }, { on := 5, ground := Ground.textOnly Departure.lateStores }, { on := 6, ground := Ground.phase }, { on := 7, ground := Ground.textOnly Departure.lateStores }, { on := 8, ground := Ground.textOnly Departure.lateStoresUnsure }, { on := 9, ground := Ground.textOnly Departure.lateStoresUnsure }, { on := 10, ground := Ground.phase }, { on := 11, ground := Ground.textOnly Departure.lateStoresUnsure }, { on := 12, ground := Ground.textOnly Departure.lateStores }, { on := 13, ground := Ground.textOnly Departure.lateStores }, { on := 14, ground := Ground.phase }, { on := 15, ground := Ground.textOnly Departure.lateStores }, { on := 16, ground := Ground.textOnly Departure.lateStoresUnsure }, { on := 17, ground := Ground.textOnly Departure.lateStores }, { on := 18, ground := Ground.phase }], guard := none }) rfl (fun wA21 hA21 K hK => ?_) AllReadyU.nil
       have hx := HT.below HLL.out hA21.1
       have cj := hx.cell (j := 1) rfl
       have fj := hx.frozen 1
       have how := hA21.2
       go_simp
       obtain ⟨w21, hw21⟩ : ∃ z, z = wA21.setCell ⟨gl, 1, none⟩ (.int .i64 (h2 : Int)) := ⟨_, rfl⟩
       have hk1 : Kept (fun q => q = gl) wA21 w21 := by rw [hw21]; exact (Kept.refl (fun q => q = gl) wA21).setCell ⟨gl, 1, none⟩ _ rfl
       have HXw21 : Hid (HT w21 gl 107 [.pointer (some ⟨g, 0, none⟩), .int .i64 (h2 : Int), .int .i64 (ge : Int), .slice a1 n1 c1, .slice a2 n2 c2, .int .i64 (fi : Int), .bool bg]) := by show HT _ _ _ _; rw [hw21]; exact hx.put 1 (.int .i64 (h2 : Int))
       have HKw21 : Hid (Kept (fun q => q = gl) wl w21) := ((Kept.refl (fun q => q = gl) wl).next hA21.1).trans hk1 (fun _ _ e => e)
       have HOw21 : Hid (OwnB 5 w21 wl.heap.size (.slice a9 n9 c9) s) := how.keptJ hk1 (fun q hq e => by have := OwnB.ge how q hq; have := HLL.out.lt; omega)
       rw [← hw21]
       refine hK.out _ _ (BL w21) (⟨fun _ _ => trivial, fun _ _ h hb => Below.next h hb⟩ : Cls (fun _ => True) (BL w21)) (Below.refl _ _) ?_
       clear hx cj fj how hk1 hw21
       clear hK K
       try simp only [Act.put]
       refine wpAnyU_take (i := 22) (oi := { dst := some 119, op := Op.nilCheck (Operand.tmp 99), type := 0, pos := "ref.go:250", after := #[{ on := 1, ground := Ground.data }, { on := 0, ground := Ground.phase }, { on := 1, ground := Ground.phase }, { on := 2, ground := Ground.textOnly Departure.lateStores }, { on := 3, ground := Ground.textOnly Departure.lateStores }, { on := 4, ground := Ground.textOnly Departure.lateStores }, { on := 5, ground := Ground.textOnly Departure.lateStores }, { on := 6, ground := Ground.phase }, { on := 7, ground := Ground.phase }, { on := 8, ground := Ground.phase }, { on := 9, ground := Ground.phase }, { on := 10, ground := Ground.phase }, { on := 11, ground := Ground.phase }, { on := 12, ground := Ground.textOnly Departure.lateStores }, { on := 13, ground := Ground.textOnly Departure.lateStores }, { on := 14, ground := Ground.phase }, { on := 15, ground := Ground.textOnly Departure.lateStores }, { on := 16, ground := Ground.textOnly Departure.lateStoresUnsure }, { on := 17, ground := Ground.textOnly Departure.lateStores }, { on := 18, ground := Ground.phase }, { on := 19, ground := Ground.phase }, { on := 20, ground := Ground.phase }, { on := 21, ground := Ground.phase }], guard := none }) (v := (.pointer (some ⟨gl, 0, none⟩))) rfl (by kernel_rfl) (by kernel_rfl) (by kernel_rfl) (by kernel_rfl) (by kernel_rfl) (fun _ _ _ h => h) (⟨fun _ _ => trivial, fun _ _ h hb => Below.next h hb⟩ : Cls (fun _ => True) (BL w21)) ?_ ?_
       ·
        refine Or.inl ⟨rfl, fun w hSw => ?_⟩
        exact EffR.same (by go_simp)
       try simp only [Act.put, zA, zB, zC]
       refine wpAnyU_take (i := 23) (oi := { dst := some 120, op := Op.fieldAddr 107 (Operand.tmp 119) 2, type := 0, pos := "ref.go:250", after := #[{ on := 22, ground := Ground.data }, { on := 0, ground := Ground.phase }, { on := 1, ground := Ground.phase }, { on := 2, ground := Ground.textOnly Departure.lateStores }, { on := 3, ground := Ground.textOnly Departure.lateStores }, { on := 4, ground := Ground.textOnly Departure.lateStores }, { on := 5, ground := Ground.textOnly Departure.lateStores }, { on := 6, ground := Ground.phase }, { on := 7, ground := Ground.phase }, { on := 8, ground := Ground.phase }, { on := 9, ground := Ground.phase }, { on := 10, ground := Ground.phase }, { on := 11, ground := Ground.phase }, { on := 12, ground := Ground.textOnly Departure.lateStores }, { on := 13, ground := Ground.textOnly Departure.lateStores }, { on := 14, ground := Ground.phase }, { on := 15, ground := Ground.textOnly Departure.lateStores }, { on := 16, ground := Ground.textOnly Departure.lateStoresUnsure }, { on := 17, ground := Ground.textOnly Departure.lateStores }, { on := 18, ground := Ground.phase }, { on := 19, ground := Ground.phase }, { on := 20, ground := Ground.phase }, { on := 21, ground := Ground.phase }], guard := none }) (v := (.pointer (some ⟨gl, 2, none⟩))) rfl (by kernel_rfl) (by kernel_rfl) (by kernel_rfl) (by kernel_rfl) (by kernel_rfl) (fun _ _ _ h => h) (⟨fun _ _ => trivial, fun _ _ h hb => Below.next h hb⟩ : Cls (fun _ => True) (BL w21)) ?_ ?_
       ·
        refine Or.inl ⟨rfl, fun w hSw => ?_⟩
        exact EffR.same (by go_simp)
       try simp only [Act.put, zA, zB, zC]
       refine wpAnyU_ready (rs := [24]) (by kernel_rfl) (by simp) ?_
       refine AllReadyU.cons (o := { dst := none, op := Op.store 3 (Operand.tmp 120) (Operand.tmp 109), type := 0, pos := "ref.go:250", after := #[{ on := 23, ground := Ground.data }, { on := 11, ground := Ground.data }, { on := 21, ground := Ground.chain }, { on := 0, ground := Ground.phase }, { on := 1, ground := Ground.phase }, { on := 2, ground := Ground.textOnly Departure.lateStores }, { on := 3, ground := Ground.textOnly Departure.lateStores }, { on := 4, ground := Ground.textOnly Departure.lateStores }, { on := 5, ground := Ground.textOnly Departure.lateStores }, { on := 6, ground := Ground.phase }, { on := 7, ground := Ground.phase }, { on := 8, ground := Ground.phase }, { on := 9, ground := Ground.phase }, { on := 10, ground := Ground.phase }, { on := 11, ground := Ground.phase }, { on := 12, ground := Ground.textOnly Departure.lateStores }, { on := 13, ground := Ground.textOnly Departure.lateStores }, { on := 14, ground := Ground.phase }, { on := 15, ground := Ground.textOnly Departure.lateStores }, { on := 16, ground := Ground.textOnly Departure.lateStoresUnsure }, { on := 17, ground := Ground.textOnly Departure.lateStores }, { on := 18, ground := Ground.phase }, { on := 19, ground := Ground.phase }, { on := 20, ground := Ground.phase }, { on := 21, ground := Ground.phase }], guard := none }) rfl (fun wA24 hA24 K hK => ?_) AllReadyU.nil
       have hx := HT.below HXw21.out hA24
       have cj := hx.cell (j := 2) rfl
       have fj := hx.frozen 2
       have how := OwnB.below HOw21.out hA24
       go_simp
       obtain ⟨w24, hw24⟩ : ∃ z, z = wA24.setCell ⟨gl, 2, none⟩ (.int .i64 ((ge : Int) + 1)) := ⟨_, rfl⟩
       have hk1 : Kept (fun q => q = gl) wA24 w24 := by rw [hw24]; exact (Kept.refl (fun q => q = gl) wA24).setCell ⟨gl, 2, none⟩ _ rfl
       have HXw24 : Hid (HT w24 gl 107 [.pointer (some ⟨g, 0, none⟩), .int .i64 (h2 : Int), .int .i64 ((ge : Int) + 1), .slice a1 n1 c1, .slice a2 n2 c2, .int .i64 (fi : Int), .bool bg]) := by show HT _ _ _ _; rw [hw24]; exact hx.put 2 (.int .i64 ((ge : Int) + 1))
       have HKw24 : Hid (Kept (fun q => q = gl) wl w24) := ((HKw21.out).next hA24).trans hk1 (fun _ _ e => e)
       have HOw24 : Hid (OwnB 5 w24 wl.heap.size (.slice a9 n9 c9) s) := how.keptJ hk1 (fun q hq e => by have := OwnB.ge how q hq; have := HLL.out.lt; omega)
       rw [← hw24]
       refine hK.out _ _ (BL w24) (⟨fun _ _ => trivial, fun _ _ h hb => Below.next h hb⟩ : Cls (fun _ => True) (BL w24)) (Below.refl _ _) ?_
       clear hx cj fj how hk1 hw24
       clear hK K
       try simp only [Act.put]
       refine wpAnyU_take (i := 25) (oi := { dst := some 121, op := Op.nilCheck (Operand.tmp 100), type := 0, pos := "ref.go:250", after := #[{ on := 2, ground := Ground.data }, { on := 0, ground := Ground.phase }, { on := 1, ground := Ground.phase }, { on := 2, ground := Ground.phase }, { on := 3, ground := Ground.textOnly Departure.lateStores }, { on := 4, ground := Ground.textOnly Departure.lateStores }, { on := 5, ground := Ground.textOnly Departure.lateStores }, { on := 6, ground := Ground.phase }, { on := 7, ground := Ground.phase }, { on := 8, ground := Ground.phase }, { on := 9, ground := Ground.phase }, { on := 10, ground := Ground.phase }, { on := 11, ground := Ground.phase }, { on := 12, ground := Ground.phase }, { on := 13, ground := Ground.phase }, { on := 14, ground := Ground.phase }, { on := 15, ground := Ground.textOnly Departure.lateStores }, { on := 16, ground := Ground.textOnly Departure.lateStoresUnsure }, { on := 17, ground := Ground.textOnly Departure.lateStores }, { on := 18, ground := Ground.phase }, { on := 19, ground := Ground.phase }, { on := 20, ground := Ground.phase }, { on := 21, ground := Ground.phase }, { on := 22, ground := Ground.phase }, { on := 23, ground := Ground.phase }, { on := 24, ground := Ground.phase }], guard := none }) (v := (.pointer (some ⟨gl, 0, none⟩))) rfl (by kernel_rfl) (by kernel_rfl) (by kernel_rfl) (by kernel_rfl) (by kernel_rfl) (fun _ _ _ h => h) (⟨fun _ _ => trivial, fun _ _ h hb => Below.next h hb⟩ : Cls (fun _ => True) (BL w24)) ?_ ?_
       ·
        refine Or.inl ⟨rfl, fun w hSw => ?_⟩
        exact EffR.same (by go_simp)
       try simp only [Act.put, zA, zB, zC]
       refine wpAnyU_take (i := 26) (oi := { dst := some 122, op := Op.fieldAddr 107 (Operand.tmp 121) 3, type := 0, pos := "ref.go:250", after := #[{ on := 25, ground := Ground.data }, { on := 0, ground := Ground.phase }, { on := 1, ground := Ground.phase }, { on := 2, ground := Ground.phase }, { on := 3, ground := Ground.textOnly Departure.lateStores }, { on := 4, ground := Ground.textOnly Departure.lateStores }, { on := 5, ground := Ground.textOnly Departure.lateStores }, { on := 6, ground := Ground.phase }, { on := 7, ground := Ground.phase }, { on := 8, ground := Ground.phase }, { on := 9, ground := Ground.phase }, { on := 10, ground := Ground.phase }, { on := 11, ground := Ground.phase }, { on := 12, ground := Ground.phase }, { on := 13, ground := Ground.phase }, { on := 14, ground := Ground.phase }, { on := 15, ground := Ground.textOnly Departure.lateStores }, { on := 16, ground := Ground.textOnly Departure.lateStoresUnsure }, { on := 17, ground := Ground.textOnly Departure.lateStores }, { on := 18, ground := Ground.phase }, { on := 19, ground := Ground.phase }, { on := 20, ground := Ground.phase }, { on := 21, ground := Ground.phase }, { on := 22, ground := Ground.phase }, { on := 23, ground := Ground.phase }, { on := 24, ground := Ground.phase }], guard := none }) (v := (.pointer (some ⟨gl, 3, none⟩))) rfl (by kernel_rfl) (by kernel_rfl) (by kernel_rfl) (by kernel_rfl) (by kernel_rfl) (fun _ _ _ h => h) (⟨fun _ _ => trivial, fun _ _ h hb => Below.next h hb⟩ : Cls (fun _ => True) (BL w24)) ?_ ?_
       ·
        refine Or.inl ⟨rfl, fun w hSw => ?_⟩
        exact EffR.same (by go_simp)
       try simp only [Act.put, zA, zB, zC]
       refine wpAnyU_ready (rs := [27]) (by kernel_rfl) (by simp) ?_
       refine AllReadyU.cons (o := { dst := none, op := Op.store 22 (Operand.tmp 122) (Operand.tmp 112), type := 0, pos := "ref.go:250", after := #[{ on := 26, ground := Ground.data }, { on := 14, ground := Ground.data }, { on := 24, ground := Ground.chain }, { on := 0, ground := Ground.phase }, { on := 1, ground := Ground.phase }, { on := 2, ground := Ground.phase }, { on := 3, ground := Ground.textOnly Departure.lateStores }, { on := 4, ground := Ground.textOnly Departure.lateStores }, { on := 5, ground := Ground.textOnly Departure.lateStores }, { on := 6, ground := Ground.phase }, { on := 7, ground := Ground.phase }, { on := 8, ground := Ground.phase }, { on := 9, ground := Ground.phase }, { on := 10, ground := Ground.phase }, { on := 11, ground := Ground.phase }, { on := 12, ground := Ground.phase }, { on := 13, ground := Ground.phase }, { on := 14, ground := Ground.phase }, { on := 15, ground := Ground.textOnly Departure.lateStores }, { on := 16, ground := Ground.textOnly Departure.lateStoresUnsure }, { on := 17, ground := Ground.textOnly Departure.lateStores }, { on := 18, ground := Ground.phase }, { on := 19, ground := Ground.phase }, { on := 20, ground := Ground.phase }, { on := 21, ground := Ground.phase }, { on := 22, ground := Ground.phase }, { on := 23, ground := Ground.phase }, { on := 24, ground := Ground.phase }], guard := none }) rfl (fun wA27 hA27 K hK => ?_) AllReadyU.nil
       have hx := HT.below HXw24.out hA27
       have cj := hx.cell (j := 3) rfl
       have fj := hx.frozen 3
       have how := OwnB.below HOw24.out hA27
       go_simp
       obtain ⟨w27, hw27⟩ : ∃ z, z = wA27.setCell ⟨gl, 3, none⟩ (.slice a9 n9 c9) := ⟨_, rfl⟩
       have hk1 : Kept (fun q => q = gl) wA27 w27 := by rw [hw27]; exact (Kept.refl (fun q => q = gl) wA27).setCell ⟨gl, 3, none⟩ _ rfl
       have HXw27 : Hid (HT w27 gl 107 [.pointer (some ⟨g, 0, none⟩), .int .i64 (h2 : Int), .int .i64 ((ge : Int) + 1), .slice a9 n9 c9, .slice a2 n2 c2, .int .i64 (fi : Int), .bool bg]) := by show HT _ _ _ _; rw [hw27]; exact hx.put 3 (.slice a9 n9 c9)
       have HKw27 : Hid (Kept (fun q => q = gl) wl w27) := ((HKw24.out).next hA27).trans hk1 (fun _ _ e => e)
       have HOw27 : Hid (OwnB 5 w27 wl.heap.size (.slice a9 n9 c9) s) := how.keptJ hk1 (fun q hq e => by have := OwnB.ge how q hq; have := HLL.out.lt; omega)
       rw [← hw27]
       refine hK.out _ _ (BL w27) (⟨fun _ _ => trivial, fun _ _ h hb => Below.next h hb⟩ : Cls (fun _ => True) (BL w27)) (Below.refl _ _) ?_
       clear hx cj fj how hk1 hw27
       clear hK K
       try simp only [Act.put]
       refine wpAnyU_take (i := 28) (oi := { dst := some 123, op := Op.nilCheck (Operand.tmp 101), type := 0, pos := "ref.go:250", after := #[{ on := 3, ground := Ground.data }, { on := 0, ground := Ground.phase }, { on := 1, ground := Ground.phase }, { on := 2, ground := Ground.phase }, { on := 3, ground := Ground.phase }, { on := 4, ground := Ground.textOnly Departure.lateStores }, { on := 5, ground := Ground.textOnly Departure.lateStores }, { on := 6, ground := Ground.phase }, { on := 7, ground := Ground.phase }, { on := 8, ground := Ground.phase }, { on := 9, ground := Ground.phase }, { on := 10, ground := Ground.phase }, { on := 11, ground := Ground.phase }, { on := 12, ground := Ground.phase }, { on := 13, ground := Ground.phase }, { on := 14, ground := Ground.phase }, { on := 15, ground := Ground.textOnly Departure.lateStores }, { on := 16, ground := Ground.textOnly Departure.lateStoresUnsure }, { on := 17, ground := Ground.textOnly Departure.lateStores }, { on := 18, ground := Ground.phase }, { on := 19, ground := Ground.phase }, { on := 20, ground := Ground.phase }, { on := 21, ground := Ground.phase }, { on := 22, ground := Ground.phase }, { on := 23, ground := Ground.phase }, { on := 24, ground := Ground.phase }, { on := 25, ground := Ground.phase }, { on := 26, ground := Ground.phase }, { on := 27, ground := Ground.phase }], guard := none }) (v := (.pointer (some ⟨gl, 0, none⟩))) rfl (by kernel_rfl) (by kernel_rfl) (by kernel_rfl) (by kernel_rfl) (by kernel_rfl) (fun _ _ _ h => h) (⟨fun _ _ => trivial, fun _ _ h hb => Below.next h hb⟩ : Cls (fun _ => True) (BL w27)) ?_ ?_
       ·
        refine Or.inl ⟨rfl, fun w hSw => ?_⟩
        exact EffR.same (by go_simp)
       try simp only [Act.put, zA, zB, zC]
       refine wpAnyU_take (i := 29) (oi := { dst := some 124, op := Op.fieldAddr 107 (Operand.tmp 123) 4, type := 0, pos := "ref.go:250", after := #[{ on := 28, ground := Ground.data }, { on := 0, ground := Ground.phase }, { on := 1, ground := Ground.phase }, { on := 2, ground := Ground.phase }, { on := 3, ground := Ground.phase }, { on := 4, ground := Ground.textOnly Departure.lateStores }, { on := 5, ground := Ground.textOnly Departure.lateStores }, { on := 6, ground := Ground.phase }, { on := 7, ground := Ground.phase }, { on := 8, ground := Ground.phase }, { on := 9, ground := Ground.phase }, { on := 10, ground := Ground.phase }, { on := 11, ground := Ground.phase }, { on := 12, ground := Ground.phase }, { on := 13, ground := Ground.phase }, { on := 14, ground := Ground.phase }, { on := 15, ground := Ground.textOnly Departure.lateStores }, { on := 16, ground := Ground.textOnly Departure.lateStoresUnsure }, { on := 17, ground := Ground.textOnly Departure.lateStores }, { on := 18, ground := Ground.phase }, { on := 19, ground := Ground.phase }, { on := 20, ground := Ground.phase }, { on := 21, ground := Ground.phase }, { on := 22, ground := Ground.phase }, { on := 23, ground := Ground.phase }, { on := 24, ground := Ground.phase }, { on := 25, ground := Ground.phase }, { on := 26, ground := Ground.phase }, { on := 27, ground := Ground.phase }], guard := none }) (v := (.pointer (some ⟨gl, 4, none⟩))) rfl (by kernel_rfl) (by kernel_rfl) (by kernel_rfl) (by kernel_rfl) (by kernel_rfl) (fun _ _ _ h => h) (⟨fun _ _ => trivial, fun _ _ h hb => Below.next h hb⟩ : Cls (fun _ => True) (BL w27)) ?_ ?_
       ·
        refine Or.inl ⟨rfl, fun w hSw => ?_⟩
        exact EffR.same (by go_simp)
       try simp only [Act.put, zA, zB, zC]
       refine wpAnyU_ready (rs := [30]) (by kernel_rfl) (by simp) ?_
       refine AllReadyU.cons (o := { dst := none, op := Op.store 23 (Operand.tmp 124) (Operand.const (Value.slice none 0 0)), type := 0, pos := "ref.go:250", after := #[{ on := 29, ground := Ground.data }, { on := 27, ground := Ground.chain }, { on := 0, ground := Ground.phase }, { on := 1, ground := Ground.phase }, { on := 2, ground := Ground.phase }, { on := 3, ground := Ground.phase }, { on := 4, ground := Ground.textOnly Departure.lateStores }, { on := 5, ground := Ground.textOnly Departure.lateStores }, { on := 6, ground := Ground.phase }, { on := 7, ground := Ground.phase }, { on := 8, ground := Ground.phase }, { on := 9, ground := Ground.phase }, { on := 10, ground := Ground.phase }, { on := 11, ground := Ground.phase }, { on := 12, ground := Ground.phase }, { on := 13, ground := Ground.phase }, { on := 14, ground := Ground.phase }, { on := 15, ground := Ground.textOnly Departure.lateStores }, { on := 16, ground := Ground.textOnly Departure.lateStoresUnsure }, { on := 17, ground := Ground.textOnly Departure.lateStores }, { on := 18, ground := Ground.phase }, { on := 19, ground := Ground.phase }, { on := 20, ground := Ground.phase }, { on := 21, ground := Ground.phase }, { on := 22, ground := Ground.phase }, { on := 23, ground := Ground.phase }, { on := 24, ground := Ground.phase }, { on := 25, ground := Ground.phase }, { on := 26, ground := Ground.phase }, { on := 27, ground := Ground.phase }], guard := none }) rfl (fun wA30 hA30 K hK => ?_) AllReadyU.nil
       have hx := HT.below HXw27.out hA30
       have cj := hx.cell (j := 4) rfl
       have fj := hx.frozen 4
       have how := OwnB.below HOw27.out hA30
       go_simp
       obtain ⟨w30, hw30⟩ : ∃ z, z = wA30.setCell ⟨gl, 4, none⟩ (.slice none 0 0) := ⟨_, rfl⟩
       have hk1 : Kept (fun q => q = gl) wA30 w30 := by rw [hw30]; exact (Kept.refl (fun q => q = gl) wA30).setCell ⟨gl, 4, none⟩ _ rfl
       have HXw30 : Hid (HT w30 gl 107 [.pointer (some ⟨g, 0, none⟩), .int .i64 (h2 : Int), .int .i64 ((ge : Int) + 1), .slice a9 n9 c9, .slice none 0 0, .int .i64 (fi : Int), .bool bg]) := by show HT _ _ _ _; rw [hw30]; exact hx.put 4 (.slice none 0 0)
       have HKw30 : Hid (Kept (fun q => q = gl) wl w30) := ((HKw27.out).next hA30).trans hk1 (fun _ _ e => e)
       have HOw30 : Hid (OwnB 5 w30 wl.heap.size (.slice a9 n9 c9) s) := how.keptJ hk1 (fun q hq e => by have := OwnB.ge how q hq; have := HLL.out.lt; omega)
       rw [← hw30]
       refine hK.out _ _ (BL w30) (⟨fun _ _ => trivial, fun _ _ h hb => Below.next h hb⟩ : Cls (fun _ => True) (BL w30)) (Below.refl _ _) ?_
       clear hx cj fj how hk1 hw30
       clear hK K
       try simp only [Act.put]
       refine wpAnyU_take (i := 31) (oi := { dst := some 125, op := Op.nilCheck (Operand.tmp 102), type := 0, pos := "ref.go:250", after := #[{ on := 4, ground := Ground.data }, { on := 0, ground := Ground.phase }, { on := 1, ground := Ground.phase }, { on := 2, ground := Ground.phase }, { on := 3, ground := Ground.phase }, { on := 4, ground := Ground.phase }, { on := 5, ground := Ground.textOnly Departure.lateStores }, { on := 6, ground := Ground.phase }, { on := 7, ground := Ground.phase }, { on := 8, ground := Ground.phase }, { on := 9, ground := Ground.phase }, { on := 10, ground := Ground.phase }, { on := 11, ground := Ground.phase }, { on := 12, ground := Ground.phase }, { on := 13, ground := Ground.phase }, { on := 14, ground := Ground.phase }, { on := 15, ground := Ground.phase }, { on := 16, ground := Ground.phase }, { on := 17, ground := Ground.phase }, { on := 18, ground := Ground.phase }, { on := 19, ground := Ground.phase }, { on := 20, ground := Ground.phase }, { on := 21, ground := Ground.phase }, { on := 22, ground := Ground.phase }, { on := 23, ground := Ground.phase }, { on := 24, ground := Ground.phase }, { on := 25, ground := Ground.phase }, { on := 26, ground := Ground.phase }, { on := 27, ground := Ground.phase }, { on := 28, ground := Ground.phase }, { on := 29, ground := Ground.phase }, { on := 30, ground := Ground.phase }], guard := none }) (v := (.pointer (some ⟨gl, 0, none⟩))) rfl (by kernel_rfl) (by kernel_rfl) (by kernel_rfl) (by kernel_rfl) (by kernel_rfl) (fun _ _ _ h => h) (⟨fun _ _ => trivial, fun _ _ h hb => Below.next h hb⟩ : Cls (fun _ => True) (BL w30)) ?_ ?_
       ·
        refine Or.inl ⟨rfl, fun w hSw => ?_⟩
        exact EffR.same (by go_simp)
       try simp only [Act.put, zA, zB, zC]
       refine wpAnyU_take (i := 32) (oi := { dst := some 126, op := Op.fieldAddr 107 (Operand.tmp 125) 5, type := 0, pos := "ref.go:250", after := #[{ on := 31, ground := Ground.data }, { on := 0, ground := Ground.phase }, { on := 1, ground := Ground.phase }, { on := 2, ground := Ground.phase }, { on := 3, ground := Ground.phase }, { on := 4, ground := Ground.phase }, { on := 5, ground := Ground.textOnly Departure.lateStores }, { on := 6, ground := Ground.phase }, { on := 7, ground := Ground.phase }, { on := 8, ground := Ground.phase }, { on := 9, ground := Ground.phase }, { on := 10, ground := Ground.phase }, { on := 11, ground := Ground.phase }, { on := 12, ground := Ground.phase }, { on := 13, ground := Ground.phase }, { on := 14, ground := Ground.phase }, { on := 15, ground := Ground.phase }, { on := 16, ground := Ground.phase }, { on := 17, ground := Ground.phase }, { on := 18, ground := Ground.phase }, { on := 19, ground := Ground.phase }, { on := 20, ground := Ground.phase }, { on := 21, ground := Ground.phase }, { on := 22, ground := Ground.phase }, { on := 23, ground := Ground.phase }, { on := 24, ground := Ground.phase }, { on := 25, ground := Ground.phase }, { on := 26, ground := Ground.phase }, { on := 27, ground := Ground.phase }, { on := 28, ground := Ground.phase }, { on := 29, ground := Ground.phase }, { on := 30, ground := Ground.phase }], guard := none }) (v := (.pointer (some ⟨gl, 5, none⟩))) rfl (by kernel_rfl) (by kernel_rfl) (by kernel_rfl) (by kernel_rfl) (by kernel_rfl) (fun _ _ _ h => h) (⟨fun _ _ => trivial, fun _ _ h hb => Below.next h hb⟩ : Cls (fun _ => True) (BL w30)) ?_ ?_
       ·
        refine Or.inl ⟨rfl, fun w hSw => ?_⟩
        exact EffR.same (by go_simp)
       try simp only [Act.put, zA, zB, zC]
       refine wpAnyU_ready (rs := [33]) (by kernel_rfl) (by simp) ?_
       refine AllReadyU.cons (o := { dst := none, op := Op.store 3 (Operand.tmp 126) (Operand.tmp 116), type := 0, pos := "ref.go:250", after := #[{ on := 32, ground := Ground.data }, { on := 18, ground := Ground.data }, { on := 30, ground := Ground.chain }, { on := 0, ground := Ground.phase }, { on := 1, ground := Ground.phase }, { on := 2, ground := Ground.phase }, { on := 3, ground := Ground.phase }, { on := 4, ground := Ground.phase }, { on := 5, ground := Ground.textOnly Departure.lateStores }, { on := 6, ground := Ground.phase }, { on := 7, ground := Ground.phase }, { on := 8, ground := Ground.phase }, { on := 9, ground := Ground.phase }, { on := 10, ground := Ground.phase }, { on := 11, ground := Ground.phase }, { on := 12, ground := Ground.phase }, { on := 13, ground := Ground.phase }, { on := 14, ground := Ground.phase }, { on := 15, ground := Ground.phase }, { on := 16, ground := Ground.phase }, { on := 17, ground := Ground.phase }, { on := 18, ground := Ground.phase }, { on := 19, ground := Ground.phase }, { on := 20, ground := Ground.phase }, { on := 21, ground := Ground.phase }, { on := 22, ground := Ground.phase }, { on := 23, ground := Ground.phase }, { on := 24, ground := Ground.phase }, { on := 25, ground := Ground.phase }, { on := 26, ground := Ground.phase }, { on := 27, ground := Ground.phase }, { on := 28, ground := Ground.phase }, { on := 29, ground := Ground.phase }, { on := 30, ground := Ground.phase }], guard := none }) rfl (fun wA33 hA33 K hK => ?_) AllReadyU.nil
       have hx := HT.below HXw30.out hA33
       have cj := hx.cell (j := 5) rfl
       have fj := hx.frozen 5
       have how := OwnB.below HOw30.out hA33
       go_simp
       obtain ⟨w33, hw33⟩ : ∃ z, z = wA33.setCell ⟨gl, 5, none⟩ (.int .i64 (rl : Int)) := ⟨_, rfl⟩
       have hk1 : Kept (fun q => q = gl) wA33 w33 := by rw [hw33]; exact (Kept.refl (fun q => q = gl) wA33).setCell ⟨gl, 5, none⟩ _ rfl
       have HXw33 : Hid (HT w33 gl 107 [.pointer (some ⟨g, 0, none⟩), .int .i64 (h2 : Int), .int .i64 ((ge : Int) + 1), .slice a9 n9 c9, .slice none 0 0, .int .i64 (rl : Int), .bool bg]) := by show HT _ _ _ _; rw [hw33]; exact hx.put 5 (.int .i64 (rl : Int))
       have HKw33 : Hid (Kept (fun q => q = gl) wl w33) := ((HKw30.out).next hA33).trans hk1 (fun _ _ e => e)
       have HOw33 : Hid (OwnB 5 w33 wl.heap.size (.slice a9 n9 c9) s) := how.keptJ hk1 (fun q hq e => by have := OwnB.ge how q hq; have := HLL.out.lt; omega)
       rw [← hw33]
       refine hK.out _ _ (BL w33) (⟨fun _ _ => trivial, fun _ _ h hb => Below.next h hb⟩ : Cls (fun _ => True) (BL w33)) (Below.refl _ _) ?_
       clear hx cj fj how hk1 hw33
       clear hK K
       try simp only [Act.put]
       refine wpAnyU_take (i := 34) (oi := { dst := some 127, op := Op.nilCheck (Operand.tmp 103), type := 0, pos := "ref.go:250", after := #[{ on := 5, ground := Ground.data }, { on := 0, ground := Ground.phase }, { on := 1, ground := Ground.phase }, { on := 2, ground := Ground.phase }, { on := 3, ground := Ground.phase }, { on := 4, ground := Ground.phase }, { on := 5, ground := Ground.phase }, { on := 6, ground := Ground.phase }, { on := 7, ground := Ground.phase }, { on := 8, ground := Ground.phase }, { on := 9, ground := Ground.phase }, { on := 10, ground := Ground.phase }, { on := 11, ground := Ground.phase }, { on := 12, ground := Ground.phase }, { on := 13, ground := Ground.phase }, { on := 14, ground := Ground.phase }, { on := 15, ground := Ground.phase }, { on := 16, ground := Ground.phase }, { on := 17, ground := Ground.phase }, { on := 18, ground := Ground.phase }, { on := 19, ground := Ground.phase }, { on := 20, ground := Ground.phase }, { on := 21, ground := Ground.phase }, { on := 22, ground := Ground.phase }, { on := 23, ground := Ground.phase }, { on := 24, ground := Ground.phase }, { on := 25, ground := Ground.phase }, { on := 26, ground := Ground.phase }, { on := 27, ground := Ground.phase }, { on := 28, ground := Ground.phase }, { on := 29, ground := Ground.phase }, { on := 30, ground := Ground.phase }, { on := 31, ground := Ground.phase }, { on := 32, ground := Ground.phase }, { on := 33, ground := Ground.phase }], guard := none }) (v := (.pointer (some ⟨gl, 0, none⟩))) rfl (by kernel_rfl) (by kernel_rfl) (by kernel_rfl) (by kernel_rfl) (by kernel_rfl) (fun _ _ _ h => h) (⟨fun _ _ => trivial, fun _ _ h hb => Below.next h hb⟩ : Cls (fun _ => True) (BL w33)) ?_ ?_
       ·
        refine Or.inl ⟨rfl, fun w hSw => ?_⟩
        exact EffR.same (by go_simp)
       try simp only [Act.put, zA, zB, zC]
       refine wpAnyU_take (i := 35) (oi := { dst := some 128, op := Op.fieldAddr 107 (Operand.tmp 127) 6, type := 0, pos := "ref.go:250", after := #[{ on := 34, ground := Ground.data }, { on := 0, ground := Ground.phase }, { on := 1, ground := Ground.phase }, { on := 2, ground := Ground.phase }, { on := 3, ground := Ground.phase }, { on := 4, ground := Ground.phase }, { on := 5, ground := Ground.phase }, { on := 6, ground := Ground.phase }, { on := 7, ground := Ground.phase }, { on := 8, ground := Ground.phase }, { on := 9, ground := Ground.phase }, { on := 10, ground := Ground.phase }, { on := 11, ground := Ground.phase }, { on := 12, ground := Ground.phase }, { on := 13, ground := Ground.phase }, { on := 14, ground := Ground.phase }, { on := 15, ground := Ground.phase }, { on := 16, ground := Ground.phase }, { on := 17, ground := Ground.phase }, { on := 18, ground := Ground.phase }, { on := 19, ground := Ground.phase }, { on := 20, ground := Ground.phase }, { on := 21, ground := Ground.phase }, { on := 22, ground := Ground.phase }, { on := 23, ground := Ground.phase }, { on := 24, ground := Ground.phase }, { on := 25, ground := Ground.phase }, { on := 26, ground := Ground.phase }, { on := 27, ground := Ground.phase }, { on := 28, ground := Ground.phase }, { on := 29, ground := Ground.phase }, { on := 30, ground := Ground.phase }, { on := 31, ground := Ground.phase }, { on := 32, ground := Ground.phase }, { on := 33, ground := Ground.phase }], guard := none }) (v := (.pointer (some ⟨gl, 6, none⟩))) rfl (by kernel_rfl) (by kernel_rfl) (by kernel_rfl) (by kernel_rfl) (by kernel_rfl) (fun _ _ _ h => h) (⟨fun _ _ => trivial, fun _ _ h hb => Below.next h hb⟩ : Cls (fun _ => True) (BL w33)) ?_ ?_
       ·
        refine Or.inl ⟨rfl, fun w hSw => ?_⟩
        exact EffR.same (by go_simp)
       try simp only [Act.put, zA, zB, zC]
       refine wpAnyU_ready (rs := [36]) (by kernel_rfl) (by simp) ?_
       refine AllReadyU.cons (o := { dst := none, op := Op.store 4 (Operand.tmp 128) (Operand.const (Value.bool true)), type := 0, pos := "ref.go:250", after := #[{ on := 35, ground := Ground.data }, { on := 33, ground := Ground.chain }, { on := 0, ground := Ground.phase }, { on := 1, ground := Ground.phase }, { on := 2, ground := Ground.phase }, { on := 3, ground := Ground.phase }, { on := 4, ground := Ground.phase }, { on := 5, ground := Ground.phase }, { on := 6, ground := Ground.phase }, { on := 7, ground := Ground.phase }, { on := 8, ground := Ground.phase }, { on := 9, ground := Ground.phase }, { on := 10, ground := Ground.phase }, { on := 11, ground := Ground.phase }, { on := 12, ground := Ground.phase }, { on := 13, ground := Ground.phase }, { on := 14, ground := Ground.phase }, { on := 15, ground := Ground.phase }, { on := 16, ground := Ground.phase }, { on := 17, ground := Ground.phase }, { on := 18, ground := Ground.phase }, { on := 19, ground := Ground.phase }, { on := 20, ground := Ground.phase }, { on := 21, ground := Ground.phase }, { on := 22, ground := Ground.phase }, { on := 23, ground := Ground.phase }, { on := 24, ground := Ground.phase }, { on := 25, ground := Ground.phase }, { on := 26, ground := Ground.phase }, { on := 27, ground := Ground.phase }, { on := 28, ground := Ground.phase }, { on := 29, ground := Ground.phase }, { on := 30, ground := Ground.phase }, { on := 31, ground := Ground.phase }, { on := 32, ground := Ground.phase }, { on := 33, ground := Ground.phase }], guard := none }) rfl (fun wA36 hA36 K hK => ?_) AllReadyU.nil
       have hx := HT.below HXw33.out hA36
       have cj := hx.cell (j := 6) rfl
       have fj := hx.frozen 6
       have how := OwnB.below HOw33.out hA36
       go_simp
       obtain ⟨w36, hw36⟩ : ∃ z, z = wA36.setCell ⟨gl, 6, none⟩ (.bool true) := ⟨_, rfl⟩
       have hk1 : Kept (fun q => q = gl) wA36 w36 := by rw [hw36]; exact (Kept.refl (fun q => q = gl) wA36).setCell ⟨gl, 6, none⟩ _ rfl
       have HXw36 : Hid (HT w36 gl 107 [.pointer (some ⟨g, 0, none⟩), .int .i64 (h2 : Int), .int .i64 ((ge : Int) + 1), .slice a9 n9 c9, .slice none 0 0, .int .i64 (rl : Int), .bool true]) := by show HT _ _ _ _; rw [hw36]; exact hx.put 6 (.bool true)
       have HKw36 : Hid (Kept (fun q => q = gl) wl w36) := ((HKw33.out).next hA36).trans hk1 (fun _ _ e => e)
       have HOw36 : Hid (OwnB 5 w36 wl.heap.size (.slice a9 n9 c9) s) := how.keptJ hk1 (fun q hq e => by have := OwnB.ge how q hq; have := HLL.out.lt; omega)
       rw [← hw36]
       refine hK.out _ _ (BL w36) (⟨fun _ _ => trivial, fun _ _ h hb => Below.next h hb⟩ : Cls (fun _ => True) (BL w36)) (Below.refl _ _) ?_
       clear hx cj fj how hk1 hw36
       clear hK K
       try simp only [Act.put]
       refine wpAnyU_done (by kernel_rfl) (fun w1 hb1 => ?_) _
       have HX9 := Lib.hid (HT.below HXw36.out hb1)
       have HK9 := Lib.hid (HKw36.out.next hb1)
       have HO9 := Lib.hid (OwnB.below HOw36.out hb1)
       clear hb1 HXw21 HKw21 HOw21 HXw24 HKw24 HOw24 HXw27 HKw27 HOw27 HXw30 HKw30 HOw30 HXw33 HKw33 HOw33 HXw36 HKw36 HOw36
       go_wp2_with fail
       go_ret
       have hres : PH = (0, D4) := HFIN.out
       rw [hres]
       refine PBegRes.ok rfl rfl ?_
       have hgF : ¬ F5 gl := fun e => by
        rcases HF9.out gl e with e | e
        ·
         exact HDIS.out gl e HGL.out
        ·
         have := HGLT.out; omega
       refine ⟨F5, fun q => q = gl ∨ (Value.slice a9 n9 c9).ownBlock = some q, ?_, ?_, ?_, ?_, ?_⟩
       ·
        exact HDL.out.kept HK9.out (fun q e1 e2 => hgF (by rw [← e2]; exact e1))
       ·
        refine ⟨.slice a9 n9 c9, .slice none 0 0, ?_, ⟨HO9.out.base (Nat.zero_le _), fun q e => .inr e, recsM.nil _ _⟩, .inl rfl, fun q e => ?_⟩
        ·
         show HT _ _ _ (plcells g h2 _ _ ⟨ot, ⟨ge + 1, s, [], rl⟩, true⟩)
         unfold plcells
         show HT _ _ _ [.pointer (some ⟨g, 0, none⟩), .int .i64 (h2 : Int), .int .i64 ((ge + 1 : Nat) : Int), .slice a9 n9 c9, .slice none 0 0, .int .i64 (rl : Int), .bool true]
         rw [Int.natCast_add]
         exact HX9.out
        ·
         rcases e with e | e
         ·
          rw [e]; exact HX9.out.lt
         ·
          exact OwnB.lt HO9.out q e
       ·
        intro q e1 e2
        rcases e2 with e2 | e2
        ·
         exact hgF (by rw [← e2]; exact e1)
        ·
         have h1 := OwnB.ge HO9.out q e2
         have h3 := HDL.out.lt q e1
         omega
       ·
        exact (HKL.out.weaken (fun q e => .inl e)).trans HK9.out (fun i _ e => by rw [e]; exact .inr HGL.out)
       ·
        intro q e
        have hsb := HKL.out.size
        rcases e with e | e | e
        ·
         rcases HF9.out q e with e | e
         ·
          exact .inl e
         ·
          exact .inr (.inr e)
        ·
         exact .inr (.inl (by rw [e]; exact HGL.out))
        ·
         have h1 := OwnB.ge HO9.out q e
         exact .inr (.inr (by omega))
     ·
      have h041 : ((E4 : Int) != 0) = true := by rw [bne_iff_ne]; exact h04
      have H00 := Lib.hid h04
      clear h04
      go_wp2_with fail
      go_ret
      have hres : PH = (E4, D4) := by
       rw [HPH1.out, dPhases_stop (by rw [HPH2.out]; exact H00.out), HPH2.out]
      rw [hres]
      exact PBegRes.no (by exact H00.out) rfl (PJPost.quit HLX.out HDL.out HKL.out HF9.out HDIS.out)
    ·
     have h031 : ((E3 : Int) == 0) = false := by rw [beq_eq_false_iff_ne]; exact h03
     have h032 : ((E3 : Int) != 0) = true := by rw [bne_iff_ne]; exact h03
     have H00 := Lib.hid h03
     clear h03
     go_wp2_with fail
     go_ret
     have hres : PH = (E3, D3) := by
      have h1 : dPhase D2 ot (rowsOf (ge + 1) 0 s) = (E3, D3) := by
       unfold dPhase
       rw [if_neg (by rw [← HE3.out]; exact H00.out), HE3.out, HD3E.out]
      rw [HPH1.out, dPhases_stop (by rw [h1]; exact H00.out), h1]
     rw [hres]
     exact PBegRes.no (by exact H00.out) rfl (PJPost.quit HLX.out HD8.out HK8.out HF7.out HDIS.out)
   ·
    have h021 : ((E2 : Int) == 0) = false := by rw [beq_eq_false_iff_ne]; exact h02
    have h022 : ((E2 : Int) != 0) = true := by rw [bne_iff_ne]; exact h02
    have H00 := Lib.hid h02
    clear h02
    go_wp2_with fail
    go_ret
    have hres : PH = (E2, D2) := by
     rw [HPH.out, dPhases_stop (by rw [HP1.out]; exact H00.out), HP1.out]
    rw [hres]
    exact PBegRes.no (by exact H00.out) rfl (PJPost.quit HLX.out HD5.out HK5.out HF5.out HDIS.out)
end Cam
