import Derived.Test.YtlnclfiiplpaiaaJnE
/- journal: (*Log).write. -/
namespace Cam
open Go Go.RowKit Go.Proofs
theorem eff_load_mid {P : Program} {op : Oper} {a : Act} {w : World} (ty : TypeId) (x : Operand) (ho : op.op = .load ty x)
  (b o : Nat) (hx : a.eval x = .pointer (some ⟨b, o, none⟩)) (cs : List Value) (d : TypeDesc) (hc : w.rangeAt b o cs)
  (hu : P.underlying ty = some d) (hd : d.isRow = true) (hi : (P.info? ty).map (·.size) = some cs.length) : EffR P (.agg cs.toArray) w ((execOp a.eval op).run P w) :=
 EffR.same (by
  unfold execOp
  simp only [ho, hx, Instr.loadAt, Instr.sureAddr, Sem.run_bind, Sem.run_pure, Result.andThen_ok, run_loadVar_mid w b o ty cs d hc hu hd hi])
def dWrites (D : DK) : Nat → List (List UInt8) → Int × DK
 | _, [] => (0, D)
 | at_, b :: L => if (dWrite D at_ b).1 = 0 then dWrites (dWrite D at_ b).2 (at_ + 1) L else dWrite D at_ b
theorem dWrites_ok {D : DK} {at_ : Nat} {b : List UInt8} {L : List (List UInt8)} (h : (dWrite D at_ b).1 = 0) : dWrites D at_ (b :: L) = dWrites (dWrite D at_ b).2 (at_ + 1) L := by rw [dWrites, if_pos h]
theorem dWrites_stop {D : DK} {at_ : Nat} {b : List UInt8} {L : List (List UInt8)} (h : (dWrite D at_ b).1 ≠ 0) : dWrites D at_ (b :: L) = ((dWrite D at_ b).1, (dWrite D at_ b).2) := by rw [dWrites, if_neg h]
theorem dWrite_op (D : DK) (k : Nat) (b : List UInt8) : (dWrite D k b).2.op.length ≤ D.op.length + 1 := by
 unfold dWrite
 split
 ·
  exact Nat.le_succ _
 ·
  rw [(dLast_same (dPut D k b)).2.2]
  simp [dPut]
set_option maxRecDepth 100000 in
set_option maxHeartbeats 3200000 in
theorem write_any (w : World) (gl g n : Nat) (F : Nat → Prop) (D : DK) (h : DX w g F n D) (hgl : ∀ w', Kept F w w' → w'.cell? ⟨gl, 0, none⟩ = some (.pointer (some ⟨g, 0, none⟩))) (at_ : Nat) (v : Value) (L : List (List UInt8)) (h64 : ∀ b ∈ L, b.length = 64) (hp : ∀ w', Kept F w w' → Rs encB 64 w' v L)
  (hat : at_ + L.length ≤ n) (hf : D.op.length + L.length ≤ 1000000) :
  Calls Try.prog 43 #[.pointer (some ⟨gl, 0, none⟩), .int .i64 (at_ : Int), v] w fun e w' => e = .returned (.int .i64 (dWrites D at_ L).1) ∧ DXPost w g F n (dWrites D at_ L).2 w' := by
 obtain ⟨av, cap, rfl, hcap, hm⟩ := (hp w (Kept.refl _ _)).shape
 obtain ⟨m, hmL⟩ : ∃ z, z = L.length := ⟨_, rfl⟩
 rw [← hmL] at hat hf hcap hp ⊢
 have HN := Lib.hid hmL
 have HP := Lib.hid hp
 have H64 := Lib.hid h64
 have HGL := Lib.hid hgl
 have H := Lib.hid h
 have hn1 := h.ok.n1
 have hn2 : (0 : Int) ≤ at_ ∧ (at_ : Int) + m ≤ 65536 := by omega
 clear hmL hp h64 hgl h
 go_enter Try.func43, Try.ntmps43
 go_wp2_with fail
 go_loopw [12] (fun i wr => ∃ (k : Nat) (Dk : DK) (F1 : Nat → Prop), k ≤ m ∧ i = .int .i64 k ∧ DX wr g F1 n Dk ∧ Kept F w wr ∧ (∀ q, F1 q → F q ∨ w.heap.size ≤ q) ∧ Hid (dWrites D at_ L = dWrites Dk (at_ + k) (L.drop k)) ∧ Hid (Dk.op.length ≤ D.op.length + k)) (fun i _ => m - (intOf i).toNat)
 case atStart => exact ⟨0, D, F, Nat.zero_le _, rfl, H.out, Kept.refl _ _, fun q e => .inl e, rfl, Nat.le_refl _⟩
 case round =>
  obtain ⟨k, Dk, F1, hk, rfl, hdk, hkp, hf1, HREC, HOP⟩ := hrel
  have HD := Lib.hid hdk
  have HK := Lib.hid hkp
  have HF1 := Lib.hid hf1
  clear hdk hkp hf1
  by_cases hlt : k < m
  ·
   have hkl : k < L.length := by have := HN.out; omega
   have hrs := HP.out wr HK.out
   obtain ⟨bk, off, rfl, hbw, hcx⟩ := Rs.at hrs (by omega) (by decide)
   obtain ⟨b, hb⟩ : ∃ z, z = L[k] := ⟨_, rfl⟩
   have hb64 : b.length = 64 := by rw [hb]; exact H64.out _ (List.getElem_mem _)
   have hran : wr.rangeAt bk (off + k * 64) (bvs b) := fun j v hv => hcx k hkl j v (by rw [← hb, encB_64 hb64]; exact hv)
   obtain ⟨hbx, hcb, hthx⟩ := boxJ wr b hb64
   have HRAN := Lib.hid hran
   have HSZ := Lib.hid (size64_of hb64)
   have HROOM := Lib.hid hthx
   have HBB := Lib.hid hb
   have HB64 := Lib.hid hb64
   have hk0 : (0 : Int) ≤ k ∧ (k : Int) < m := by omega
   have HDV := Lib.hid (HD.out.below hbx)
   have HKV := Lib.hid (HK.out.next hbx)
   have HCV := Lib.hid hcb
   have HGLV := Lib.hid (HGL.out _ (HK.out.next hbx))
   have HRV := Lib.hid hcb.bytes
   obtain ⟨gb, hgb⟩ : ∃ z, z = wr.heap.size := ⟨_, rfl⟩
   have HNB : Hid (¬ F1 gb) := fun e => by have := HD.out.lt gb e; omega
   obtain ⟨Dn, hDn⟩ : ∃ z, z = (dWrite Dk (at_ + k) b).2 := ⟨_, rfl⟩
   obtain ⟨E, hE⟩ : ∃ z, z = (dWrite Dk (at_ + k) b).1 := ⟨_, rfl⟩
   have HDN := Lib.hid hDn
   have HE := Lib.hid hE
   clear hran hbx hcb hthx hb hb64 hrs hcx hbw hDn hE
   have HWR : Hid (IntKind.i64.wrap ((at_ : Int) + (k : Int)) = (at_ : Int) + k) := IntWalk.i64_in _ (by omega)
   go_upto_region 4 with (first
    | (refine wpList_load_mid rfl 36 (.tmp 15) rfl bk (off + k * 64) rfl (bvs b) _ HRAN.out Try.underlying36 rfl HSZ.out ?_)
    | (refine wpList_store_mid rfl 36 (.tmp 8) (.tmp 16) rfl wr.heap.size 0 (bvs b).toArray rfl rfl HROOM.out (by simpa using HSZ.out) (all_oneCell_toArray (bs_oneCell _)) ?_; change wpList _ _ _ _ _ ((wr.alloc (.cells (bvs zero64).toArray 36)).setCells wr.heap.size 0 (bvs b)))
    | fail)
   rw [← hgb] at HDV HKV HCV HGLV HRV HROOM ⊢
   generalize ((wr.alloc (.cells (bvs zero64).toArray 36)).setCells gb 0 (bvs b)) = V at HDV HKV HCV HGLV HRV ⊢
   clear hgb HROOM
   refine wp_region_uni (S0 := (fun x => x.cell? ⟨gl, 0, none⟩ = some (.pointer (some ⟨g, 0, none⟩)) ∧ x.rangeAt gb 0 (bvs b))) (S := BL V) 10 (by kernel_rfl) (Below.refl _ _).drew ?_
   refine wpAnyU_take (i := 0) (oi := { dst := some 17, op := Op.move (Operand.tmp 0), type := 30, pos := "journal.go:101", after := #[], guard := none }) (v := (.pointer (some ⟨gl, 0, none⟩))) rfl (by kernel_rfl) (by kernel_rfl) (by kernel_rfl) (by kernel_rfl) (by kernel_rfl) (fun _ _ _ h => h) (⟨fun x h => ⟨BL.cell h HGLV.out, fun j v hv => BL.cell h (HRV.out j v hv)⟩, fun _ _ h hb => Below.next h hb⟩ : Cls (fun x => x.cell? ⟨gl, 0, none⟩ = some (.pointer (some ⟨g, 0, none⟩)) ∧ x.rangeAt gb 0 (bvs b)) (BL V)) ?_ ?_
   ·
    refine Or.inl ⟨rfl, fun w hSw => ?_⟩
    exact EffR.same (by go_simp)
   try simp only [Act.put, zA, zB, zC]
   refine wpAnyU_take (i := 1) (oi := { dst := some 18, op := Op.nilCheck (Operand.tmp 17), type := 0, pos := "journal.go:101", after := #[{ on := 0, ground := Ground.data }], guard := none }) (v := (.pointer (some ⟨gl, 0, none⟩))) rfl (by kernel_rfl) (by kernel_rfl) (by kernel_rfl) (by kernel_rfl) (by kernel_rfl) (fun _ _ _ h => h) (⟨fun x h => ⟨BL.cell h HGLV.out, fun j v hv => BL.cell h (HRV.out j v hv)⟩, fun _ _ h hb => Below.next h hb⟩ : Cls (fun x => x.cell? ⟨gl, 0, none⟩ = some (.pointer (some ⟨g, 0, none⟩)) ∧ x.rangeAt gb 0 (bvs b)) (BL V)) ?_ ?_
   ·
    refine Or.inl ⟨rfl, fun w hSw => ?_⟩
    exact EffR.same (by go_simp)
   try simp only [Act.put, zA, zB, zC]
   refine wpAnyU_take (i := 2) (oi := { dst := some 19, op := Op.fieldAddr 89 (Operand.tmp 18) 0, type := 0, pos := "journal.go:101", after := #[{ on := 1, ground := Ground.data }], guard := none }) (v := (.pointer (some ⟨gl, 0, none⟩))) rfl (by kernel_rfl) (by kernel_rfl) (by kernel_rfl) (by kernel_rfl) (by kernel_rfl) (fun _ _ _ h => h) (⟨fun x h => ⟨BL.cell h HGLV.out, fun j v hv => BL.cell h (HRV.out j v hv)⟩, fun _ _ h hb => Below.next h hb⟩ : Cls (fun x => x.cell? ⟨gl, 0, none⟩ = some (.pointer (some ⟨g, 0, none⟩)) ∧ x.rangeAt gb 0 (bvs b)) (BL V)) ?_ ?_
   ·
    refine Or.inl ⟨rfl, fun w hSw => ?_⟩
    exact EffR.same (by go_simp)
   try simp only [Act.put, zA, zB, zC]
   refine wpAnyU_take (i := 3) (oi := { dst := some 20, op := Op.load 26 (Operand.tmp 19), type := 26, pos := "journal.go:101", after := #[{ on := 2, ground := Ground.data }], guard := none }) (v := (.pointer (some ⟨g, 0, none⟩))) rfl (by kernel_rfl) (by kernel_rfl) (by kernel_rfl) (by kernel_rfl) (by kernel_rfl) (fun _ _ _ h => h) (⟨fun x h => ⟨BL.cell h HGLV.out, fun j v hv => BL.cell h (HRV.out j v hv)⟩, fun _ _ h hb => Below.next h hb⟩ : Cls (fun x => x.cell? ⟨gl, 0, none⟩ = some (.pointer (some ⟨g, 0, none⟩)) ∧ x.rangeAt gb 0 (bvs b)) (BL V)) ?_ ?_
   ·
    refine Or.inl ⟨rfl, fun w hSw => ?_⟩
    have e0 := hSw.1
    exact EffR.same (by go_simp)
   try simp only [Act.put, zA, zB, zC]
   refine wpAnyU_take (i := 4) (oi := { dst := some 21, op := Op.move (Operand.tmp 1), type := 3, pos := "journal.go:101", after := #[], guard := none }) (v := (.int .i64 (at_ : Int))) rfl (by kernel_rfl) (by kernel_rfl) (by kernel_rfl) (by kernel_rfl) (by kernel_rfl) (fun _ _ _ h => h) (⟨fun x h => ⟨BL.cell h HGLV.out, fun j v hv => BL.cell h (HRV.out j v hv)⟩, fun _ _ h hb => Below.next h hb⟩ : Cls (fun x => x.cell? ⟨gl, 0, none⟩ = some (.pointer (some ⟨g, 0, none⟩)) ∧ x.rangeAt gb 0 (bvs b)) (BL V)) ?_ ?_
   ·
    refine Or.inl ⟨rfl, fun w hSw => ?_⟩
    exact EffR.same (by go_simp)
   try simp only [Act.put, zA, zB, zC]
   refine wpAnyU_take (i := 5) (oi := { dst := some 22, op := Op.move (Operand.tmp 7), type := 3, pos := "journal.go:101", after := #[], guard := none }) (v := (.int .i64 (k : Int))) rfl (by kernel_rfl) (by kernel_rfl) (by kernel_rfl) (by kernel_rfl) (by kernel_rfl) (fun _ _ _ h => h) (⟨fun x h => ⟨BL.cell h HGLV.out, fun j v hv => BL.cell h (HRV.out j v hv)⟩, fun _ _ h hb => Below.next h hb⟩ : Cls (fun x => x.cell? ⟨gl, 0, none⟩ = some (.pointer (some ⟨g, 0, none⟩)) ∧ x.rangeAt gb 0 (bvs b)) (BL V)) ?_ ?_
   ·
    refine Or.inl ⟨rfl, fun w hSw => ?_⟩
    exact EffR.same (by go_simp)
   try simp only [Act.put, zA, zB, zC]
   refine wpAnyU_take (i := 6) (oi := { dst := some 23, op := Op.binOp BinOp.add 3 (Operand.tmp 21) (Operand.tmp 22) 3, type := 3, pos := "journal.go:101", after := #[{ on := 4, ground := Ground.data }, { on := 5, ground := Ground.data }], guard := none }) (v := (.int .i64 ((at_ : Int) + (k : Int)))) rfl (by kernel_rfl) (by kernel_rfl) (by kernel_rfl) (by kernel_rfl) (by kernel_rfl) (fun _ _ _ h => h) (⟨fun x h => ⟨BL.cell h HGLV.out, fun j v hv => BL.cell h (HRV.out j v hv)⟩, fun _ _ h hb => Below.next h hb⟩ : Cls (fun x => x.cell? ⟨gl, 0, none⟩ = some (.pointer (some ⟨g, 0, none⟩)) ∧ x.rangeAt gb 0 (bvs b)) (BL V)) ?_ ?_
   ·
    refine Or.inl ⟨rfl, fun w hSw => ?_⟩
    have e0 := HWR.out
    exact EffR.same (by go_simp)
   try simp only [Act.put, zA, zB, zC]
   refine wpAnyU_take (i := 7) (oi := { dst := some 24, op := Op.load 36 (Operand.tmp 8), type := 36, pos := "journal.go:101", after := #[], guard := none }) (v := (.agg (bvs b).toArray)) rfl (by kernel_rfl) (by kernel_rfl) (by kernel_rfl) (by kernel_rfl) (by kernel_rfl) (fun _ _ _ h => h) (⟨fun x h => ⟨BL.cell h HGLV.out, fun j v hv => BL.cell h (HRV.out j v hv)⟩, fun _ _ h hb => Below.next h hb⟩ : Cls (fun x => x.cell? ⟨gl, 0, none⟩ = some (.pointer (some ⟨g, 0, none⟩)) ∧ x.rangeAt gb 0 (bvs b)) (BL V)) ?_ ?_
   ·
    refine Or.inl ⟨rfl, fun w hSw => ?_⟩
    exact eff_load_mid 36 (.tmp 8) rfl gb 0 rfl (bvs b) _ hSw.2 Try.underlying36 rfl HSZ.out
   try simp only [Act.put, zA, zB, zC]
   refine wpAnyU_ready (rs := [8]) (by kernel_rfl) (by simp) ?_
   refine AllReadyU.cons (o := { dst := some 25, op := Op.call { callee := Callee.value (Operand.func 54), args := #[Operand.tmp 20, Operand.tmp 23, Operand.tmp 24], argTypes := #[26, 3, 36] }, type := 27, pos := "journal.go:101", after := #[{ on := 3, ground := Ground.data }, { on := 6, ground := Ground.data }, { on := 7, ground := Ground.data }], guard := none }) rfl (fun wA8 hA8 K hK => ?_) AllReadyU.nil
   have hw := Write_x wA8 g n F1 Dk (HDV.out.below hA8) (at_ + k) b (by omega) HB64.out (by have := HOP.out; omega)
   rw [Int.natCast_add] at hw
   go_simp
   refine hw.mono ?_
   rintro e0 w3 ⟨he0, hpost⟩
   clear hw
   rw [← HE.out] at he0
   rw [← HDN.out] at hpost
   subst he0
   obtain ⟨F2, hd3, hk3, hf3⟩ := hpost
   have hkW : Kept F w w3 := (HKV.out.next hA8).trans hk3 (fun i hi e => by
    rcases HF1.out i e with e | e
    ·
     exact e
    ·
     omega)
   have hg3 : w3.cell? ⟨gl, 0, none⟩ = some (.pointer (some ⟨g, 0, none⟩)) := HGL.out w3 hkW
   have hr3 : w3.rangeAt gb 0 (bvs b) := ((HCV.out.below hA8).kept hk3 (fun e => HNB.out e)).bytes
   have hf4 : Hid (∀ k, F2 k → F k ∨ w.heap.size ≤ k) := fun k e => by
    rcases hf3 k e with e | e
    ·
     exact HF1.out k e
    ·
     have h1 := HKV.out.size; have h2 := Below.size hA8; right; omega
   have HD3 := Lib.hid hd3
   have HK3 := Lib.hid hkW
   refine hK.out _ _ (BL w3) (⟨fun x h => ⟨BL.cell h hg3, fun j v hv => BL.cell h (hr3 j v hv)⟩, fun _ _ h hb => Below.next h hb⟩ : Cls (fun x => x.cell? ⟨gl, 0, none⟩ = some (.pointer (some ⟨g, 0, none⟩)) ∧ x.rangeAt gb 0 (bvs b)) (BL w3)) (Below.refl _ _) ?_
   clear hkW hd3 hk3 hf3
   clear hK K
   try simp only [Act.put, zA, zB, zC]
   refine wpAnyU_take (i := 9) (oi := { dst := some 9, op := Op.assign (Operand.tmp 25), type := 27, pos := "journal.go:101", after := #[{ on := 8, ground := Ground.data }, { on := 8, ground := Ground.chain }, { on := 0, ground := Ground.phase }, { on := 1, ground := Ground.phase }, { on := 2, ground := Ground.phase }, { on := 3, ground := Ground.phase }, { on := 4, ground := Ground.phase }, { on := 5, ground := Ground.phase }, { on := 6, ground := Ground.phase }, { on := 7, ground := Ground.phase }, { on := 8, ground := Ground.phase }], guard := none }) (v := (.int .i64 E)) rfl (by kernel_rfl) (by kernel_rfl) (by kernel_rfl) (by kernel_rfl) (by kernel_rfl) (fun _ _ _ h => h) (⟨fun x h => ⟨BL.cell h hg3, fun j v hv => BL.cell h (hr3 j v hv)⟩, fun _ _ h hb => Below.next h hb⟩ : Cls (fun x => x.cell? ⟨gl, 0, none⟩ = some (.pointer (some ⟨g, 0, none⟩)) ∧ x.rangeAt gb 0 (bvs b)) (BL w3)) ?_ ?_
   ·
    refine Or.inl ⟨rfl, fun w hSw => ?_⟩
    exact EffR.same (by go_simp)
   try simp only [Act.put, zA, zB, zC]
   refine wpAnyU_done (by kernel_rfl) (fun w1 hb1 => ?_) _
   have HD4 := Lib.hid (HD3.out.below hb1)
   have HK4 := Lib.hid (HK3.out.next hb1)
   clear hb1 HD3 HK3
   by_cases h0 : E = 0
   ·
    have h01 : ((E : Int) != 0) = false := by rw [h0]; rfl
    have H00 := Lib.hid h0
    clear h0
    go_wp2_with fail
    refine ⟨⟨k + 1, Dn, F2, by omega, by push_cast; rfl, HD4.out, HK4.out, hf4.out, ?_, ?_⟩, by simp [intOf]; omega⟩
    ·
     show dWrites D at_ L = _
     rw [HREC.out, List.drop_eq_getElem_cons hkl, ← HBB.out]
     rw [dWrites_ok (by rw [← HE.out]; exact H00.out), ← HDN.out, Nat.add_assoc]
    ·
     show _ ≤ _
     rw [HDN.out]
     have := dWrite_op Dk (at_ + k) b
     have := HOP.out
     omega
   ·
    have h01 : ((E : Int) != 0) = true := by rw [bne_iff_ne]; exact h0
    have H00 := Lib.hid h0
    clear h0
    go_wp2_with fail
    go_ret
    have hfin : dWrites D at_ L = (E, Dn) := by
     rw [HREC.out, List.drop_eq_getElem_cons hkl, ← HBB.out]
     rw [dWrites_stop (by rw [← HE.out]; exact H00.out), HE.out, HDN.out]
    rw [hfin]
    exact ⟨rfl, F2, HD4.out, HK4.out, hf4.out⟩
  ·
   obtain rfl : k = m := by omega
   go_wp2_with fail
   go_ret
   have hfin : dWrites D at_ L = (0, Dk) := by
    rw [HREC.out, List.drop_of_length_le (by have := HN.out; omega)]
    rfl
   rw [hfin]
   exact ⟨rfl, F1, HD.out, HK.out, HF1.out⟩
end Cam
