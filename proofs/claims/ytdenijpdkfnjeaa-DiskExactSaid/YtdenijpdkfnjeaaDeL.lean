import Derived.Test.YtdenijpdkfnjeaaDeC
/- DiskExact: the walk. -/
namespace Cam
open Go Go.RowKit Go.Proofs

theorem actD_inv {n : Nat} {D : DK} {q : Nat} (h1 : D.now = sets D.syn D.op) (h2 : D.torn = true → D.off = true) (h3 : D.op.length ≤ q) (r : Nat) (do_ at_ : Int) (b : UInt8) (pk : List Int) (i : Nat) :
    (actD n D r do_ at_ b pk i).now = sets (actD n D r do_ at_ b pk i).syn (actD n D r do_ at_ b pk i).op ∧ ((actD n D r do_ at_ b pk i).torn = true → (actD n D r do_ at_ b pk i).off = true) ∧ (actD n D r do_ at_ b pk i).op.length ≤ q + 1 := by
  have hlt : ∀ D : DK, (D.torn = true → D.off = true) → ((dLast D).2.torn = true → (dLast D).2.off = true) := fun D h => by
    unfold dLast
    split
    · exact h
    · split
      · exact h
      · exact fun _ => rfl
  unfold actD
  split
  · exact ⟨h1, h2, by omega⟩
  split
  · obtain ⟨s1, s2, s3⟩ := dLast_same D
    unfold dSync
    split
    · exact ⟨h1, h2, by show D.op.length ≤ _; omega⟩
    · split
      · exact ⟨by rw [s1, s2, s3]; exact h1, hlt D h2, by show (dLast D).2.op.length ≤ _; rw [s3]; omega⟩
      · exact ⟨by show (dLast D).2.now = _; rw [s2, h1]; rfl, hlt D h2, by simp⟩
  split
  · unfold dArm
    split
    · exact ⟨h1, h2, by omega⟩
    · exact ⟨h1, h2, by show D.op.length ≤ _; omega⟩
  split
  · exact ⟨rfl, (fun e => by cases e), (by simp [dCrash])⟩
  split
  · unfold dStart
    split
    · exact ⟨rfl, (fun e => by cases e), (by simp [dCrash])⟩
    · rename_i hn
      refine ⟨h1, fun e => ?_, by show D.op.length ≤ _; omega⟩
      exact absurd ⟨h2 e, e⟩ hn
  · unfold dWriteR
    split
    · obtain ⟨s1, s2, s3⟩ := dLast_same (dPut D at_.toNat (fillB b i))
      unfold dWrite
      split
      · exact ⟨h1, h2, by show D.op.length ≤ _; omega⟩
      · refine ⟨?_, hlt (dPut D at_.toNat (fillB b i)) h2, ?_⟩
        · show (dLast (dPut D at_.toNat (fillB b i))).2.now = sets (dLast (dPut D at_.toNat (fillB b i))).2.syn (dLast (dPut D at_.toNat (fillB b i))).2.op
          rw [s1, s2, s3]
          show D.now.set _ _ = sets D.syn (D.op ++ [_])
          rw [sets_snoc, ← h1]
        · show (dLast (dPut D at_.toNat (fillB b i))).2.op.length ≤ _
          rw [s3]
          show (D.op ++ [_]).length ≤ _
          simp
          omega
    · exact ⟨h1, h2, by show D.op.length ≤ _; omega⟩

set_option maxHeartbeats 12800000 in
set_option maxRecDepth 100000 in
theorem DiskExact_walk (w : World) (n : Int) (v1 : Value) (ls : List ActD) (h1 : Acs w v1 ls) :
    Calls Try.prog 8 #[.int .i64 n, v1] w fun e w' => e = .returned (.bool true) ∧ Below w.heap.size w w' := by
  obtain ⟨a1, c1, rfl, hc1, hm1⟩ := h1.shape
  obtain ⟨n1, hn1⟩ : ∃ z, z = ls.length := ⟨_, rfl⟩
  rw [← hn1] at h1 hc1 ⊢
  have H1 := Lib.hid h1
  have HN1 := Lib.hid hn1
  have hhv := heavy_any w _ ls h1
  clear h1 hn1
  go_enter Try.func8, Try.ntmps8
  go_wp2_with fail
  refine hhv.mono ?_
  clear hhv
  rintro e w0 ⟨⟨hv, rfl, hhv⟩, rfl⟩
  have HHV := Lib.hid hhv
  clear hhv
  cases hv with
  | true =>
    go_wp2_with fail
    go_ret
    exact ⟨rfl, Below.refl _ _⟩
  | false =>
    by_cases hno : n < 1 ∨ 65536 < n
    · have hnn := New_no w n hno
      have hwk := wakes_any w
      go_wp2_with fail
      (with_reducible refine hnn.mono ?_)
      clear hnn
      rintro e w1 ⟨rfl, rfl⟩
      rcases hno with hlt | hgt
      · go_wp2_with fail
        (with_reducible refine hwk.mono ?_)
        clear hwk
        rintro e w2 ⟨rfl, hb2⟩
        have HB2 := Lib.hid hb2
        clear hb2
        go_wp2_with fail
        go_ret
        exact ⟨rfl, HB2.out⟩
      · have hlt : decide (n < 1) = false := by simp; omega
        go_wp2_with fail
        (with_reducible refine hwk.mono ?_)
        clear hwk
        rintro e w2 ⟨rfl, hb2⟩
        have HB2 := Lib.hid hb2
        clear hb2
        go_wp2_with fail
        go_ret
        exact ⟨rfl, HB2.out⟩
    · obtain ⟨N, rfl⟩ : ∃ N : Nat, n = (N : Int) := ⟨n.toNat, by omega⟩
      have hN : 1 ≤ N ∧ N ≤ 65536 := by omega
      have hd1 : decide ((N : Int) < 1) = false := by simp; omega
      have hd2 : decide (65536 < (N : Int)) = false := by simp; omega
      have hnw := New_x w N hN.1 hN.2
      clear hno
      go_wp2_with fail
      (with_reducible refine hnw.mono ?_)
      clear hnw
      rintro e w1 ⟨g, Fd0, rfl, hdx, hfd, hb1⟩
      have HB1 := Lib.hid hb1
      have HDX := Lib.hid hdx
      have HFD := Lib.hid hfd
      clear hdx hfd hb1
      by_cases h1000 : (1000 : Int) < N
      · have hwk := wakes_any w1
        go_wp2_with fail
        (with_reducible refine hwk.mono ?_)
        clear hwk
        rintro e w2 ⟨rfl, hb2⟩
        have HB2 := Lib.hid (HB1.out.next hb2)
        clear hb2
        go_wp2_with fail
        go_ret
        exact ⟨rfl, HB2.out⟩
      · have h1000' : decide (1000 < (N : Int)) = false := by simp; omega
        have hpn := pnew_any w1 N hN.1 hN.2
        go_wp2_with fail
        (with_reducible refine hpn.mono ?_)
        clear hpn
        rintro e w2 ⟨gp, gs, rfl, hpm, hg1, hg2, hb2⟩
        have HB2 := Lib.hid (HB1.out.next hb2)
        have HE0 : Hid (E3 w.heap.size w2 g gp N (DK.new N) (DK.new N)) := by
          refine ⟨Fd0, gs, _, HDX.out.below hb2, hpm, fun k e1 e2 => ?_, fun k e => ?_⟩
          · have h8 := HDX.out.lt k e1
            rcases e2 with e | e | e
            · omega
            · omega
            · cases e
          · have h8 := HB1.out.size
            rcases e with e | e | e | e
            · exact HFD.out k e
            · omega
            · omega
            · cases e
        clear hpm hg1 hg2 hb2
        go_wp2_with fail
        go_loopw [8] (fun i wr => ∃ (k : Nat) (D : DK), k ≤ n1 ∧ i = .int .i64 k ∧ E3 w.heap.size wr g gp N D D ∧ Hid (D.now = sets D.syn D.op ∧ (D.torn = true → D.off = true) ∧ D.op.length ≤ k) ∧ Below w.heap.size w wr) (fun i _ => n1 - (intOf i).toNat)
        case atStart => exact ⟨0, DK.new N, Nat.zero_le _, rfl, HE0.out, ⟨rfl, (fun e => by cases e), (by simp [DK.new])⟩, HB2.out⟩
        case round =>
          obtain ⟨k, D, hk, rfl, he, HX, hb⟩ := hrel
          have HE := Lib.hid he
          have HBW := Lib.hid hb
          clear he hb
          by_cases hlt : k < n1 ∧ k < 300
          · have hkl : k < ls.length := by have := HN1.out; omega
            obtain ⟨bb, oo, rfl, hbb, hx⟩ := Acs.at H1.out (by omega)
            obtain ⟨vp, hcs, his, hat⟩ := hx k hkl
            obtain ⟨xa, hxa⟩ : ∃ z, z = ls[k] := ⟨_, rfl⟩
            rw [← hxa] at hcs his hat
            obtain ⟨do_, at_, b, pk⟩ := xa
            simp only at hcs his hat
            obtain ⟨ap, cp, rfl, _, _⟩ := his.shape
            obtain ⟨m, hm⟩ : ∃ z, z = pk.length := ⟨_, rfl⟩
            rw [← hm] at his hcs
            have HK3 : Hid (k < 300) := hlt.2
            have HPK : Hid (∀ w', Below w.heap.size w w' → Is w' (.slice ap m cp) pk) := fun w' hb => Is.mono his hb
            have HAT := Lib.hid hat
            have HOPL : Hid (D.op.length < 1000000) := by show _ < _; have := HX.out.2.2; omega
            have HRAW : Hid (w.rangeAt bb (oo + k * 4) [Value.int .i64 do_, .int .i64 at_, .int .u8 (b.toNat : Int), .slice ap m cp]) := hcs
            obtain ⟨W, hW⟩ : ∃ z, z = wr := ⟨_, rfl⟩
            rw [← hW] at HE HBW
            have HRAN : Hid (W.rangeAt bb (oo + k * 4) [Value.int .i64 do_, .int .i64 at_, .int .u8 (b.toNat : Int), .slice ap m cp]) := fun j v hv => (Below.cell HBW.out (World.block_lt_of_cell? w _ (HRAW.out j v hv))).trans (HRAW.out j v hv)
            have HSZA : Hid ((Try.prog.info? 52).map (·.size) = some [Value.int .i64 do_, .int .i64 at_, .int .u8 (b.toNat : Int), .slice ap m cp].length) := by show _ = _; kernel_rfl
            have hk0 : (0 : Int) ≤ k ∧ (k : Int) < n1 ∧ (k : Int) < 300 := by omega
            have hkn : k < n1 ∧ k < 300 := hlt
            clear hx hcs his hat hxa hm hlt hbb
            go_wp2_with fail
            rw [← hW]
            clear hW
            refine wp_region_uni (S0 := (fun x => x.rangeAt bb (oo + k * 4) [Value.int .i64 do_, .int .i64 at_, .int .u8 (b.toNat : Int), .slice ap m cp])) (S := BL W) 34 (by kernel_rfl) (Below.refl _ _).drew ?_
            refine wpAnyU_take (i := 0) (oi := { dst := some 67, op := Op.move (Operand.tmp 5), type := 24, pos := "law.go:100", after := #[], guard := none }) (v := (.pointer (some ⟨g, 0, none⟩))) rfl (by kernel_rfl) (by kernel_rfl) (by kernel_rfl) (by kernel_rfl) (by kernel_rfl) (fun _ _ _ h => h) (⟨fun x h => fun j v hv => BL.cell h (HRAN.out j v hv), fun _ _ h hb => Below.next h hb⟩ : Cls (fun x => x.rangeAt bb (oo + k * 4) [Value.int .i64 do_, .int .i64 at_, .int .u8 (b.toNat : Int), .slice ap m cp]) (BL W)) ?_ ?_
            · refine Or.inl ⟨rfl, fun w hSw => ?_⟩
              exact EffR.same (by go_simp)
            try simp only [Act.put, List.setIfInBounds_toArray, List.set_cons_zero, List.set_cons_succ]
            refine wpAnyU_take (i := 1) (oi := { dst := some 68, op := Op.move (Operand.tmp 7), type := 48, pos := "law.go:100", after := #[], guard := none }) (v := (.pointer (some ⟨gp, 0, none⟩))) rfl (by kernel_rfl) (by kernel_rfl) (by kernel_rfl) (by kernel_rfl) (by kernel_rfl) (fun _ _ _ h => h) (⟨fun x h => fun j v hv => BL.cell h (HRAN.out j v hv), fun _ _ h hb => Below.next h hb⟩ : Cls (fun x => x.rangeAt bb (oo + k * 4) [Value.int .i64 do_, .int .i64 at_, .int .u8 (b.toNat : Int), .slice ap m cp]) (BL W)) ?_ ?_
            · refine Or.inl ⟨rfl, fun w hSw => ?_⟩
              exact EffR.same (by go_simp)
            try simp only [Act.put, List.setIfInBounds_toArray, List.set_cons_zero, List.set_cons_succ]
            refine wpAnyU_take (i := 2) (oi := { dst := some 69, op := Op.move (Operand.tmp 1), type := 46, pos := "law.go:100", after := #[], guard := none }) (v := (.slice (some ⟨bb, oo, none⟩) n1 c1)) rfl (by kernel_rfl) (by kernel_rfl) (by kernel_rfl) (by kernel_rfl) (by kernel_rfl) (fun _ _ _ h => h) (⟨fun x h => fun j v hv => BL.cell h (HRAN.out j v hv), fun _ _ h hb => Below.next h hb⟩ : Cls (fun x => x.rangeAt bb (oo + k * 4) [Value.int .i64 do_, .int .i64 at_, .int .u8 (b.toNat : Int), .slice ap m cp]) (BL W)) ?_ ?_
            · refine Or.inl ⟨rfl, fun w hSw => ?_⟩
              exact EffR.same (by go_simp)
            try simp only [Act.put, List.setIfInBounds_toArray, List.set_cons_zero, List.set_cons_succ]
            refine wpAnyU_take (i := 3) (oi := { dst := some 70, op := Op.move (Operand.tmp 8), type := 3, pos := "law.go:100", after := #[], guard := none }) (v := (.int .i64 (k : Int))) rfl (by kernel_rfl) (by kernel_rfl) (by kernel_rfl) (by kernel_rfl) (by kernel_rfl) (fun _ _ _ h => h) (⟨fun x h => fun j v hv => BL.cell h (HRAN.out j v hv), fun _ _ h hb => Below.next h hb⟩ : Cls (fun x => x.rangeAt bb (oo + k * 4) [Value.int .i64 do_, .int .i64 at_, .int .u8 (b.toNat : Int), .slice ap m cp]) (BL W)) ?_ ?_
            · refine Or.inl ⟨rfl, fun w hSw => ?_⟩
              exact EffR.same (by go_simp)
            try simp only [Act.put, List.setIfInBounds_toArray, List.set_cons_zero, List.set_cons_succ]
            refine wpAnyU_take (i := 4) (oi := { dst := some 71, op := Op.indexAddr 46 (Operand.tmp 69) (Operand.tmp 70), type := 0, pos := "law.go:100", after := #[{ on := 2, ground := Ground.data }, { on := 3, ground := Ground.data }], guard := none }) (v := (.pointer (some ⟨bb, oo + k * 4, none⟩))) rfl (by kernel_rfl) (by kernel_rfl) (by kernel_rfl) (by kernel_rfl) (by kernel_rfl) (fun _ _ _ h => h) (⟨fun x h => fun j v hv => BL.cell h (HRAN.out j v hv), fun _ _ h hb => Below.next h hb⟩ : Cls (fun x => x.rangeAt bb (oo + k * 4) [Value.int .i64 do_, .int .i64 at_, .int .u8 (b.toNat : Int), .slice ap m cp]) (BL W)) ?_ ?_
            · refine Or.inl ⟨rfl, fun w hSw => ?_⟩
              have hq : ¬ n1 ≤ k := (by omega)
              exact EffR.same (by go_simp)
            try simp only [Act.put, List.setIfInBounds_toArray, List.set_cons_zero, List.set_cons_succ]
            refine wpAnyU_take (i := 5) (oi := { dst := some 72, op := Op.load 52 (Operand.tmp 71), type := 52, pos := "law.go:100", after := #[{ on := 4, ground := Ground.data }], guard := none }) (v := (.agg #[.int .i64 do_, .int .i64 at_, .int .u8 (b.toNat : Int), .slice ap m cp])) rfl (by kernel_rfl) (by kernel_rfl) (by kernel_rfl) (by kernel_rfl) (by kernel_rfl) (fun _ _ _ h => h) (⟨fun x h => fun j v hv => BL.cell h (HRAN.out j v hv), fun _ _ h hb => Below.next h hb⟩ : Cls (fun x => x.rangeAt bb (oo + k * 4) [Value.int .i64 do_, .int .i64 at_, .int .u8 (b.toNat : Int), .slice ap m cp]) (BL W)) ?_ ?_
            · refine Or.inl ⟨rfl, fun w hSw => ?_⟩
              exact eff_load_midP 52 (.tmp 71) rfl bb (oo + k * 4) rfl [Value.int .i64 do_, .int .i64 at_, .int .u8 (b.toNat : Int), .slice ap m cp] _ hSw Try.underlying52 rfl HSZA.out
            try simp only [Act.put, List.setIfInBounds_toArray, List.set_cons_zero, List.set_cons_succ]
            refine wpAnyU_take (i := 6) (oi := { dst := some 73, op := Op.move (Operand.tmp 8), type := 3, pos := "law.go:100", after := #[], guard := none }) (v := (.int .i64 (k : Int))) rfl (by kernel_rfl) (by kernel_rfl) (by kernel_rfl) (by kernel_rfl) (by kernel_rfl) (fun _ _ _ h => h) (⟨fun x h => fun j v hv => BL.cell h (HRAN.out j v hv), fun _ _ h hb => Below.next h hb⟩ : Cls (fun x => x.rangeAt bb (oo + k * 4) [Value.int .i64 do_, .int .i64 at_, .int .u8 (b.toNat : Int), .slice ap m cp]) (BL W)) ?_ ?_
            · refine Or.inl ⟨rfl, fun w hSw => ?_⟩
              exact EffR.same (by go_simp)
            try simp only [Act.put, List.setIfInBounds_toArray, List.set_cons_zero, List.set_cons_succ]
            refine wpAnyU_ready (rs := [7]) (by kernel_rfl) (by simp) ?_
            refine AllReadyU.cons (o := { dst := some 74, op := Op.call { callee := Callee.value (Operand.func 23), args := #[Operand.tmp 67, Operand.tmp 68, Operand.tmp 72, Operand.tmp 73], argTypes := #[24, 48, 52, 3] }, type := 4, pos := "law.go:100", after := #[{ on := 0, ground := Ground.data }, { on := 1, ground := Ground.data }, { on := 5, ground := Ground.data }, { on := 6, ground := Ground.data }], guard := none }) rfl (fun wA7 hA7 K hK => ?_) AllReadyU.nil
            go_simp
            have hs := do_any wA7 g gp N D (HE.out.below hA7) (Nat.le_trans HBW.out.size (Below.size hA7)) do_ at_ b (.slice ap m cp) pk k HK3.out (fun w' hb => HPK.out w' ((HBW.out.next hA7).trans hb)) HAT.out HX.out.1 HX.out.2.1 HOPL.out
            refine hs.mono ?_
            rintro e0 w3 ⟨rfl, r, he3, hb3⟩
            clear hs
            obtain ⟨D2, hD2⟩ : ∃ z, z = actD N D r do_ at_ b pk k := ⟨_, rfl⟩
            rw [← hD2] at he3
            have HIN : Hid (D2.now = sets D2.syn D2.op ∧ (D2.torn = true → D2.off = true) ∧ D2.op.length ≤ k + 1) := by rw [hD2]; exact actD_inv HX.out.1 HX.out.2.1 HX.out.2.2 _ _ _ _ _ _
            have HB3 : Hid (Below w.heap.size w w3) := (HBW.out.next hA7).trans hb3
            obtain ⟨Fd, gs, vo, hdx, hpm, hds, hge⟩ := he3
            obtain ⟨aO, qO, cO, rfl, _⟩ := hpm.ho.named
            obtain ⟨hqO, _⟩ := hpm.opAt
            obtain ⟨O, hO⟩ : ∃ z, z = D2.off := ⟨_, rfl⟩
            have HDX := Lib.hid hdx
            have HPM := Lib.hid hpm
            have HDS := Lib.hid hds
            have HGE := Lib.hid hge
            have HQO := Lib.hid hqO
            have HOO := Lib.hid hO
            have HR3 : Hid (w3.rangeAt bb (oo + k * 4) [Value.int .i64 do_, .int .i64 at_, .int .u8 (b.toNat : Int), .slice ap m cp]) := fun j v hv => (Below.cell HB3.out (World.block_lt_of_cell? w _ (HRAW.out j v hv))).trans (HRAW.out j v hv)
            refine hK.out _ _ (BL w3) (⟨fun x h => fun j v hv => BL.cell h (HR3.out j v hv), fun _ _ h hb => Below.next h hb⟩ : Cls (fun x => x.rangeAt bb (oo + k * 4) [Value.int .i64 do_, .int .i64 at_, .int .u8 (b.toNat : Int), .slice ap m cp]) (BL w3)) (Below.refl _ _) ?_
            clear hdx hpm hds hge hqO hO hb3 hD2
            clear hK K
            try simp only [Act.put, List.setIfInBounds_toArray, List.set_cons_zero, List.set_cons_succ]
            refine wpAnyU_take (i := 8) (oi := { dst := some 75, op := Op.unOp UnOp.not 4 (Operand.tmp 74), type := 4, pos := "law.go:100", after := #[{ on := 7, ground := Ground.data }], guard := none }) (v := (.bool false)) rfl (by kernel_rfl) (by kernel_rfl) (by kernel_rfl) (by kernel_rfl) (by kernel_rfl) (fun _ _ _ h => h) (⟨fun x h => fun j v hv => BL.cell h (HR3.out j v hv), fun _ _ h hb => Below.next h hb⟩ : Cls (fun x => x.rangeAt bb (oo + k * 4) [Value.int .i64 do_, .int .i64 at_, .int .u8 (b.toNat : Int), .slice ap m cp]) (BL w3)) ?_ ?_
            · refine Or.inl ⟨rfl, fun w hSw => ?_⟩
              exact EffR.same (by go_simp)
            try simp only [Act.put, List.setIfInBounds_toArray, List.set_cons_zero, List.set_cons_succ]
            refine wpAnyU_take (i := 9) (oi := { dst := some 76, op := Op.move (Operand.tmp 75), type := 4, pos := "law.go:100", after := #[{ on := 8, ground := Ground.data }, { on := 7, ground := Ground.chain }], guard := none }) (v := (.bool false)) rfl (by kernel_rfl) (by kernel_rfl) (by kernel_rfl) (by kernel_rfl) (by kernel_rfl) (fun _ _ _ h => h) (⟨fun x h => fun j v hv => BL.cell h (HR3.out j v hv), fun _ _ h hb => Below.next h hb⟩ : Cls (fun x => x.rangeAt bb (oo + k * 4) [Value.int .i64 do_, .int .i64 at_, .int .u8 (b.toNat : Int), .slice ap m cp]) (BL w3)) ?_ ?_
            · refine Or.inl ⟨rfl, fun w hSw => ?_⟩
              exact EffR.same (by go_simp)
            try simp only [Act.put, List.setIfInBounds_toArray, List.set_cons_zero, List.set_cons_succ]
            refine wpAnyU_take (i := 10) (oi := { dst := some 77, op := Op.move (Operand.tmp 5), type := 24, pos := "law.go:100", after := #[{ on := 9, ground := Ground.guard }], guard := some (9, false) }) (v := (.pointer (some ⟨g, 0, none⟩))) rfl (by kernel_rfl) (by kernel_rfl) (by kernel_rfl) (by kernel_rfl) (by kernel_rfl) (fun _ _ _ h => h) (⟨fun x h => fun j v hv => BL.cell h (HR3.out j v hv), fun _ _ h hb => Below.next h hb⟩ : Cls (fun x => x.rangeAt bb (oo + k * 4) [Value.int .i64 do_, .int .i64 at_, .int .u8 (b.toNat : Int), .slice ap m cp]) (BL w3)) ?_ ?_
            · refine Or.inl ⟨rfl, fun w hSw => ?_⟩
              exact EffR.same (by go_simp)
            try simp only [Act.put, List.setIfInBounds_toArray, List.set_cons_zero, List.set_cons_succ]
            refine wpAnyU_take (i := 12) (oi := { dst := some 79, op := Op.move (Operand.tmp 7), type := 48, pos := "law.go:100", after := #[{ on := 9, ground := Ground.guard }], guard := some (9, false) }) (v := (.pointer (some ⟨gp, 0, none⟩))) rfl (by kernel_rfl) (by kernel_rfl) (by kernel_rfl) (by kernel_rfl) (by kernel_rfl) (fun _ _ _ h => h) (⟨fun x h => fun j v hv => BL.cell h (HR3.out j v hv), fun _ _ h hb => Below.next h hb⟩ : Cls (fun x => x.rangeAt bb (oo + k * 4) [Value.int .i64 do_, .int .i64 at_, .int .u8 (b.toNat : Int), .slice ap m cp]) (BL w3)) ?_ ?_
            · refine Or.inl ⟨rfl, fun w hSw => ?_⟩
              exact EffR.same (by go_simp)
            try simp only [Act.put, List.setIfInBounds_toArray, List.set_cons_zero, List.set_cons_succ]
            refine wpAnyU_take (i := 13) (oi := { dst := some 80, op := Op.nilCheck (Operand.tmp 79), type := 0, pos := "law.go:100", after := #[{ on := 12, ground := Ground.data }, { on := 9, ground := Ground.guard }], guard := some (9, false) }) (v := (.pointer (some ⟨gp, 0, none⟩))) rfl (by kernel_rfl) (by kernel_rfl) (by kernel_rfl) (by kernel_rfl) (by kernel_rfl) (fun _ _ _ h => h) (⟨fun x h => fun j v hv => BL.cell h (HR3.out j v hv), fun _ _ h hb => Below.next h hb⟩ : Cls (fun x => x.rangeAt bb (oo + k * 4) [Value.int .i64 do_, .int .i64 at_, .int .u8 (b.toNat : Int), .slice ap m cp]) (BL w3)) ?_ ?_
            · refine Or.inl ⟨rfl, fun w hSw => ?_⟩
              exact EffR.same (by go_simp)
            try simp only [Act.put, List.setIfInBounds_toArray, List.set_cons_zero, List.set_cons_succ]
            refine wpAnyU_take (i := 14) (oi := { dst := some 81, op := Op.fieldAddr 56 (Operand.tmp 80) 3, type := 0, pos := "law.go:100", after := #[{ on := 13, ground := Ground.data }, { on := 9, ground := Ground.guard }], guard := some (9, false) }) (v := (.pointer (some ⟨gp, 3, none⟩))) rfl (by kernel_rfl) (by kernel_rfl) (by kernel_rfl) (by kernel_rfl) (by kernel_rfl) (fun _ _ _ h => h) (⟨fun x h => fun j v hv => BL.cell h (HR3.out j v hv), fun _ _ h hb => Below.next h hb⟩ : Cls (fun x => x.rangeAt bb (oo + k * 4) [Value.int .i64 do_, .int .i64 at_, .int .u8 (b.toNat : Int), .slice ap m cp]) (BL w3)) ?_ ?_
            · refine Or.inl ⟨rfl, fun w hSw => ?_⟩
              exact EffR.same (by go_simp)
            try simp only [Act.put, List.setIfInBounds_toArray, List.set_cons_zero, List.set_cons_succ]
            refine wpAnyU_ready (rs := [11, 15]) (by kernel_rfl) (by simp) ?_
            refine AllReadyU.cons (o := { dst := some 78, op := Op.call { callee := Callee.value (Operand.func 20), args := #[Operand.tmp 77], argTypes := #[24] }, type := 4, pos := "law.go:100", after := #[{ on := 10, ground := Ground.data }, { on := 9, ground := Ground.chain }, { on := 9, ground := Ground.guard }], guard := some (9, false) }) rfl (fun wA11 hA11 K hK => ?_) (AllReadyU.cons (o := { dst := some 82, op := Op.load 4 (Operand.tmp 81), type := 4, pos := "law.go:100", after := #[{ on := 14, ground := Ground.data }, { on := 9, ground := Ground.guard }], guard := some (9, false) }) rfl (fun wA15 hA15 K hK => ?_) AllReadyU.nil)
            · go_simp
              have HC0 : Hid (Below w3.heap.size w3 w3) := Below.refl _ _
              have hs := Off_x wA11 g N Fd D2 (HDX.out.below (HC0.out.next hA11))
              rw [← HOO.out] at hs
              refine hs.mono ?_
              rintro e0 w5 ⟨rfl, rfl⟩
              clear hs
              have HC1 := Lib.hid (HC0.out.next hA11)
              have HRN1 : Hid (wA11.rangeAt bb (oo + k * 4) [Value.int .i64 do_, .int .i64 at_, .int .u8 (b.toNat : Int), .slice ap m cp]) := fun j v hv => BL.cell HC1.out (HR3.out j v hv)
              refine hK.out _ _ (BL wA11) (⟨fun x h => fun j v hv => BL.cell h (HRN1.out j v hv), fun _ _ h hb => Below.next h hb⟩ : Cls (fun x => x.rangeAt bb (oo + k * 4) [Value.int .i64 do_, .int .i64 at_, .int .u8 (b.toNat : Int), .slice ap m cp]) (BL wA11)) (Below.refl _ _) ?_
              clear hK K
              try simp only [Act.put, List.setIfInBounds_toArray, List.set_cons_zero, List.set_cons_succ]
              refine wpAnyU_ready (rs := [15]) (by kernel_rfl) (by simp) ?_
              refine AllReadyU.cons (o := { dst := some 82, op := Op.load 4 (Operand.tmp 81), type := 4, pos := "law.go:100", after := #[{ on := 14, ground := Ground.data }, { on := 9, ground := Ground.guard }], guard := some (9, false) }) rfl (fun wA15 hA15 K hK => ?_) AllReadyU.nil
              go_simp
              have c3 : wA15.cell? ⟨gp, 3, none⟩ = some (.bool O) := by
                rw [HOO.out]
                exact (HPM.out.below (HC1.out.next hA15)).cells.2.2.2.1
              go_simp
              clear c3
              have HC2 := Lib.hid (HC1.out.next hA15)
              have HRN2 : Hid (wA15.rangeAt bb (oo + k * 4) [Value.int .i64 do_, .int .i64 at_, .int .u8 (b.toNat : Int), .slice ap m cp]) := fun j v hv => BL.cell HC2.out (HR3.out j v hv)
              refine hK.out _ _ (BL wA15) (⟨fun x h => fun j v hv => BL.cell h (HRN2.out j v hv), fun _ _ h hb => Below.next h hb⟩ : Cls (fun x => x.rangeAt bb (oo + k * 4) [Value.int .i64 do_, .int .i64 at_, .int .u8 (b.toNat : Int), .slice ap m cp]) (BL wA15)) (Below.refl _ _) ?_
              clear hK K
              try simp only [Act.put, List.setIfInBounds_toArray, List.set_cons_zero, List.set_cons_succ]
              refine wpAnyU_take (i := 16) (oi := { dst := some 83, op := Op.binOp BinOp.neq 4 (Operand.tmp 78) (Operand.tmp 82) 4, type := 4, pos := "law.go:100", after := #[{ on := 11, ground := Ground.data }, { on := 15, ground := Ground.data }, { on := 9, ground := Ground.guard }], guard := some (9, false) }) (v := (.bool false)) rfl (by kernel_rfl) (by kernel_rfl) (by kernel_rfl) (by kernel_rfl) (by kernel_rfl) (fun _ _ _ h => h) (⟨fun x h => fun j v hv => BL.cell h (HRN2.out j v hv), fun _ _ h hb => Below.next h hb⟩ : Cls (fun x => x.rangeAt bb (oo + k * 4) [Value.int .i64 do_, .int .i64 at_, .int .u8 (b.toNat : Int), .slice ap m cp]) (BL wA15)) ?_ ?_
              · refine Or.inl ⟨rfl, fun w hSw => ?_⟩
                exact EffR.same (by go_simp)
              try simp only [Act.put, List.setIfInBounds_toArray, List.set_cons_zero, List.set_cons_succ]
              refine wpAnyU_take (i := 17) (oi := { dst := some 84, op := Op.pick (Operand.tmp 76) (Operand.const (Value.bool true)) (Operand.tmp 83), type := 4, pos := "law.go:100", after := #[{ on := 9, ground := Ground.data }, { on := 16, ground := Ground.data }], guard := none }) (v := (.bool false)) rfl (by kernel_rfl) (by kernel_rfl) (by kernel_rfl) (by kernel_rfl) (by kernel_rfl) (fun _ _ _ h => h) (⟨fun x h => fun j v hv => BL.cell h (HRN2.out j v hv), fun _ _ h hb => Below.next h hb⟩ : Cls (fun x => x.rangeAt bb (oo + k * 4) [Value.int .i64 do_, .int .i64 at_, .int .u8 (b.toNat : Int), .slice ap m cp]) (BL wA15)) ?_ ?_
              · refine Or.inl ⟨rfl, fun w hSw => ?_⟩
                exact EffR.same (by go_simp)
              try simp only [Act.put, List.setIfInBounds_toArray, List.set_cons_zero, List.set_cons_succ]
              refine wpAnyU_take (i := 18) (oi := { dst := some 85, op := Op.move (Operand.tmp 84), type := 4, pos := "law.go:100", after := #[{ on := 17, ground := Ground.data }, { on := 11, ground := Ground.chain }], guard := none }) (v := (.bool false)) rfl (by kernel_rfl) (by kernel_rfl) (by kernel_rfl) (by kernel_rfl) (by kernel_rfl) (fun _ _ _ h => h) (⟨fun x h => fun j v hv => BL.cell h (HRN2.out j v hv), fun _ _ h hb => Below.next h hb⟩ : Cls (fun x => x.rangeAt bb (oo + k * 4) [Value.int .i64 do_, .int .i64 at_, .int .u8 (b.toNat : Int), .slice ap m cp]) (BL wA15)) ?_ ?_
              · refine Or.inl ⟨rfl, fun w hSw => ?_⟩
                exact EffR.same (by go_simp)
              try simp only [Act.put, List.setIfInBounds_toArray, List.set_cons_zero, List.set_cons_succ]
              refine wpAnyU_take (i := 19) (oi := { dst := some 86, op := Op.move (Operand.tmp 5), type := 24, pos := "law.go:100", after := #[{ on := 18, ground := Ground.guard }], guard := some (18, false) }) (v := (.pointer (some ⟨g, 0, none⟩))) rfl (by kernel_rfl) (by kernel_rfl) (by kernel_rfl) (by kernel_rfl) (by kernel_rfl) (fun _ _ _ h => h) (⟨fun x h => fun j v hv => BL.cell h (HRN2.out j v hv), fun _ _ h hb => Below.next h hb⟩ : Cls (fun x => x.rangeAt bb (oo + k * 4) [Value.int .i64 do_, .int .i64 at_, .int .u8 (b.toNat : Int), .slice ap m cp]) (BL wA15)) ?_ ?_
              · refine Or.inl ⟨rfl, fun w hSw => ?_⟩
                exact EffR.same (by go_simp)
              try simp only [Act.put, List.setIfInBounds_toArray, List.set_cons_zero, List.set_cons_succ]
              refine wpAnyU_take (i := 21) (oi := { dst := some 88, op := Op.move (Operand.tmp 7), type := 48, pos := "law.go:100", after := #[{ on := 18, ground := Ground.guard }], guard := some (18, false) }) (v := (.pointer (some ⟨gp, 0, none⟩))) rfl (by kernel_rfl) (by kernel_rfl) (by kernel_rfl) (by kernel_rfl) (by kernel_rfl) (fun _ _ _ h => h) (⟨fun x h => fun j v hv => BL.cell h (HRN2.out j v hv), fun _ _ h hb => Below.next h hb⟩ : Cls (fun x => x.rangeAt bb (oo + k * 4) [Value.int .i64 do_, .int .i64 at_, .int .u8 (b.toNat : Int), .slice ap m cp]) (BL wA15)) ?_ ?_
              · refine Or.inl ⟨rfl, fun w hSw => ?_⟩
                exact EffR.same (by go_simp)
              try simp only [Act.put, List.setIfInBounds_toArray, List.set_cons_zero, List.set_cons_succ]
              refine wpAnyU_take (i := 22) (oi := { dst := some 89, op := Op.nilCheck (Operand.tmp 88), type := 0, pos := "law.go:100", after := #[{ on := 21, ground := Ground.data }, { on := 18, ground := Ground.guard }], guard := some (18, false) }) (v := (.pointer (some ⟨gp, 0, none⟩))) rfl (by kernel_rfl) (by kernel_rfl) (by kernel_rfl) (by kernel_rfl) (by kernel_rfl) (fun _ _ _ h => h) (⟨fun x h => fun j v hv => BL.cell h (HRN2.out j v hv), fun _ _ h hb => Below.next h hb⟩ : Cls (fun x => x.rangeAt bb (oo + k * 4) [Value.int .i64 do_, .int .i64 at_, .int .u8 (b.toNat : Int), .slice ap m cp]) (BL wA15)) ?_ ?_
              · refine Or.inl ⟨rfl, fun w hSw => ?_⟩
                exact EffR.same (by go_simp)
              try simp only [Act.put, List.setIfInBounds_toArray, List.set_cons_zero, List.set_cons_succ]
              refine wpAnyU_take (i := 23) (oi := { dst := some 90, op := Op.fieldAddr 56 (Operand.tmp 89) 2, type := 0, pos := "law.go:100", after := #[{ on := 22, ground := Ground.data }, { on := 18, ground := Ground.guard }], guard := some (18, false) }) (v := (.pointer (some ⟨gp, 2, none⟩))) rfl (by kernel_rfl) (by kernel_rfl) (by kernel_rfl) (by kernel_rfl) (by kernel_rfl) (fun _ _ _ h => h) (⟨fun x h => fun j v hv => BL.cell h (HRN2.out j v hv), fun _ _ h hb => Below.next h hb⟩ : Cls (fun x => x.rangeAt bb (oo + k * 4) [Value.int .i64 do_, .int .i64 at_, .int .u8 (b.toNat : Int), .slice ap m cp]) (BL wA15)) ?_ ?_
              · refine Or.inl ⟨rfl, fun w hSw => ?_⟩
                exact EffR.same (by go_simp)
              try simp only [Act.put, List.setIfInBounds_toArray, List.set_cons_zero, List.set_cons_succ]
              refine wpAnyU_ready (rs := [20, 24]) (by kernel_rfl) (by simp) ?_
              refine AllReadyU.cons (o := { dst := some 87, op := Op.call { callee := Callee.value (Operand.func 18), args := #[Operand.tmp 86], argTypes := #[24] }, type := 3, pos := "law.go:100", after := #[{ on := 19, ground := Ground.data }, { on := 18, ground := Ground.chain }, { on := 18, ground := Ground.guard }], guard := some (18, false) }) rfl (fun wA20 hA20 K hK => ?_) (AllReadyU.cons (o := { dst := some 91, op := Op.load 54 (Operand.tmp 90), type := 54, pos := "law.go:100", after := #[{ on := 23, ground := Ground.data }, { on := 18, ground := Ground.guard }], guard := some (18, false) }) rfl (fun wA24 hA24 K hK => ?_) AllReadyU.nil)
              · go_simp
                have hs := Open_x wA20 g N Fd D2 (HDX.out.below (HC2.out.next hA20))
                rw [← HQO.out] at hs
                refine hs.mono ?_
                rintro e0 w5 ⟨rfl, rfl⟩
                clear hs
                have HC3 := Lib.hid (HC2.out.next hA20)
                have HRN3 : Hid (wA20.rangeAt bb (oo + k * 4) [Value.int .i64 do_, .int .i64 at_, .int .u8 (b.toNat : Int), .slice ap m cp]) := fun j v hv => BL.cell HC3.out (HR3.out j v hv)
                refine hK.out _ _ (BL wA20) (⟨fun x h => fun j v hv => BL.cell h (HRN3.out j v hv), fun _ _ h hb => Below.next h hb⟩ : Cls (fun x => x.rangeAt bb (oo + k * 4) [Value.int .i64 do_, .int .i64 at_, .int .u8 (b.toNat : Int), .slice ap m cp]) (BL wA20)) (Below.refl _ _) ?_
                clear hK K
                try simp only [Act.put, List.setIfInBounds_toArray, List.set_cons_zero, List.set_cons_succ]
                refine wpAnyU_ready (rs := [24]) (by kernel_rfl) (by simp) ?_
                refine AllReadyU.cons (o := { dst := some 91, op := Op.load 54 (Operand.tmp 90), type := 54, pos := "law.go:100", after := #[{ on := 23, ground := Ground.data }, { on := 18, ground := Ground.guard }], guard := some (18, false) }) rfl (fun wA24 hA24 K hK => ?_) AllReadyU.nil
                go_simp
                have c2 : wA24.cell? ⟨gp, 2, none⟩ = some (.slice aO qO cO) := (HPM.out.below (HC3.out.next hA24)).cells.2.2.1
                go_simp
                clear c2
                have HC4 := Lib.hid (HC3.out.next hA24)
                have HRN4 : Hid (wA24.rangeAt bb (oo + k * 4) [Value.int .i64 do_, .int .i64 at_, .int .u8 (b.toNat : Int), .slice ap m cp]) := fun j v hv => BL.cell HC4.out (HR3.out j v hv)
                refine hK.out _ _ (BL wA24) (⟨fun x h => fun j v hv => BL.cell h (HRN4.out j v hv), fun _ _ h hb => Below.next h hb⟩ : Cls (fun x => x.rangeAt bb (oo + k * 4) [Value.int .i64 do_, .int .i64 at_, .int .u8 (b.toNat : Int), .slice ap m cp]) (BL wA24)) (Below.refl _ _) ?_
                clear hK K
                try simp only [Act.put, List.setIfInBounds_toArray, List.set_cons_zero, List.set_cons_succ]
                refine wpAnyU_take (i := 25) (oi := { dst := some 92, op := Op.call { callee := Callee.builtin Builtin.len, args := #[Operand.tmp 91], argTypes := #[54] }, type := 3, pos := "law.go:100", after := #[{ on := 24, ground := Ground.data }, { on := 18, ground := Ground.guard }], guard := some (18, false) }) (v := (.int .i64 (qO : Int))) rfl (by kernel_rfl) (by kernel_rfl) (by kernel_rfl) (by kernel_rfl) (by kernel_rfl) (fun _ _ _ h => h) (⟨fun x h => fun j v hv => BL.cell h (HRN4.out j v hv), fun _ _ h hb => Below.next h hb⟩ : Cls (fun x => x.rangeAt bb (oo + k * 4) [Value.int .i64 do_, .int .i64 at_, .int .u8 (b.toNat : Int), .slice ap m cp]) (BL wA24)) ?_ ?_
                · refine Or.inl ⟨rfl, fun w hSw => ?_⟩
                  exact EffR.same (by go_simp)
                try simp only [Act.put, List.setIfInBounds_toArray, List.set_cons_zero, List.set_cons_succ]
                refine wpAnyU_take (i := 26) (oi := { dst := some 93, op := Op.binOp BinOp.neq 3 (Operand.tmp 87) (Operand.tmp 92) 3, type := 4, pos := "law.go:100", after := #[{ on := 20, ground := Ground.data }, { on := 25, ground := Ground.data }, { on := 18, ground := Ground.guard }], guard := some (18, false) }) (v := (.bool false)) rfl (by kernel_rfl) (by kernel_rfl) (by kernel_rfl) (by kernel_rfl) (by kernel_rfl) (fun _ _ _ h => h) (⟨fun x h => fun j v hv => BL.cell h (HRN4.out j v hv), fun _ _ h hb => Below.next h hb⟩ : Cls (fun x => x.rangeAt bb (oo + k * 4) [Value.int .i64 do_, .int .i64 at_, .int .u8 (b.toNat : Int), .slice ap m cp]) (BL wA24)) ?_ ?_
                · refine Or.inl ⟨rfl, fun w hSw => ?_⟩
                  exact EffR.same (by go_simp)
                try simp only [Act.put, List.setIfInBounds_toArray, List.set_cons_zero, List.set_cons_succ]
                refine wpAnyU_take (i := 27) (oi := { dst := some 94, op := Op.pick (Operand.tmp 85) (Operand.const (Value.bool true)) (Operand.tmp 93), type := 4, pos := "law.go:100", after := #[{ on := 18, ground := Ground.data }, { on := 26, ground := Ground.data }], guard := none }) (v := (.bool false)) rfl (by kernel_rfl) (by kernel_rfl) (by kernel_rfl) (by kernel_rfl) (by kernel_rfl) (fun _ _ _ h => h) (⟨fun x h => fun j v hv => BL.cell h (HRN4.out j v hv), fun _ _ h hb => Below.next h hb⟩ : Cls (fun x => x.rangeAt bb (oo + k * 4) [Value.int .i64 do_, .int .i64 at_, .int .u8 (b.toNat : Int), .slice ap m cp]) (BL wA24)) ?_ ?_
                · refine Or.inl ⟨rfl, fun w hSw => ?_⟩
                  exact EffR.same (by go_simp)
                try simp only [Act.put, List.setIfInBounds_toArray, List.set_cons_zero, List.set_cons_succ]
                refine wpAnyU_take (i := 28) (oi := { dst := some 95, op := Op.move (Operand.tmp 94), type := 4, pos := "law.go:100", after := #[{ on := 27, ground := Ground.data }, { on := 20, ground := Ground.chain }], guard := none }) (v := (.bool false)) rfl (by kernel_rfl) (by kernel_rfl) (by kernel_rfl) (by kernel_rfl) (by kernel_rfl) (fun _ _ _ h => h) (⟨fun x h => fun j v hv => BL.cell h (HRN4.out j v hv), fun _ _ h hb => Below.next h hb⟩ : Cls (fun x => x.rangeAt bb (oo + k * 4) [Value.int .i64 do_, .int .i64 at_, .int .u8 (b.toNat : Int), .slice ap m cp]) (BL wA24)) ?_ ?_
                · refine Or.inl ⟨rfl, fun w hSw => ?_⟩
                  exact EffR.same (by go_simp)
                try simp only [Act.put, List.setIfInBounds_toArray, List.set_cons_zero, List.set_cons_succ]
                refine wpAnyU_take (i := 29) (oi := { dst := some 96, op := Op.move (Operand.tmp 5), type := 24, pos := "law.go:100", after := #[{ on := 28, ground := Ground.guard }], guard := some (28, false) }) (v := (.pointer (some ⟨g, 0, none⟩))) rfl (by kernel_rfl) (by kernel_rfl) (by kernel_rfl) (by kernel_rfl) (by kernel_rfl) (fun _ _ _ h => h) (⟨fun x h => fun j v hv => BL.cell h (HRN4.out j v hv), fun _ _ h hb => Below.next h hb⟩ : Cls (fun x => x.rangeAt bb (oo + k * 4) [Value.int .i64 do_, .int .i64 at_, .int .u8 (b.toNat : Int), .slice ap m cp]) (BL wA24)) ?_ ?_
                · refine Or.inl ⟨rfl, fun w hSw => ?_⟩
                  exact EffR.same (by go_simp)
                try simp only [Act.put, List.setIfInBounds_toArray, List.set_cons_zero, List.set_cons_succ]
                refine wpAnyU_take (i := 31) (oi := { dst := some 98, op := Op.move (Operand.tmp 0), type := 3, pos := "law.go:100", after := #[{ on := 28, ground := Ground.guard }], guard := some (28, false) }) (v := (.int .i64 (N : Int))) rfl (by kernel_rfl) (by kernel_rfl) (by kernel_rfl) (by kernel_rfl) (by kernel_rfl) (fun _ _ _ h => h) (⟨fun x h => fun j v hv => BL.cell h (HRN4.out j v hv), fun _ _ h hb => Below.next h hb⟩ : Cls (fun x => x.rangeAt bb (oo + k * 4) [Value.int .i64 do_, .int .i64 at_, .int .u8 (b.toNat : Int), .slice ap m cp]) (BL wA24)) ?_ ?_
                · refine Or.inl ⟨rfl, fun w hSw => ?_⟩
                  exact EffR.same (by go_simp)
                try simp only [Act.put, List.setIfInBounds_toArray, List.set_cons_zero, List.set_cons_succ]
                refine wpAnyU_ready (rs := [30]) (by kernel_rfl) (by simp) ?_
                refine AllReadyU.cons (o := { dst := some 97, op := Op.call { callee := Callee.value (Operand.func 24), args := #[Operand.tmp 96], argTypes := #[24] }, type := 3, pos := "law.go:100", after := #[{ on := 29, ground := Ground.data }, { on := 28, ground := Ground.chain }, { on := 28, ground := Ground.guard }], guard := some (28, false) }) rfl (fun wA30 hA30 K hK => ?_) AllReadyU.nil
                go_simp
                have hs := Blocks_x wA30 g N Fd D2 (HDX.out.below (HC4.out.next hA30))
                refine hs.mono ?_
                rintro e0 w5 ⟨rfl, rfl⟩
                clear hs
                have HC5 := Lib.hid (HC4.out.next hA30)
                have HRN5 : Hid (wA30.rangeAt bb (oo + k * 4) [Value.int .i64 do_, .int .i64 at_, .int .u8 (b.toNat : Int), .slice ap m cp]) := fun j v hv => BL.cell HC5.out (HR3.out j v hv)
                refine hK.out _ _ (BL wA30) (⟨fun x h => fun j v hv => BL.cell h (HRN5.out j v hv), fun _ _ h hb => Below.next h hb⟩ : Cls (fun x => x.rangeAt bb (oo + k * 4) [Value.int .i64 do_, .int .i64 at_, .int .u8 (b.toNat : Int), .slice ap m cp]) (BL wA30)) (Below.refl _ _) ?_
                clear hK K
                try simp only [Act.put, List.setIfInBounds_toArray, List.set_cons_zero, List.set_cons_succ]
                refine wpAnyU_take (i := 32) (oi := { dst := some 99, op := Op.binOp BinOp.neq 3 (Operand.tmp 97) (Operand.tmp 98) 3, type := 4, pos := "law.go:100", after := #[{ on := 30, ground := Ground.data }, { on := 31, ground := Ground.data }, { on := 28, ground := Ground.guard }], guard := some (28, false) }) (v := (.bool false)) rfl (by kernel_rfl) (by kernel_rfl) (by kernel_rfl) (by kernel_rfl) (by kernel_rfl) (fun _ _ _ h => h) (⟨fun x h => fun j v hv => BL.cell h (HRN5.out j v hv), fun _ _ h hb => Below.next h hb⟩ : Cls (fun x => x.rangeAt bb (oo + k * 4) [Value.int .i64 do_, .int .i64 at_, .int .u8 (b.toNat : Int), .slice ap m cp]) (BL wA30)) ?_ ?_
                · refine Or.inl ⟨rfl, fun w hSw => ?_⟩
                  exact EffR.same (by go_simp)
                try simp only [Act.put, List.setIfInBounds_toArray, List.set_cons_zero, List.set_cons_succ]
                refine wpAnyU_take (i := 33) (oi := { dst := some 100, op := Op.pick (Operand.tmp 95) (Operand.const (Value.bool true)) (Operand.tmp 99), type := 4, pos := "law.go:100", after := #[{ on := 28, ground := Ground.data }, { on := 32, ground := Ground.data }], guard := none }) (v := (.bool false)) rfl (by kernel_rfl) (by kernel_rfl) (by kernel_rfl) (by kernel_rfl) (by kernel_rfl) (fun _ _ _ h => h) (⟨fun x h => fun j v hv => BL.cell h (HRN5.out j v hv), fun _ _ h hb => Below.next h hb⟩ : Cls (fun x => x.rangeAt bb (oo + k * 4) [Value.int .i64 do_, .int .i64 at_, .int .u8 (b.toNat : Int), .slice ap m cp]) (BL wA30)) ?_ ?_
                · refine Or.inl ⟨rfl, fun w hSw => ?_⟩
                  exact EffR.same (by go_simp)
                try simp only [Act.put, List.setIfInBounds_toArray, List.set_cons_zero, List.set_cons_succ]
                refine wpAnyU_done (by kernel_rfl) (fun w1 hb1 => ?_) _
                have HCE := Lib.hid (HC5.out.next hb1)
                clear hb1
                go_wp2_with fail
                exact ⟨⟨k + 1, D2, by omega, by push_cast; rfl, ⟨Fd, gs, _, HDX.out.below HCE.out, HPM.out.below HCE.out, HDS.out, HGE.out⟩, HIN, HB3.out.next HCE.out⟩, by simp [intOf]; omega⟩
              · go_simp
                have c2 : wA24.cell? ⟨gp, 2, none⟩ = some (.slice aO qO cO) := (HPM.out.below (HC2.out.next hA24)).cells.2.2.1
                go_simp
                clear c2
                have HC3 := Lib.hid (HC2.out.next hA24)
                have HRN3 : Hid (wA24.rangeAt bb (oo + k * 4) [Value.int .i64 do_, .int .i64 at_, .int .u8 (b.toNat : Int), .slice ap m cp]) := fun j v hv => BL.cell HC3.out (HR3.out j v hv)
                refine hK.out _ _ (BL wA24) (⟨fun x h => fun j v hv => BL.cell h (HRN3.out j v hv), fun _ _ h hb => Below.next h hb⟩ : Cls (fun x => x.rangeAt bb (oo + k * 4) [Value.int .i64 do_, .int .i64 at_, .int .u8 (b.toNat : Int), .slice ap m cp]) (BL wA24)) (Below.refl _ _) ?_
                clear hK K
                try simp only [Act.put, List.setIfInBounds_toArray, List.set_cons_zero, List.set_cons_succ]
                refine wpAnyU_take (i := 25) (oi := { dst := some 92, op := Op.call { callee := Callee.builtin Builtin.len, args := #[Operand.tmp 91], argTypes := #[54] }, type := 3, pos := "law.go:100", after := #[{ on := 24, ground := Ground.data }, { on := 18, ground := Ground.guard }], guard := some (18, false) }) (v := (.int .i64 (qO : Int))) rfl (by kernel_rfl) (by kernel_rfl) (by kernel_rfl) (by kernel_rfl) (by kernel_rfl) (fun _ _ _ h => h) (⟨fun x h => fun j v hv => BL.cell h (HRN3.out j v hv), fun _ _ h hb => Below.next h hb⟩ : Cls (fun x => x.rangeAt bb (oo + k * 4) [Value.int .i64 do_, .int .i64 at_, .int .u8 (b.toNat : Int), .slice ap m cp]) (BL wA24)) ?_ ?_
                · refine Or.inl ⟨rfl, fun w hSw => ?_⟩
                  exact EffR.same (by go_simp)
                try simp only [Act.put, List.setIfInBounds_toArray, List.set_cons_zero, List.set_cons_succ]
                refine wpAnyU_ready (rs := [20]) (by kernel_rfl) (by simp) ?_
                refine AllReadyU.cons (o := { dst := some 87, op := Op.call { callee := Callee.value (Operand.func 18), args := #[Operand.tmp 86], argTypes := #[24] }, type := 3, pos := "law.go:100", after := #[{ on := 19, ground := Ground.data }, { on := 18, ground := Ground.chain }, { on := 18, ground := Ground.guard }], guard := some (18, false) }) rfl (fun wA20 hA20 K hK => ?_) AllReadyU.nil
                go_simp
                have hs := Open_x wA20 g N Fd D2 (HDX.out.below (HC3.out.next hA20))
                rw [← HQO.out] at hs
                refine hs.mono ?_
                rintro e0 w5 ⟨rfl, rfl⟩
                clear hs
                have HC4 := Lib.hid (HC3.out.next hA20)
                have HRN4 : Hid (wA20.rangeAt bb (oo + k * 4) [Value.int .i64 do_, .int .i64 at_, .int .u8 (b.toNat : Int), .slice ap m cp]) := fun j v hv => BL.cell HC4.out (HR3.out j v hv)
                refine hK.out _ _ (BL wA20) (⟨fun x h => fun j v hv => BL.cell h (HRN4.out j v hv), fun _ _ h hb => Below.next h hb⟩ : Cls (fun x => x.rangeAt bb (oo + k * 4) [Value.int .i64 do_, .int .i64 at_, .int .u8 (b.toNat : Int), .slice ap m cp]) (BL wA20)) (Below.refl _ _) ?_
                clear hK K
                try simp only [Act.put, List.setIfInBounds_toArray, List.set_cons_zero, List.set_cons_succ]
                refine wpAnyU_take (i := 26) (oi := { dst := some 93, op := Op.binOp BinOp.neq 3 (Operand.tmp 87) (Operand.tmp 92) 3, type := 4, pos := "law.go:100", after := #[{ on := 20, ground := Ground.data }, { on := 25, ground := Ground.data }, { on := 18, ground := Ground.guard }], guard := some (18, false) }) (v := (.bool false)) rfl (by kernel_rfl) (by kernel_rfl) (by kernel_rfl) (by kernel_rfl) (by kernel_rfl) (fun _ _ _ h => h) (⟨fun x h => fun j v hv => BL.cell h (HRN4.out j v hv), fun _ _ h hb => Below.next h hb⟩ : Cls (fun x => x.rangeAt bb (oo + k * 4) [Value.int .i64 do_, .int .i64 at_, .int .u8 (b.toNat : Int), .slice ap m cp]) (BL wA20)) ?_ ?_
                · refine Or.inl ⟨rfl, fun w hSw => ?_⟩
                  exact EffR.same (by go_simp)
                try simp only [Act.put, List.setIfInBounds_toArray, List.set_cons_zero, List.set_cons_succ]
                refine wpAnyU_take (i := 27) (oi := { dst := some 94, op := Op.pick (Operand.tmp 85) (Operand.const (Value.bool true)) (Operand.tmp 93), type := 4, pos := "law.go:100", after := #[{ on := 18, ground := Ground.data }, { on := 26, ground := Ground.data }], guard := none }) (v := (.bool false)) rfl (by kernel_rfl) (by kernel_rfl) (by kernel_rfl) (by kernel_rfl) (by kernel_rfl) (fun _ _ _ h => h) (⟨fun x h => fun j v hv => BL.cell h (HRN4.out j v hv), fun _ _ h hb => Below.next h hb⟩ : Cls (fun x => x.rangeAt bb (oo + k * 4) [Value.int .i64 do_, .int .i64 at_, .int .u8 (b.toNat : Int), .slice ap m cp]) (BL wA20)) ?_ ?_
                · refine Or.inl ⟨rfl, fun w hSw => ?_⟩
                  exact EffR.same (by go_simp)
                try simp only [Act.put, List.setIfInBounds_toArray, List.set_cons_zero, List.set_cons_succ]
                refine wpAnyU_take (i := 28) (oi := { dst := some 95, op := Op.move (Operand.tmp 94), type := 4, pos := "law.go:100", after := #[{ on := 27, ground := Ground.data }, { on := 20, ground := Ground.chain }], guard := none }) (v := (.bool false)) rfl (by kernel_rfl) (by kernel_rfl) (by kernel_rfl) (by kernel_rfl) (by kernel_rfl) (fun _ _ _ h => h) (⟨fun x h => fun j v hv => BL.cell h (HRN4.out j v hv), fun _ _ h hb => Below.next h hb⟩ : Cls (fun x => x.rangeAt bb (oo + k * 4) [Value.int .i64 do_, .int .i64 at_, .int .u8 (b.toNat : Int), .slice ap m cp]) (BL wA20)) ?_ ?_
                · refine Or.inl ⟨rfl, fun w hSw => ?_⟩
                  exact EffR.same (by go_simp)
                try simp only [Act.put, List.setIfInBounds_toArray, List.set_cons_zero, List.set_cons_succ]
                refine wpAnyU_take (i := 29) (oi := { dst := some 96, op := Op.move (Operand.tmp 5), type := 24, pos := "law.go:100", after := #[{ on := 28, ground := Ground.guard }], guard := some (28, false) }) (v := (.pointer (some ⟨g, 0, none⟩))) rfl (by kernel_rfl) (by kernel_rfl) (by kernel_rfl) (by kernel_rfl) (by kernel_rfl) (fun _ _ _ h => h) (⟨fun x h => fun j v hv => BL.cell h (HRN4.out j v hv), fun _ _ h hb => Below.next h hb⟩ : Cls (fun x => x.rangeAt bb (oo + k * 4) [Value.int .i64 do_, .int .i64 at_, .int .u8 (b.toNat : Int), .slice ap m cp]) (BL wA20)) ?_ ?_
                · refine Or.inl ⟨rfl, fun w hSw => ?_⟩
                  exact EffR.same (by go_simp)
                try simp only [Act.put, List.setIfInBounds_toArray, List.set_cons_zero, List.set_cons_succ]
                refine wpAnyU_take (i := 31) (oi := { dst := some 98, op := Op.move (Operand.tmp 0), type := 3, pos := "law.go:100", after := #[{ on := 28, ground := Ground.guard }], guard := some (28, false) }) (v := (.int .i64 (N : Int))) rfl (by kernel_rfl) (by kernel_rfl) (by kernel_rfl) (by kernel_rfl) (by kernel_rfl) (fun _ _ _ h => h) (⟨fun x h => fun j v hv => BL.cell h (HRN4.out j v hv), fun _ _ h hb => Below.next h hb⟩ : Cls (fun x => x.rangeAt bb (oo + k * 4) [Value.int .i64 do_, .int .i64 at_, .int .u8 (b.toNat : Int), .slice ap m cp]) (BL wA20)) ?_ ?_
                · refine Or.inl ⟨rfl, fun w hSw => ?_⟩
                  exact EffR.same (by go_simp)
                try simp only [Act.put, List.setIfInBounds_toArray, List.set_cons_zero, List.set_cons_succ]
                refine wpAnyU_ready (rs := [30]) (by kernel_rfl) (by simp) ?_
                refine AllReadyU.cons (o := { dst := some 97, op := Op.call { callee := Callee.value (Operand.func 24), args := #[Operand.tmp 96], argTypes := #[24] }, type := 3, pos := "law.go:100", after := #[{ on := 29, ground := Ground.data }, { on := 28, ground := Ground.chain }, { on := 28, ground := Ground.guard }], guard := some (28, false) }) rfl (fun wA30 hA30 K hK => ?_) AllReadyU.nil
                go_simp
                have hs := Blocks_x wA30 g N Fd D2 (HDX.out.below (HC4.out.next hA30))
                refine hs.mono ?_
                rintro e0 w5 ⟨rfl, rfl⟩
                clear hs
                have HC5 := Lib.hid (HC4.out.next hA30)
                have HRN5 : Hid (wA30.rangeAt bb (oo + k * 4) [Value.int .i64 do_, .int .i64 at_, .int .u8 (b.toNat : Int), .slice ap m cp]) := fun j v hv => BL.cell HC5.out (HR3.out j v hv)
                refine hK.out _ _ (BL wA30) (⟨fun x h => fun j v hv => BL.cell h (HRN5.out j v hv), fun _ _ h hb => Below.next h hb⟩ : Cls (fun x => x.rangeAt bb (oo + k * 4) [Value.int .i64 do_, .int .i64 at_, .int .u8 (b.toNat : Int), .slice ap m cp]) (BL wA30)) (Below.refl _ _) ?_
                clear hK K
                try simp only [Act.put, List.setIfInBounds_toArray, List.set_cons_zero, List.set_cons_succ]
                refine wpAnyU_take (i := 32) (oi := { dst := some 99, op := Op.binOp BinOp.neq 3 (Operand.tmp 97) (Operand.tmp 98) 3, type := 4, pos := "law.go:100", after := #[{ on := 30, ground := Ground.data }, { on := 31, ground := Ground.data }, { on := 28, ground := Ground.guard }], guard := some (28, false) }) (v := (.bool false)) rfl (by kernel_rfl) (by kernel_rfl) (by kernel_rfl) (by kernel_rfl) (by kernel_rfl) (fun _ _ _ h => h) (⟨fun x h => fun j v hv => BL.cell h (HRN5.out j v hv), fun _ _ h hb => Below.next h hb⟩ : Cls (fun x => x.rangeAt bb (oo + k * 4) [Value.int .i64 do_, .int .i64 at_, .int .u8 (b.toNat : Int), .slice ap m cp]) (BL wA30)) ?_ ?_
                · refine Or.inl ⟨rfl, fun w hSw => ?_⟩
                  exact EffR.same (by go_simp)
                try simp only [Act.put, List.setIfInBounds_toArray, List.set_cons_zero, List.set_cons_succ]
                refine wpAnyU_take (i := 33) (oi := { dst := some 100, op := Op.pick (Operand.tmp 95) (Operand.const (Value.bool true)) (Operand.tmp 99), type := 4, pos := "law.go:100", after := #[{ on := 28, ground := Ground.data }, { on := 32, ground := Ground.data }], guard := none }) (v := (.bool false)) rfl (by kernel_rfl) (by kernel_rfl) (by kernel_rfl) (by kernel_rfl) (by kernel_rfl) (fun _ _ _ h => h) (⟨fun x h => fun j v hv => BL.cell h (HRN5.out j v hv), fun _ _ h hb => Below.next h hb⟩ : Cls (fun x => x.rangeAt bb (oo + k * 4) [Value.int .i64 do_, .int .i64 at_, .int .u8 (b.toNat : Int), .slice ap m cp]) (BL wA30)) ?_ ?_
                · refine Or.inl ⟨rfl, fun w hSw => ?_⟩
                  exact EffR.same (by go_simp)
                try simp only [Act.put, List.setIfInBounds_toArray, List.set_cons_zero, List.set_cons_succ]
                refine wpAnyU_done (by kernel_rfl) (fun w1 hb1 => ?_) _
                have HCE := Lib.hid (HC5.out.next hb1)
                clear hb1
                go_wp2_with fail
                exact ⟨⟨k + 1, D2, by omega, by push_cast; rfl, ⟨Fd, gs, _, HDX.out.below HCE.out, HPM.out.below HCE.out, HDS.out, HGE.out⟩, HIN, HB3.out.next HCE.out⟩, by simp [intOf]; omega⟩
            · go_simp
              have HC0 : Hid (Below w3.heap.size w3 w3) := Below.refl _ _
              have c3 : wA15.cell? ⟨gp, 3, none⟩ = some (.bool O) := by
                rw [HOO.out]
                exact (HPM.out.below (HC0.out.next hA15)).cells.2.2.2.1
              go_simp
              clear c3
              have HC1 := Lib.hid (HC0.out.next hA15)
              have HRN1 : Hid (wA15.rangeAt bb (oo + k * 4) [Value.int .i64 do_, .int .i64 at_, .int .u8 (b.toNat : Int), .slice ap m cp]) := fun j v hv => BL.cell HC1.out (HR3.out j v hv)
              refine hK.out _ _ (BL wA15) (⟨fun x h => fun j v hv => BL.cell h (HRN1.out j v hv), fun _ _ h hb => Below.next h hb⟩ : Cls (fun x => x.rangeAt bb (oo + k * 4) [Value.int .i64 do_, .int .i64 at_, .int .u8 (b.toNat : Int), .slice ap m cp]) (BL wA15)) (Below.refl _ _) ?_
              clear hK K
              try simp only [Act.put, List.setIfInBounds_toArray, List.set_cons_zero, List.set_cons_succ]
              refine wpAnyU_ready (rs := [11]) (by kernel_rfl) (by simp) ?_
              refine AllReadyU.cons (o := { dst := some 78, op := Op.call { callee := Callee.value (Operand.func 20), args := #[Operand.tmp 77], argTypes := #[24] }, type := 4, pos := "law.go:100", after := #[{ on := 10, ground := Ground.data }, { on := 9, ground := Ground.chain }, { on := 9, ground := Ground.guard }], guard := some (9, false) }) rfl (fun wA11 hA11 K hK => ?_) AllReadyU.nil
              go_simp
              have hs := Off_x wA11 g N Fd D2 (HDX.out.below (HC1.out.next hA11))
              rw [← HOO.out] at hs
              refine hs.mono ?_
              rintro e0 w5 ⟨rfl, rfl⟩
              clear hs
              have HC2 := Lib.hid (HC1.out.next hA11)
              have HRN2 : Hid (wA11.rangeAt bb (oo + k * 4) [Value.int .i64 do_, .int .i64 at_, .int .u8 (b.toNat : Int), .slice ap m cp]) := fun j v hv => BL.cell HC2.out (HR3.out j v hv)
              refine hK.out _ _ (BL wA11) (⟨fun x h => fun j v hv => BL.cell h (HRN2.out j v hv), fun _ _ h hb => Below.next h hb⟩ : Cls (fun x => x.rangeAt bb (oo + k * 4) [Value.int .i64 do_, .int .i64 at_, .int .u8 (b.toNat : Int), .slice ap m cp]) (BL wA11)) (Below.refl _ _) ?_
              clear hK K
              try simp only [Act.put, List.setIfInBounds_toArray, List.set_cons_zero, List.set_cons_succ]
              refine wpAnyU_take (i := 16) (oi := { dst := some 83, op := Op.binOp BinOp.neq 4 (Operand.tmp 78) (Operand.tmp 82) 4, type := 4, pos := "law.go:100", after := #[{ on := 11, ground := Ground.data }, { on := 15, ground := Ground.data }, { on := 9, ground := Ground.guard }], guard := some (9, false) }) (v := (.bool false)) rfl (by kernel_rfl) (by kernel_rfl) (by kernel_rfl) (by kernel_rfl) (by kernel_rfl) (fun _ _ _ h => h) (⟨fun x h => fun j v hv => BL.cell h (HRN2.out j v hv), fun _ _ h hb => Below.next h hb⟩ : Cls (fun x => x.rangeAt bb (oo + k * 4) [Value.int .i64 do_, .int .i64 at_, .int .u8 (b.toNat : Int), .slice ap m cp]) (BL wA11)) ?_ ?_
              · refine Or.inl ⟨rfl, fun w hSw => ?_⟩
                exact EffR.same (by go_simp)
              try simp only [Act.put, List.setIfInBounds_toArray, List.set_cons_zero, List.set_cons_succ]
              refine wpAnyU_take (i := 17) (oi := { dst := some 84, op := Op.pick (Operand.tmp 76) (Operand.const (Value.bool true)) (Operand.tmp 83), type := 4, pos := "law.go:100", after := #[{ on := 9, ground := Ground.data }, { on := 16, ground := Ground.data }], guard := none }) (v := (.bool false)) rfl (by kernel_rfl) (by kernel_rfl) (by kernel_rfl) (by kernel_rfl) (by kernel_rfl) (fun _ _ _ h => h) (⟨fun x h => fun j v hv => BL.cell h (HRN2.out j v hv), fun _ _ h hb => Below.next h hb⟩ : Cls (fun x => x.rangeAt bb (oo + k * 4) [Value.int .i64 do_, .int .i64 at_, .int .u8 (b.toNat : Int), .slice ap m cp]) (BL wA11)) ?_ ?_
              · refine Or.inl ⟨rfl, fun w hSw => ?_⟩
                exact EffR.same (by go_simp)
              try simp only [Act.put, List.setIfInBounds_toArray, List.set_cons_zero, List.set_cons_succ]
              refine wpAnyU_take (i := 18) (oi := { dst := some 85, op := Op.move (Operand.tmp 84), type := 4, pos := "law.go:100", after := #[{ on := 17, ground := Ground.data }, { on := 11, ground := Ground.chain }], guard := none }) (v := (.bool false)) rfl (by kernel_rfl) (by kernel_rfl) (by kernel_rfl) (by kernel_rfl) (by kernel_rfl) (fun _ _ _ h => h) (⟨fun x h => fun j v hv => BL.cell h (HRN2.out j v hv), fun _ _ h hb => Below.next h hb⟩ : Cls (fun x => x.rangeAt bb (oo + k * 4) [Value.int .i64 do_, .int .i64 at_, .int .u8 (b.toNat : Int), .slice ap m cp]) (BL wA11)) ?_ ?_
              · refine Or.inl ⟨rfl, fun w hSw => ?_⟩
                exact EffR.same (by go_simp)
              try simp only [Act.put, List.setIfInBounds_toArray, List.set_cons_zero, List.set_cons_succ]
              refine wpAnyU_take (i := 19) (oi := { dst := some 86, op := Op.move (Operand.tmp 5), type := 24, pos := "law.go:100", after := #[{ on := 18, ground := Ground.guard }], guard := some (18, false) }) (v := (.pointer (some ⟨g, 0, none⟩))) rfl (by kernel_rfl) (by kernel_rfl) (by kernel_rfl) (by kernel_rfl) (by kernel_rfl) (fun _ _ _ h => h) (⟨fun x h => fun j v hv => BL.cell h (HRN2.out j v hv), fun _ _ h hb => Below.next h hb⟩ : Cls (fun x => x.rangeAt bb (oo + k * 4) [Value.int .i64 do_, .int .i64 at_, .int .u8 (b.toNat : Int), .slice ap m cp]) (BL wA11)) ?_ ?_
              · refine Or.inl ⟨rfl, fun w hSw => ?_⟩
                exact EffR.same (by go_simp)
              try simp only [Act.put, List.setIfInBounds_toArray, List.set_cons_zero, List.set_cons_succ]
              refine wpAnyU_take (i := 21) (oi := { dst := some 88, op := Op.move (Operand.tmp 7), type := 48, pos := "law.go:100", after := #[{ on := 18, ground := Ground.guard }], guard := some (18, false) }) (v := (.pointer (some ⟨gp, 0, none⟩))) rfl (by kernel_rfl) (by kernel_rfl) (by kernel_rfl) (by kernel_rfl) (by kernel_rfl) (fun _ _ _ h => h) (⟨fun x h => fun j v hv => BL.cell h (HRN2.out j v hv), fun _ _ h hb => Below.next h hb⟩ : Cls (fun x => x.rangeAt bb (oo + k * 4) [Value.int .i64 do_, .int .i64 at_, .int .u8 (b.toNat : Int), .slice ap m cp]) (BL wA11)) ?_ ?_
              · refine Or.inl ⟨rfl, fun w hSw => ?_⟩
                exact EffR.same (by go_simp)
              try simp only [Act.put, List.setIfInBounds_toArray, List.set_cons_zero, List.set_cons_succ]
              refine wpAnyU_take (i := 22) (oi := { dst := some 89, op := Op.nilCheck (Operand.tmp 88), type := 0, pos := "law.go:100", after := #[{ on := 21, ground := Ground.data }, { on := 18, ground := Ground.guard }], guard := some (18, false) }) (v := (.pointer (some ⟨gp, 0, none⟩))) rfl (by kernel_rfl) (by kernel_rfl) (by kernel_rfl) (by kernel_rfl) (by kernel_rfl) (fun _ _ _ h => h) (⟨fun x h => fun j v hv => BL.cell h (HRN2.out j v hv), fun _ _ h hb => Below.next h hb⟩ : Cls (fun x => x.rangeAt bb (oo + k * 4) [Value.int .i64 do_, .int .i64 at_, .int .u8 (b.toNat : Int), .slice ap m cp]) (BL wA11)) ?_ ?_
              · refine Or.inl ⟨rfl, fun w hSw => ?_⟩
                exact EffR.same (by go_simp)
              try simp only [Act.put, List.setIfInBounds_toArray, List.set_cons_zero, List.set_cons_succ]
              refine wpAnyU_take (i := 23) (oi := { dst := some 90, op := Op.fieldAddr 56 (Operand.tmp 89) 2, type := 0, pos := "law.go:100", after := #[{ on := 22, ground := Ground.data }, { on := 18, ground := Ground.guard }], guard := some (18, false) }) (v := (.pointer (some ⟨gp, 2, none⟩))) rfl (by kernel_rfl) (by kernel_rfl) (by kernel_rfl) (by kernel_rfl) (by kernel_rfl) (fun _ _ _ h => h) (⟨fun x h => fun j v hv => BL.cell h (HRN2.out j v hv), fun _ _ h hb => Below.next h hb⟩ : Cls (fun x => x.rangeAt bb (oo + k * 4) [Value.int .i64 do_, .int .i64 at_, .int .u8 (b.toNat : Int), .slice ap m cp]) (BL wA11)) ?_ ?_
              · refine Or.inl ⟨rfl, fun w hSw => ?_⟩
                exact EffR.same (by go_simp)
              try simp only [Act.put, List.setIfInBounds_toArray, List.set_cons_zero, List.set_cons_succ]
              refine wpAnyU_ready (rs := [20, 24]) (by kernel_rfl) (by simp) ?_
              refine AllReadyU.cons (o := { dst := some 87, op := Op.call { callee := Callee.value (Operand.func 18), args := #[Operand.tmp 86], argTypes := #[24] }, type := 3, pos := "law.go:100", after := #[{ on := 19, ground := Ground.data }, { on := 18, ground := Ground.chain }, { on := 18, ground := Ground.guard }], guard := some (18, false) }) rfl (fun wA20 hA20 K hK => ?_) (AllReadyU.cons (o := { dst := some 91, op := Op.load 54 (Operand.tmp 90), type := 54, pos := "law.go:100", after := #[{ on := 23, ground := Ground.data }, { on := 18, ground := Ground.guard }], guard := some (18, false) }) rfl (fun wA24 hA24 K hK => ?_) AllReadyU.nil)
              · go_simp
                have hs := Open_x wA20 g N Fd D2 (HDX.out.below (HC2.out.next hA20))
                rw [← HQO.out] at hs
                refine hs.mono ?_
                rintro e0 w5 ⟨rfl, rfl⟩
                clear hs
                have HC3 := Lib.hid (HC2.out.next hA20)
                have HRN3 : Hid (wA20.rangeAt bb (oo + k * 4) [Value.int .i64 do_, .int .i64 at_, .int .u8 (b.toNat : Int), .slice ap m cp]) := fun j v hv => BL.cell HC3.out (HR3.out j v hv)
                refine hK.out _ _ (BL wA20) (⟨fun x h => fun j v hv => BL.cell h (HRN3.out j v hv), fun _ _ h hb => Below.next h hb⟩ : Cls (fun x => x.rangeAt bb (oo + k * 4) [Value.int .i64 do_, .int .i64 at_, .int .u8 (b.toNat : Int), .slice ap m cp]) (BL wA20)) (Below.refl _ _) ?_
                clear hK K
                try simp only [Act.put, List.setIfInBounds_toArray, List.set_cons_zero, List.set_cons_succ]
                refine wpAnyU_ready (rs := [24]) (by kernel_rfl) (by simp) ?_
                refine AllReadyU.cons (o := { dst := some 91, op := Op.load 54 (Operand.tmp 90), type := 54, pos := "law.go:100", after := #[{ on := 23, ground := Ground.data }, { on := 18, ground := Ground.guard }], guard := some (18, false) }) rfl (fun wA24 hA24 K hK => ?_) AllReadyU.nil
                go_simp
                have c2 : wA24.cell? ⟨gp, 2, none⟩ = some (.slice aO qO cO) := (HPM.out.below (HC3.out.next hA24)).cells.2.2.1
                go_simp
                clear c2
                have HC4 := Lib.hid (HC3.out.next hA24)
                have HRN4 : Hid (wA24.rangeAt bb (oo + k * 4) [Value.int .i64 do_, .int .i64 at_, .int .u8 (b.toNat : Int), .slice ap m cp]) := fun j v hv => BL.cell HC4.out (HR3.out j v hv)
                refine hK.out _ _ (BL wA24) (⟨fun x h => fun j v hv => BL.cell h (HRN4.out j v hv), fun _ _ h hb => Below.next h hb⟩ : Cls (fun x => x.rangeAt bb (oo + k * 4) [Value.int .i64 do_, .int .i64 at_, .int .u8 (b.toNat : Int), .slice ap m cp]) (BL wA24)) (Below.refl _ _) ?_
                clear hK K
                try simp only [Act.put, List.setIfInBounds_toArray, List.set_cons_zero, List.set_cons_succ]
                refine wpAnyU_take (i := 25) (oi := { dst := some 92, op := Op.call { callee := Callee.builtin Builtin.len, args := #[Operand.tmp 91], argTypes := #[54] }, type := 3, pos := "law.go:100", after := #[{ on := 24, ground := Ground.data }, { on := 18, ground := Ground.guard }], guard := some (18, false) }) (v := (.int .i64 (qO : Int))) rfl (by kernel_rfl) (by kernel_rfl) (by kernel_rfl) (by kernel_rfl) (by kernel_rfl) (fun _ _ _ h => h) (⟨fun x h => fun j v hv => BL.cell h (HRN4.out j v hv), fun _ _ h hb => Below.next h hb⟩ : Cls (fun x => x.rangeAt bb (oo + k * 4) [Value.int .i64 do_, .int .i64 at_, .int .u8 (b.toNat : Int), .slice ap m cp]) (BL wA24)) ?_ ?_
                · refine Or.inl ⟨rfl, fun w hSw => ?_⟩
                  exact EffR.same (by go_simp)
                try simp only [Act.put, List.setIfInBounds_toArray, List.set_cons_zero, List.set_cons_succ]
                refine wpAnyU_take (i := 26) (oi := { dst := some 93, op := Op.binOp BinOp.neq 3 (Operand.tmp 87) (Operand.tmp 92) 3, type := 4, pos := "law.go:100", after := #[{ on := 20, ground := Ground.data }, { on := 25, ground := Ground.data }, { on := 18, ground := Ground.guard }], guard := some (18, false) }) (v := (.bool false)) rfl (by kernel_rfl) (by kernel_rfl) (by kernel_rfl) (by kernel_rfl) (by kernel_rfl) (fun _ _ _ h => h) (⟨fun x h => fun j v hv => BL.cell h (HRN4.out j v hv), fun _ _ h hb => Below.next h hb⟩ : Cls (fun x => x.rangeAt bb (oo + k * 4) [Value.int .i64 do_, .int .i64 at_, .int .u8 (b.toNat : Int), .slice ap m cp]) (BL wA24)) ?_ ?_
                · refine Or.inl ⟨rfl, fun w hSw => ?_⟩
                  exact EffR.same (by go_simp)
                try simp only [Act.put, List.setIfInBounds_toArray, List.set_cons_zero, List.set_cons_succ]
                refine wpAnyU_take (i := 27) (oi := { dst := some 94, op := Op.pick (Operand.tmp 85) (Operand.const (Value.bool true)) (Operand.tmp 93), type := 4, pos := "law.go:100", after := #[{ on := 18, ground := Ground.data }, { on := 26, ground := Ground.data }], guard := none }) (v := (.bool false)) rfl (by kernel_rfl) (by kernel_rfl) (by kernel_rfl) (by kernel_rfl) (by kernel_rfl) (fun _ _ _ h => h) (⟨fun x h => fun j v hv => BL.cell h (HRN4.out j v hv), fun _ _ h hb => Below.next h hb⟩ : Cls (fun x => x.rangeAt bb (oo + k * 4) [Value.int .i64 do_, .int .i64 at_, .int .u8 (b.toNat : Int), .slice ap m cp]) (BL wA24)) ?_ ?_
                · refine Or.inl ⟨rfl, fun w hSw => ?_⟩
                  exact EffR.same (by go_simp)
                try simp only [Act.put, List.setIfInBounds_toArray, List.set_cons_zero, List.set_cons_succ]
                refine wpAnyU_take (i := 28) (oi := { dst := some 95, op := Op.move (Operand.tmp 94), type := 4, pos := "law.go:100", after := #[{ on := 27, ground := Ground.data }, { on := 20, ground := Ground.chain }], guard := none }) (v := (.bool false)) rfl (by kernel_rfl) (by kernel_rfl) (by kernel_rfl) (by kernel_rfl) (by kernel_rfl) (fun _ _ _ h => h) (⟨fun x h => fun j v hv => BL.cell h (HRN4.out j v hv), fun _ _ h hb => Below.next h hb⟩ : Cls (fun x => x.rangeAt bb (oo + k * 4) [Value.int .i64 do_, .int .i64 at_, .int .u8 (b.toNat : Int), .slice ap m cp]) (BL wA24)) ?_ ?_
                · refine Or.inl ⟨rfl, fun w hSw => ?_⟩
                  exact EffR.same (by go_simp)
                try simp only [Act.put, List.setIfInBounds_toArray, List.set_cons_zero, List.set_cons_succ]
                refine wpAnyU_take (i := 29) (oi := { dst := some 96, op := Op.move (Operand.tmp 5), type := 24, pos := "law.go:100", after := #[{ on := 28, ground := Ground.guard }], guard := some (28, false) }) (v := (.pointer (some ⟨g, 0, none⟩))) rfl (by kernel_rfl) (by kernel_rfl) (by kernel_rfl) (by kernel_rfl) (by kernel_rfl) (fun _ _ _ h => h) (⟨fun x h => fun j v hv => BL.cell h (HRN4.out j v hv), fun _ _ h hb => Below.next h hb⟩ : Cls (fun x => x.rangeAt bb (oo + k * 4) [Value.int .i64 do_, .int .i64 at_, .int .u8 (b.toNat : Int), .slice ap m cp]) (BL wA24)) ?_ ?_
                · refine Or.inl ⟨rfl, fun w hSw => ?_⟩
                  exact EffR.same (by go_simp)
                try simp only [Act.put, List.setIfInBounds_toArray, List.set_cons_zero, List.set_cons_succ]
                refine wpAnyU_take (i := 31) (oi := { dst := some 98, op := Op.move (Operand.tmp 0), type := 3, pos := "law.go:100", after := #[{ on := 28, ground := Ground.guard }], guard := some (28, false) }) (v := (.int .i64 (N : Int))) rfl (by kernel_rfl) (by kernel_rfl) (by kernel_rfl) (by kernel_rfl) (by kernel_rfl) (fun _ _ _ h => h) (⟨fun x h => fun j v hv => BL.cell h (HRN4.out j v hv), fun _ _ h hb => Below.next h hb⟩ : Cls (fun x => x.rangeAt bb (oo + k * 4) [Value.int .i64 do_, .int .i64 at_, .int .u8 (b.toNat : Int), .slice ap m cp]) (BL wA24)) ?_ ?_
                · refine Or.inl ⟨rfl, fun w hSw => ?_⟩
                  exact EffR.same (by go_simp)
                try simp only [Act.put, List.setIfInBounds_toArray, List.set_cons_zero, List.set_cons_succ]
                refine wpAnyU_ready (rs := [30]) (by kernel_rfl) (by simp) ?_
                refine AllReadyU.cons (o := { dst := some 97, op := Op.call { callee := Callee.value (Operand.func 24), args := #[Operand.tmp 96], argTypes := #[24] }, type := 3, pos := "law.go:100", after := #[{ on := 29, ground := Ground.data }, { on := 28, ground := Ground.chain }, { on := 28, ground := Ground.guard }], guard := some (28, false) }) rfl (fun wA30 hA30 K hK => ?_) AllReadyU.nil
                go_simp
                have hs := Blocks_x wA30 g N Fd D2 (HDX.out.below (HC4.out.next hA30))
                refine hs.mono ?_
                rintro e0 w5 ⟨rfl, rfl⟩
                clear hs
                have HC5 := Lib.hid (HC4.out.next hA30)
                have HRN5 : Hid (wA30.rangeAt bb (oo + k * 4) [Value.int .i64 do_, .int .i64 at_, .int .u8 (b.toNat : Int), .slice ap m cp]) := fun j v hv => BL.cell HC5.out (HR3.out j v hv)
                refine hK.out _ _ (BL wA30) (⟨fun x h => fun j v hv => BL.cell h (HRN5.out j v hv), fun _ _ h hb => Below.next h hb⟩ : Cls (fun x => x.rangeAt bb (oo + k * 4) [Value.int .i64 do_, .int .i64 at_, .int .u8 (b.toNat : Int), .slice ap m cp]) (BL wA30)) (Below.refl _ _) ?_
                clear hK K
                try simp only [Act.put, List.setIfInBounds_toArray, List.set_cons_zero, List.set_cons_succ]
                refine wpAnyU_take (i := 32) (oi := { dst := some 99, op := Op.binOp BinOp.neq 3 (Operand.tmp 97) (Operand.tmp 98) 3, type := 4, pos := "law.go:100", after := #[{ on := 30, ground := Ground.data }, { on := 31, ground := Ground.data }, { on := 28, ground := Ground.guard }], guard := some (28, false) }) (v := (.bool false)) rfl (by kernel_rfl) (by kernel_rfl) (by kernel_rfl) (by kernel_rfl) (by kernel_rfl) (fun _ _ _ h => h) (⟨fun x h => fun j v hv => BL.cell h (HRN5.out j v hv), fun _ _ h hb => Below.next h hb⟩ : Cls (fun x => x.rangeAt bb (oo + k * 4) [Value.int .i64 do_, .int .i64 at_, .int .u8 (b.toNat : Int), .slice ap m cp]) (BL wA30)) ?_ ?_
                · refine Or.inl ⟨rfl, fun w hSw => ?_⟩
                  exact EffR.same (by go_simp)
                try simp only [Act.put, List.setIfInBounds_toArray, List.set_cons_zero, List.set_cons_succ]
                refine wpAnyU_take (i := 33) (oi := { dst := some 100, op := Op.pick (Operand.tmp 95) (Operand.const (Value.bool true)) (Operand.tmp 99), type := 4, pos := "law.go:100", after := #[{ on := 28, ground := Ground.data }, { on := 32, ground := Ground.data }], guard := none }) (v := (.bool false)) rfl (by kernel_rfl) (by kernel_rfl) (by kernel_rfl) (by kernel_rfl) (by kernel_rfl) (fun _ _ _ h => h) (⟨fun x h => fun j v hv => BL.cell h (HRN5.out j v hv), fun _ _ h hb => Below.next h hb⟩ : Cls (fun x => x.rangeAt bb (oo + k * 4) [Value.int .i64 do_, .int .i64 at_, .int .u8 (b.toNat : Int), .slice ap m cp]) (BL wA30)) ?_ ?_
                · refine Or.inl ⟨rfl, fun w hSw => ?_⟩
                  exact EffR.same (by go_simp)
                try simp only [Act.put, List.setIfInBounds_toArray, List.set_cons_zero, List.set_cons_succ]
                refine wpAnyU_done (by kernel_rfl) (fun w1 hb1 => ?_) _
                have HCE := Lib.hid (HC5.out.next hb1)
                clear hb1
                go_wp2_with fail
                exact ⟨⟨k + 1, D2, by omega, by push_cast; rfl, ⟨Fd, gs, _, HDX.out.below HCE.out, HPM.out.below HCE.out, HDS.out, HGE.out⟩, HIN, HB3.out.next HCE.out⟩, by simp [intOf]; omega⟩
              · go_simp
                have c2 : wA24.cell? ⟨gp, 2, none⟩ = some (.slice aO qO cO) := (HPM.out.below (HC2.out.next hA24)).cells.2.2.1
                go_simp
                clear c2
                have HC3 := Lib.hid (HC2.out.next hA24)
                have HRN3 : Hid (wA24.rangeAt bb (oo + k * 4) [Value.int .i64 do_, .int .i64 at_, .int .u8 (b.toNat : Int), .slice ap m cp]) := fun j v hv => BL.cell HC3.out (HR3.out j v hv)
                refine hK.out _ _ (BL wA24) (⟨fun x h => fun j v hv => BL.cell h (HRN3.out j v hv), fun _ _ h hb => Below.next h hb⟩ : Cls (fun x => x.rangeAt bb (oo + k * 4) [Value.int .i64 do_, .int .i64 at_, .int .u8 (b.toNat : Int), .slice ap m cp]) (BL wA24)) (Below.refl _ _) ?_
                clear hK K
                try simp only [Act.put, List.setIfInBounds_toArray, List.set_cons_zero, List.set_cons_succ]
                refine wpAnyU_take (i := 25) (oi := { dst := some 92, op := Op.call { callee := Callee.builtin Builtin.len, args := #[Operand.tmp 91], argTypes := #[54] }, type := 3, pos := "law.go:100", after := #[{ on := 24, ground := Ground.data }, { on := 18, ground := Ground.guard }], guard := some (18, false) }) (v := (.int .i64 (qO : Int))) rfl (by kernel_rfl) (by kernel_rfl) (by kernel_rfl) (by kernel_rfl) (by kernel_rfl) (fun _ _ _ h => h) (⟨fun x h => fun j v hv => BL.cell h (HRN3.out j v hv), fun _ _ h hb => Below.next h hb⟩ : Cls (fun x => x.rangeAt bb (oo + k * 4) [Value.int .i64 do_, .int .i64 at_, .int .u8 (b.toNat : Int), .slice ap m cp]) (BL wA24)) ?_ ?_
                · refine Or.inl ⟨rfl, fun w hSw => ?_⟩
                  exact EffR.same (by go_simp)
                try simp only [Act.put, List.setIfInBounds_toArray, List.set_cons_zero, List.set_cons_succ]
                refine wpAnyU_ready (rs := [20]) (by kernel_rfl) (by simp) ?_
                refine AllReadyU.cons (o := { dst := some 87, op := Op.call { callee := Callee.value (Operand.func 18), args := #[Operand.tmp 86], argTypes := #[24] }, type := 3, pos := "law.go:100", after := #[{ on := 19, ground := Ground.data }, { on := 18, ground := Ground.chain }, { on := 18, ground := Ground.guard }], guard := some (18, false) }) rfl (fun wA20 hA20 K hK => ?_) AllReadyU.nil
                go_simp
                have hs := Open_x wA20 g N Fd D2 (HDX.out.below (HC3.out.next hA20))
                rw [← HQO.out] at hs
                refine hs.mono ?_
                rintro e0 w5 ⟨rfl, rfl⟩
                clear hs
                have HC4 := Lib.hid (HC3.out.next hA20)
                have HRN4 : Hid (wA20.rangeAt bb (oo + k * 4) [Value.int .i64 do_, .int .i64 at_, .int .u8 (b.toNat : Int), .slice ap m cp]) := fun j v hv => BL.cell HC4.out (HR3.out j v hv)
                refine hK.out _ _ (BL wA20) (⟨fun x h => fun j v hv => BL.cell h (HRN4.out j v hv), fun _ _ h hb => Below.next h hb⟩ : Cls (fun x => x.rangeAt bb (oo + k * 4) [Value.int .i64 do_, .int .i64 at_, .int .u8 (b.toNat : Int), .slice ap m cp]) (BL wA20)) (Below.refl _ _) ?_
                clear hK K
                try simp only [Act.put, List.setIfInBounds_toArray, List.set_cons_zero, List.set_cons_succ]
                refine wpAnyU_take (i := 26) (oi := { dst := some 93, op := Op.binOp BinOp.neq 3 (Operand.tmp 87) (Operand.tmp 92) 3, type := 4, pos := "law.go:100", after := #[{ on := 20, ground := Ground.data }, { on := 25, ground := Ground.data }, { on := 18, ground := Ground.guard }], guard := some (18, false) }) (v := (.bool false)) rfl (by kernel_rfl) (by kernel_rfl) (by kernel_rfl) (by kernel_rfl) (by kernel_rfl) (fun _ _ _ h => h) (⟨fun x h => fun j v hv => BL.cell h (HRN4.out j v hv), fun _ _ h hb => Below.next h hb⟩ : Cls (fun x => x.rangeAt bb (oo + k * 4) [Value.int .i64 do_, .int .i64 at_, .int .u8 (b.toNat : Int), .slice ap m cp]) (BL wA20)) ?_ ?_
                · refine Or.inl ⟨rfl, fun w hSw => ?_⟩
                  exact EffR.same (by go_simp)
                try simp only [Act.put, List.setIfInBounds_toArray, List.set_cons_zero, List.set_cons_succ]
                refine wpAnyU_take (i := 27) (oi := { dst := some 94, op := Op.pick (Operand.tmp 85) (Operand.const (Value.bool true)) (Operand.tmp 93), type := 4, pos := "law.go:100", after := #[{ on := 18, ground := Ground.data }, { on := 26, ground := Ground.data }], guard := none }) (v := (.bool false)) rfl (by kernel_rfl) (by kernel_rfl) (by kernel_rfl) (by kernel_rfl) (by kernel_rfl) (fun _ _ _ h => h) (⟨fun x h => fun j v hv => BL.cell h (HRN4.out j v hv), fun _ _ h hb => Below.next h hb⟩ : Cls (fun x => x.rangeAt bb (oo + k * 4) [Value.int .i64 do_, .int .i64 at_, .int .u8 (b.toNat : Int), .slice ap m cp]) (BL wA20)) ?_ ?_
                · refine Or.inl ⟨rfl, fun w hSw => ?_⟩
                  exact EffR.same (by go_simp)
                try simp only [Act.put, List.setIfInBounds_toArray, List.set_cons_zero, List.set_cons_succ]
                refine wpAnyU_take (i := 28) (oi := { dst := some 95, op := Op.move (Operand.tmp 94), type := 4, pos := "law.go:100", after := #[{ on := 27, ground := Ground.data }, { on := 20, ground := Ground.chain }], guard := none }) (v := (.bool false)) rfl (by kernel_rfl) (by kernel_rfl) (by kernel_rfl) (by kernel_rfl) (by kernel_rfl) (fun _ _ _ h => h) (⟨fun x h => fun j v hv => BL.cell h (HRN4.out j v hv), fun _ _ h hb => Below.next h hb⟩ : Cls (fun x => x.rangeAt bb (oo + k * 4) [Value.int .i64 do_, .int .i64 at_, .int .u8 (b.toNat : Int), .slice ap m cp]) (BL wA20)) ?_ ?_
                · refine Or.inl ⟨rfl, fun w hSw => ?_⟩
                  exact EffR.same (by go_simp)
                try simp only [Act.put, List.setIfInBounds_toArray, List.set_cons_zero, List.set_cons_succ]
                refine wpAnyU_take (i := 29) (oi := { dst := some 96, op := Op.move (Operand.tmp 5), type := 24, pos := "law.go:100", after := #[{ on := 28, ground := Ground.guard }], guard := some (28, false) }) (v := (.pointer (some ⟨g, 0, none⟩))) rfl (by kernel_rfl) (by kernel_rfl) (by kernel_rfl) (by kernel_rfl) (by kernel_rfl) (fun _ _ _ h => h) (⟨fun x h => fun j v hv => BL.cell h (HRN4.out j v hv), fun _ _ h hb => Below.next h hb⟩ : Cls (fun x => x.rangeAt bb (oo + k * 4) [Value.int .i64 do_, .int .i64 at_, .int .u8 (b.toNat : Int), .slice ap m cp]) (BL wA20)) ?_ ?_
                · refine Or.inl ⟨rfl, fun w hSw => ?_⟩
                  exact EffR.same (by go_simp)
                try simp only [Act.put, List.setIfInBounds_toArray, List.set_cons_zero, List.set_cons_succ]
                refine wpAnyU_take (i := 31) (oi := { dst := some 98, op := Op.move (Operand.tmp 0), type := 3, pos := "law.go:100", after := #[{ on := 28, ground := Ground.guard }], guard := some (28, false) }) (v := (.int .i64 (N : Int))) rfl (by kernel_rfl) (by kernel_rfl) (by kernel_rfl) (by kernel_rfl) (by kernel_rfl) (fun _ _ _ h => h) (⟨fun x h => fun j v hv => BL.cell h (HRN4.out j v hv), fun _ _ h hb => Below.next h hb⟩ : Cls (fun x => x.rangeAt bb (oo + k * 4) [Value.int .i64 do_, .int .i64 at_, .int .u8 (b.toNat : Int), .slice ap m cp]) (BL wA20)) ?_ ?_
                · refine Or.inl ⟨rfl, fun w hSw => ?_⟩
                  exact EffR.same (by go_simp)
                try simp only [Act.put, List.setIfInBounds_toArray, List.set_cons_zero, List.set_cons_succ]
                refine wpAnyU_ready (rs := [30]) (by kernel_rfl) (by simp) ?_
                refine AllReadyU.cons (o := { dst := some 97, op := Op.call { callee := Callee.value (Operand.func 24), args := #[Operand.tmp 96], argTypes := #[24] }, type := 3, pos := "law.go:100", after := #[{ on := 29, ground := Ground.data }, { on := 28, ground := Ground.chain }, { on := 28, ground := Ground.guard }], guard := some (28, false) }) rfl (fun wA30 hA30 K hK => ?_) AllReadyU.nil
                go_simp
                have hs := Blocks_x wA30 g N Fd D2 (HDX.out.below (HC4.out.next hA30))
                refine hs.mono ?_
                rintro e0 w5 ⟨rfl, rfl⟩
                clear hs
                have HC5 := Lib.hid (HC4.out.next hA30)
                have HRN5 : Hid (wA30.rangeAt bb (oo + k * 4) [Value.int .i64 do_, .int .i64 at_, .int .u8 (b.toNat : Int), .slice ap m cp]) := fun j v hv => BL.cell HC5.out (HR3.out j v hv)
                refine hK.out _ _ (BL wA30) (⟨fun x h => fun j v hv => BL.cell h (HRN5.out j v hv), fun _ _ h hb => Below.next h hb⟩ : Cls (fun x => x.rangeAt bb (oo + k * 4) [Value.int .i64 do_, .int .i64 at_, .int .u8 (b.toNat : Int), .slice ap m cp]) (BL wA30)) (Below.refl _ _) ?_
                clear hK K
                try simp only [Act.put, List.setIfInBounds_toArray, List.set_cons_zero, List.set_cons_succ]
                refine wpAnyU_take (i := 32) (oi := { dst := some 99, op := Op.binOp BinOp.neq 3 (Operand.tmp 97) (Operand.tmp 98) 3, type := 4, pos := "law.go:100", after := #[{ on := 30, ground := Ground.data }, { on := 31, ground := Ground.data }, { on := 28, ground := Ground.guard }], guard := some (28, false) }) (v := (.bool false)) rfl (by kernel_rfl) (by kernel_rfl) (by kernel_rfl) (by kernel_rfl) (by kernel_rfl) (fun _ _ _ h => h) (⟨fun x h => fun j v hv => BL.cell h (HRN5.out j v hv), fun _ _ h hb => Below.next h hb⟩ : Cls (fun x => x.rangeAt bb (oo + k * 4) [Value.int .i64 do_, .int .i64 at_, .int .u8 (b.toNat : Int), .slice ap m cp]) (BL wA30)) ?_ ?_
                · refine Or.inl ⟨rfl, fun w hSw => ?_⟩
                  exact EffR.same (by go_simp)
                try simp only [Act.put, List.setIfInBounds_toArray, List.set_cons_zero, List.set_cons_succ]
                refine wpAnyU_take (i := 33) (oi := { dst := some 100, op := Op.pick (Operand.tmp 95) (Operand.const (Value.bool true)) (Operand.tmp 99), type := 4, pos := "law.go:100", after := #[{ on := 28, ground := Ground.data }, { on := 32, ground := Ground.data }], guard := none }) (v := (.bool false)) rfl (by kernel_rfl) (by kernel_rfl) (by kernel_rfl) (by kernel_rfl) (by kernel_rfl) (fun _ _ _ h => h) (⟨fun x h => fun j v hv => BL.cell h (HRN5.out j v hv), fun _ _ h hb => Below.next h hb⟩ : Cls (fun x => x.rangeAt bb (oo + k * 4) [Value.int .i64 do_, .int .i64 at_, .int .u8 (b.toNat : Int), .slice ap m cp]) (BL wA30)) ?_ ?_
                · refine Or.inl ⟨rfl, fun w hSw => ?_⟩
                  exact EffR.same (by go_simp)
                try simp only [Act.put, List.setIfInBounds_toArray, List.set_cons_zero, List.set_cons_succ]
                refine wpAnyU_done (by kernel_rfl) (fun w1 hb1 => ?_) _
                have HCE := Lib.hid (HC5.out.next hb1)
                clear hb1
                go_wp2_with fail
                exact ⟨⟨k + 1, D2, by omega, by push_cast; rfl, ⟨Fd, gs, _, HDX.out.below HCE.out, HPM.out.below HCE.out, HDS.out, HGE.out⟩, HIN, HB3.out.next HCE.out⟩, by simp [intOf]; omega⟩
          · have hfl : ¬ ((k : Int) < n1 ∧ (k : Int) < 300) := by omega
            have hend : (k : Int) < n1 → decide ((k : Int) < 300) = false := fun h => by simp; omega
            by_cases hk1 : k < n1
            · have hk1' : (k : Int) < n1 := by omega
              have hk3 : decide ((k : Int) < 300) = false := by simp; omega
              clear hfl hend
              go_wp2_with fail
              go_loopw [9] (fun i wr => ∃ (x : Int), (-1 ≤ x ∧ x ≤ N + 1) ∧ i = .int .i64 x ∧ E3 w.heap.size wr g gp N D D ∧ Below w.heap.size w wr) (fun i _ => ((N : Int) + 1 - intOf i).toNat)
              case atStart => exact ⟨-1, by omega, rfl, HE.out, HBW.out⟩
              case round =>
                obtain ⟨x, hx, rfl, he, hb⟩ := hrel
                have HE := Lib.hid he
                have HB := Lib.hid hb
                clear he hb
                by_cases hxn : x ≤ N
                · have hx0 : (-1 : Int) ≤ x ∧ x ≤ (N : Int) ∧ (N : Int) ≤ 65536 := by omega
                  have hrd := dread_e wr g gp N D D HE.out x
                  obtain ⟨rb, hrb⟩ : ∃ z, z = rdB N D x := ⟨_, rfl⟩
                  obtain ⟨rr, hrr⟩ : ∃ z, z = dRight N D x := ⟨_, rfl⟩
                  have hr64 : rb.length = 64 := by rw [hrb]; exact rdB_64 HE.out.okD.1 x
                  rw [← hrb, ← hrr] at hrd
                  have HRB := Lib.hid hrb
                  have HRR := Lib.hid hrr
                  have H64 := Lib.hid hr64
                  clear hrb hrr hr64
                  go_wp2_with fail
                  (with_reducible refine hrd.mono ?_)
                  clear hrd
                  rintro e w1x ⟨rfl, hb1⟩
                  obtain ⟨q1, q2, q3⟩ := box_world1 w1x rb H64.out
                  obtain ⟨W1, hW1⟩ : ∃ z, z = ((w1x.alloc (.cells (bvs zero64).toArray 29)).setCells w1x.heap.size 0 (bvs rb)) := ⟨_, rfl⟩
                  have hwa : Below wr.heap.size wr W1 := by rw [hW1]; exact hb1.next q1
                  rw [← hW1] at q2
                  have HW1 := Lib.hid hW1
                  have HWA := Lib.hid hwa
                  have HQ2 := Lib.hid q2
                  have HQ3 := Lib.hid q3
                  have Hsz := Lib.hid (size64_of H64.out)
                  have hun := Try.underlying29
                  have hpr := pread_e W1 g gp N D D (HE.out.below hwa) HX.out.1 x
                  rw [← HRB.out, ← HRR.out] at hpr
                  have heqb : ∀ w, (Op.equalIn 10000 29 (.agg (bvs rb).toArray) (.agg (bvs rb).toArray)).run Try.prog w = .ok true w := fun w => by
                    have := blocks_eq w rb rb H64.out H64.out
                    rw [decide_eq_true rfl] at this
                    exact this
                  clear hb1 q1 q2 q3 hwa hW1
                  go_wp2_with (first
                    | (refine wpList_store_mid rfl 29 (.tmp 10) (.tmp 110) rfl w1x.heap.size 0 (bvs rb).toArray rfl rfl HQ3.out (by simpa using Hsz.out) (all_oneCell_toArray (bs_oneCell _)) ?_; change wpList _ _ _ _ _ ((w1x.alloc (.cells (bvs zero64).toArray 29)).setCells w1x.heap.size 0 (bvs rb)); rw [← HW1.out])
                    | fail)
                  (with_reducible refine hpr.mono ?_)
                  clear hpr
                  rintro e w2x ⟨rfl, hb2⟩
                  obtain ⟨q1, q2, q3⟩ := box_world1 w2x rb H64.out
                  obtain ⟨W2, hW2⟩ : ∃ z, z = ((w2x.alloc (.cells (bvs zero64).toArray 29)).setCells w2x.heap.size 0 (bvs rb)) := ⟨_, rfl⟩
                  have R1 : Hid (W2.rangeAt w1x.heap.size 0 (bvs rb)) := by show World.rangeAt _ _ _ _; rw [hW2]; exact ((HQ2.out.below hb2).below q1).bytes
                  have R2 : Hid (W2.rangeAt w2x.heap.size 0 (bvs rb)) := by show World.rangeAt _ _ _ _; rw [hW2]; exact q2.bytes
                  have HWB : Hid (Below wr.heap.size wr W2) := by show Below _ _ _; rw [hW2]; exact (HWA.out.next hb2).next q1
                  have HW2 := Lib.hid hW2
                  have HQ6 := Lib.hid q3
                  clear hb2 q1 q2 q3 hW2
                  go_wp2_with (first
                    | (refine wpList_store_mid rfl 29 (.tmp 12) (.tmp 116) rfl w2x.heap.size 0 (bvs rb).toArray rfl rfl HQ6.out (by simpa using Hsz.out) (all_oneCell_toArray (bs_oneCell _)) ?_; change wpList _ _ _ _ _ ((w2x.alloc (.cells (bvs zero64).toArray 29)).setCells w2x.heap.size 0 (bvs rb)); rw [← HW2.out])
                    | (refine wpList_load_mid rfl 29 (.tmp 10) rfl w1x.heap.size 0 rfl (bvs rb) _ R1.out Try.underlying29 rfl Hsz.out ?_)
                    | (refine wpList_load_mid rfl 29 (.tmp 12) rfl w2x.heap.size 0 rfl (bvs rb) _ R2.out Try.underlying29 rfl Hsz.out ?_)
                    | fail)
                  exact ⟨⟨x + 1, by omega, rfl, HE.out.below HWB.out, HB.out.next HWB.out⟩, by simp [intOf]; omega⟩
                · have hxn' : decide (x ≤ (N : Int)) = false := by simp; omega
                  have hwk := wakes_any wr
                  go_wp2_with fail
                  (with_reducible refine hwk.mono ?_)
                  clear hwk
                  rintro e w6 ⟨rfl, hb6⟩
                  have HB6 := Lib.hid (HB.out.next hb6)
                  clear hb6
                  go_wp2_with fail
                  go_ret
                  exact ⟨rfl, HB6.out⟩
            · have hk1' : decide ((k : Int) < n1) = false := by simp; omega
              clear hfl hend
              go_wp2_with fail
              go_loopw [9] (fun i wr => ∃ (x : Int), (-1 ≤ x ∧ x ≤ N + 1) ∧ i = .int .i64 x ∧ E3 w.heap.size wr g gp N D D ∧ Below w.heap.size w wr) (fun i _ => ((N : Int) + 1 - intOf i).toNat)
              case atStart => exact ⟨-1, by omega, rfl, HE.out, HBW.out⟩
              case round =>
                obtain ⟨x, hx, rfl, he, hb⟩ := hrel
                have HE := Lib.hid he
                have HB := Lib.hid hb
                clear he hb
                by_cases hxn : x ≤ N
                · have hx0 : (-1 : Int) ≤ x ∧ x ≤ (N : Int) ∧ (N : Int) ≤ 65536 := by omega
                  have hrd := dread_e wr g gp N D D HE.out x
                  obtain ⟨rb, hrb⟩ : ∃ z, z = rdB N D x := ⟨_, rfl⟩
                  obtain ⟨rr, hrr⟩ : ∃ z, z = dRight N D x := ⟨_, rfl⟩
                  have hr64 : rb.length = 64 := by rw [hrb]; exact rdB_64 HE.out.okD.1 x
                  rw [← hrb, ← hrr] at hrd
                  have HRB := Lib.hid hrb
                  have HRR := Lib.hid hrr
                  have H64 := Lib.hid hr64
                  clear hrb hrr hr64
                  go_wp2_with fail
                  (with_reducible refine hrd.mono ?_)
                  clear hrd
                  rintro e w1x ⟨rfl, hb1⟩
                  obtain ⟨q1, q2, q3⟩ := box_world1 w1x rb H64.out
                  obtain ⟨W1, hW1⟩ : ∃ z, z = ((w1x.alloc (.cells (bvs zero64).toArray 29)).setCells w1x.heap.size 0 (bvs rb)) := ⟨_, rfl⟩
                  have hwa : Below wr.heap.size wr W1 := by rw [hW1]; exact hb1.next q1
                  rw [← hW1] at q2
                  have HW1 := Lib.hid hW1
                  have HWA := Lib.hid hwa
                  have HQ2 := Lib.hid q2
                  have HQ3 := Lib.hid q3
                  have Hsz := Lib.hid (size64_of H64.out)
                  have hun := Try.underlying29
                  have hpr := pread_e W1 g gp N D D (HE.out.below hwa) HX.out.1 x
                  rw [← HRB.out, ← HRR.out] at hpr
                  have heqb : ∀ w, (Op.equalIn 10000 29 (.agg (bvs rb).toArray) (.agg (bvs rb).toArray)).run Try.prog w = .ok true w := fun w => by
                    have := blocks_eq w rb rb H64.out H64.out
                    rw [decide_eq_true rfl] at this
                    exact this
                  clear hb1 q1 q2 q3 hwa hW1
                  go_wp2_with (first
                    | (refine wpList_store_mid rfl 29 (.tmp 10) (.tmp 110) rfl w1x.heap.size 0 (bvs rb).toArray rfl rfl HQ3.out (by simpa using Hsz.out) (all_oneCell_toArray (bs_oneCell _)) ?_; change wpList _ _ _ _ _ ((w1x.alloc (.cells (bvs zero64).toArray 29)).setCells w1x.heap.size 0 (bvs rb)); rw [← HW1.out])
                    | fail)
                  (with_reducible refine hpr.mono ?_)
                  clear hpr
                  rintro e w2x ⟨rfl, hb2⟩
                  obtain ⟨q1, q2, q3⟩ := box_world1 w2x rb H64.out
                  obtain ⟨W2, hW2⟩ : ∃ z, z = ((w2x.alloc (.cells (bvs zero64).toArray 29)).setCells w2x.heap.size 0 (bvs rb)) := ⟨_, rfl⟩
                  have R1 : Hid (W2.rangeAt w1x.heap.size 0 (bvs rb)) := by show World.rangeAt _ _ _ _; rw [hW2]; exact ((HQ2.out.below hb2).below q1).bytes
                  have R2 : Hid (W2.rangeAt w2x.heap.size 0 (bvs rb)) := by show World.rangeAt _ _ _ _; rw [hW2]; exact q2.bytes
                  have HWB : Hid (Below wr.heap.size wr W2) := by show Below _ _ _; rw [hW2]; exact (HWA.out.next hb2).next q1
                  have HW2 := Lib.hid hW2
                  have HQ6 := Lib.hid q3
                  clear hb2 q1 q2 q3 hW2
                  go_wp2_with (first
                    | (refine wpList_store_mid rfl 29 (.tmp 12) (.tmp 116) rfl w2x.heap.size 0 (bvs rb).toArray rfl rfl HQ6.out (by simpa using Hsz.out) (all_oneCell_toArray (bs_oneCell _)) ?_; change wpList _ _ _ _ _ ((w2x.alloc (.cells (bvs zero64).toArray 29)).setCells w2x.heap.size 0 (bvs rb)); rw [← HW2.out])
                    | (refine wpList_load_mid rfl 29 (.tmp 10) rfl w1x.heap.size 0 rfl (bvs rb) _ R1.out Try.underlying29 rfl Hsz.out ?_)
                    | (refine wpList_load_mid rfl 29 (.tmp 12) rfl w2x.heap.size 0 rfl (bvs rb) _ R2.out Try.underlying29 rfl Hsz.out ?_)
                    | fail)
                  exact ⟨⟨x + 1, by omega, rfl, HE.out.below HWB.out, HB.out.next HWB.out⟩, by simp [intOf]; omega⟩
                · have hxn' : decide (x ≤ (N : Int)) = false := by simp; omega
                  have hwk := wakes_any wr
                  go_wp2_with fail
                  (with_reducible refine hwk.mono ?_)
                  clear hwk
                  rintro e w6 ⟨rfl, hb6⟩
                  have HB6 := Lib.hid (HB.out.next hb6)
                  clear hb6
                  go_wp2_with fail
                  go_ret
                  exact ⟨rfl, HB6.out⟩
end Cam
