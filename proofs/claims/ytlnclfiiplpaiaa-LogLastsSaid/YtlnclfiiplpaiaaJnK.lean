import Derived.Test.YtlnclfiiplpaiaaJnI
/- cambistkeep.Rows. -/
namespace Cam
open Go Go.RowKit Go.Proofs

set_option maxRecDepth 100000 in
set_option maxHeartbeats 1600000 in
theorem Rows_any (w : World) (va vb : Value) (la lb : List (List UInt8)) (ha : Bss w va la) (hb : Bss w vb lb) (hn : la.length ≤ 1000000) :
    Calls Try.prog 18 #[va, vb] w fun e w' => e = .returned (.bool (decide (la = lb))) ∧ Below w.heap.size w w' := by
  obtain ⟨aa, ca, rfl, hca, hma⟩ := ha.len
  obtain ⟨ab, cb, rfl, hcb, hmb⟩ := hb.len
  by_cases hl : la.length = lb.length
  · obtain ⟨N, hN⟩ : ∃ z, z = la.length := ⟨_, rfl⟩
    rw [← hl] at hb hcb ⊢
    rw [← hN] at ha hb hca hcb hn ⊢
    have HL := Lib.hid (hN.trans hl)
    have HN := Lib.hid hN
    have HA := Lib.hid ha
    have HBB := Lib.hid hb
    have hnn : ((N : Int) != (N : Int)) = false := by simp
    clear hN hl ha hb
    go_enter Try.func18, Try.ntmps18
    go_wp2_with fail
    go_loopw [5] (fun i wr => ∃ k : Nat, k ≤ N ∧ i = .int .i64 k ∧ Hid (la.take k = lb.take k) ∧ Below w.heap.size w wr) (fun i _ => N - (intOf i).toNat)
    case atStart => exact ⟨0, Nat.zero_le _, rfl, rfl, Below.refl _ _⟩
    case round =>
      obtain ⟨k, hk, rfl, HTK, hbel⟩ := hrel
      have HB := Lib.hid hbel
      clear hbel
      by_cases hlt : k < N
      · have hka : k < la.length := by have := HN.out; omega
        have hkb : k < lb.length := by have := HL.out; omega
        obtain ⟨ba, oa, rfl, hxa⟩ := Bss.at1 (HA.out.mono HB.out) (by omega)
        obtain ⟨⟨s1, s2, s3⟩, hsa, hbx⟩ := hxa k hka
        obtain ⟨bb, ob, rfl, hxb⟩ := Bss.at1 (HBB.out.mono HB.out) (by omega)
        obtain ⟨⟨t1, t2, t3⟩, hsb, hby⟩ := hxb k hkb
        obtain ⟨x, hx⟩ : ∃ z, z = la[k] := ⟨_, rfl⟩
        obtain ⟨y, hy⟩ : ∃ z, z = lb[k] := ⟨_, rfl⟩
        rw [← hx] at hbx
        rw [← hy] at hby
        have HBX : Hid (Bs wr (.slice s1 s2 s3) x) := hbx
        have HBY : Hid (Bs wr (.slice t1 t2 t3) y) := hby
        have HCA : Hid (wr.cell? ⟨ba, oa + k, none⟩ = some (.slice s1 s2 s3)) := hsa
        have HCB : Hid (wr.cell? ⟨bb, ob + k, none⟩ = some (.slice t1 t2 t3)) := hsb
        obtain ⟨d, hd⟩ : ∃ z, z = decide (x = y) := ⟨_, rfl⟩
        have HEQ := Lib.hid hd.symm
        have HX := Lib.hid hx
        have HY := Lib.hid hy
        have hk0 : (0 : Int) ≤ k ∧ (k : Int) < N := by omega
        clear hxa hsa hbx hxb hsb hby hx hy hd
        go_upto_region 6 with fail
        refine wp_region_bl 10 (by kernel_rfl) ?_
        refine wpAnyU_take (i := 0) (oi := { dst := some 17, op := Op.move (Operand.tmp 0), type := 23, pos := "keep.go:24", after := #[], guard := none }) (v := (.slice (some ⟨ba, oa, none⟩) N ca)) rfl (by kernel_rfl) (by kernel_rfl) (by kernel_rfl) (by kernel_rfl) (by kernel_rfl) (fun _ _ _ h => h) (BL.cls wr) ?_ ?_
        · refine Or.inl ⟨rfl, fun w hSw => ?_⟩
          exact EffR.same (by go_simp)
        try simp only [Act.put, List.setIfInBounds_toArray, List.set_cons_zero, List.set_cons_succ]
        refine wpAnyU_take (i := 1) (oi := { dst := some 18, op := Op.move (Operand.tmp 5), type := 3, pos := "keep.go:24", after := #[], guard := none }) (v := (.int .i64 (k : Int))) rfl (by kernel_rfl) (by kernel_rfl) (by kernel_rfl) (by kernel_rfl) (by kernel_rfl) (fun _ _ _ h => h) (BL.cls wr) ?_ ?_
        · refine Or.inl ⟨rfl, fun w hSw => ?_⟩
          exact EffR.same (by go_simp)
        try simp only [Act.put, List.setIfInBounds_toArray, List.set_cons_zero, List.set_cons_succ]
        refine wpAnyU_take (i := 2) (oi := { dst := some 19, op := Op.indexAddr 23 (Operand.tmp 17) (Operand.tmp 18), type := 0, pos := "keep.go:24", after := #[{ on := 0, ground := Ground.data }, { on := 1, ground := Ground.data }], guard := none }) (v := (.pointer (some ⟨ba, oa + k, none⟩))) rfl (by kernel_rfl) (by kernel_rfl) (by kernel_rfl) (by kernel_rfl) (by kernel_rfl) (fun _ _ _ h => h) (BL.cls wr) ?_ ?_
        · refine Or.inl ⟨rfl, fun w hSw => ?_⟩
          exact EffR.same (by go_simp)
        try simp only [Act.put, List.setIfInBounds_toArray, List.set_cons_zero, List.set_cons_succ]
        refine wpAnyU_take (i := 3) (oi := { dst := some 20, op := Op.load 22 (Operand.tmp 19), type := 22, pos := "keep.go:24", after := #[{ on := 2, ground := Ground.data }], guard := none }) (v := (.slice s1 s2 s3)) rfl (by kernel_rfl) (by kernel_rfl) (by kernel_rfl) (by kernel_rfl) (by kernel_rfl) (fun _ _ _ h => h) (BL.cls wr) ?_ ?_
        · refine Or.inl ⟨rfl, fun w hSw => ?_⟩
          have e0 := BL.cell hSw HCA.out
          exact EffR.same (by go_simp)
        try simp only [Act.put, List.setIfInBounds_toArray, List.set_cons_zero, List.set_cons_succ]
        refine wpAnyU_take (i := 4) (oi := { dst := some 21, op := Op.move (Operand.tmp 1), type := 23, pos := "keep.go:24", after := #[], guard := none }) (v := (.slice (some ⟨bb, ob, none⟩) N cb)) rfl (by kernel_rfl) (by kernel_rfl) (by kernel_rfl) (by kernel_rfl) (by kernel_rfl) (fun _ _ _ h => h) (BL.cls wr) ?_ ?_
        · refine Or.inl ⟨rfl, fun w hSw => ?_⟩
          exact EffR.same (by go_simp)
        try simp only [Act.put, List.setIfInBounds_toArray, List.set_cons_zero, List.set_cons_succ]
        refine wpAnyU_take (i := 5) (oi := { dst := some 22, op := Op.move (Operand.tmp 5), type := 3, pos := "keep.go:24", after := #[], guard := none }) (v := (.int .i64 (k : Int))) rfl (by kernel_rfl) (by kernel_rfl) (by kernel_rfl) (by kernel_rfl) (by kernel_rfl) (fun _ _ _ h => h) (BL.cls wr) ?_ ?_
        · refine Or.inl ⟨rfl, fun w hSw => ?_⟩
          exact EffR.same (by go_simp)
        try simp only [Act.put, List.setIfInBounds_toArray, List.set_cons_zero, List.set_cons_succ]
        refine wpAnyU_take (i := 6) (oi := { dst := some 23, op := Op.indexAddr 23 (Operand.tmp 21) (Operand.tmp 22), type := 0, pos := "keep.go:24", after := #[{ on := 4, ground := Ground.data }, { on := 5, ground := Ground.data }], guard := none }) (v := (.pointer (some ⟨bb, ob + k, none⟩))) rfl (by kernel_rfl) (by kernel_rfl) (by kernel_rfl) (by kernel_rfl) (by kernel_rfl) (fun _ _ _ h => h) (BL.cls wr) ?_ ?_
        · refine Or.inl ⟨rfl, fun w hSw => ?_⟩
          exact EffR.same (by go_simp)
        try simp only [Act.put, List.setIfInBounds_toArray, List.set_cons_zero, List.set_cons_succ]
        refine wpAnyU_take (i := 7) (oi := { dst := some 24, op := Op.load 22 (Operand.tmp 23), type := 22, pos := "keep.go:24", after := #[{ on := 6, ground := Ground.data }], guard := none }) (v := (.slice t1 t2 t3)) rfl (by kernel_rfl) (by kernel_rfl) (by kernel_rfl) (by kernel_rfl) (by kernel_rfl) (fun _ _ _ h => h) (BL.cls wr) ?_ ?_
        · refine Or.inl ⟨rfl, fun w hSw => ?_⟩
          have e0 := BL.cell hSw HCB.out
          exact EffR.same (by go_simp)
        try simp only [Act.put, List.setIfInBounds_toArray, List.set_cons_zero, List.set_cons_succ]
        refine wpAnyU_ready (rs := [8]) (by kernel_rfl) (by simp) ?_
        refine AllReadyU.cons (o := { dst := some 25, op := Op.call { callee := Callee.value (Operand.func 23), args := #[Operand.tmp 20, Operand.tmp 24], argTypes := #[22, 22] }, type := 4, pos := "keep.go:24", after := #[{ on := 3, ground := Ground.data }, { on := 7, ground := Ground.data }], guard := none }) rfl (fun wA8 hA8 K hK => ?_) AllReadyU.nil
        have hb9 := Bytes_any wA8 (.slice s1 s2 s3) (.slice t1 t2 t3) x y (Bs.mono HBX.out hA8) (Bs.mono HBY.out hA8)
        rw [HEQ.out] at hb9
        go_simp
        refine hb9.mono ?_
        rintro e0 w5 ⟨rfl, hb5⟩
        refine hK.out _ _ (BL wr) (BL.cls wr) (Below.next hA8 hb5) ?_
        clear hb9 hb5
        clear hK K
        try simp only [Act.put, List.setIfInBounds_toArray, List.set_cons_zero, List.set_cons_succ]
        refine wpAnyU_take (i := 9) (oi := { dst := some 26, op := Op.unOp UnOp.not 4 (Operand.tmp 25), type := 4, pos := "keep.go:24", after := #[{ on := 8, ground := Ground.data }], guard := none }) (v := (.bool (!d))) rfl (by kernel_rfl) (by kernel_rfl) (by kernel_rfl) (by kernel_rfl) (by kernel_rfl) (fun _ _ _ h => h) (BL.cls wr) ?_ ?_
        · refine Or.inl ⟨rfl, fun w hSw => ?_⟩
          exact EffR.same (by go_simp)
        try simp only [Act.put, List.setIfInBounds_toArray, List.set_cons_zero, List.set_cons_succ]
        refine wpAnyU_done (by kernel_rfl) (fun w1 hb1 => ?_) _
        have HB1 := Lib.hid hb1
        clear hb1
        cases d with
        | true =>
          go_wp2_with fail
          refine ⟨⟨k + 1, by omega, by push_cast; rfl, ?_, Below.next' HB.out HB1.out (Nat.le_refl _)⟩, by simp [intOf]; omega⟩
          have hxy : x = y := by simpa using HEQ.out
          show _ = _
          rw [take_snoc la k hka, take_snoc lb k hkb, HTK.out, ← HX.out, ← HY.out, hxy]
        | false =>
          go_wp2_with fail
          go_ret
          have hne : la ≠ lb := fun e => by
            have hxy : x ≠ y := by simpa using HEQ.out
            refine hxy ?_
            rw [HX.out, HY.out]
            simp only [e]
          exact ⟨by rw [decide_eq_false hne]; rfl, Below.next' HB.out HB1.out (Nat.le_refl _)⟩
      · obtain rfl : k = N := by omega
        have hall : la = lb := by
          have h9 := HTK.out
          rwa [List.take_of_length_le (by have := HN.out; omega), List.take_of_length_le (by have := HL.out; omega)] at h9
        have HALL := Lib.hid hall
        clear hall
        go_wp2_with fail
        go_ret
        exact ⟨by rw [decide_eq_true HALL.out]; rfl, HB.out⟩
  · have hl' : ((la.length : Int) != (lb.length : Int)) = true := by rw [bne_iff_ne]; omega
    have hne : la ≠ lb := fun e => hl (by rw [e])
    have HNE := Lib.hid hne
    clear hne ha hb
    go_enter Try.func18, Try.ntmps18
    go_wp2_with fail
    go_ret
    exact ⟨by rw [decide_eq_false HNE.out]; rfl, Below.refl _ _⟩
end Cam
