import Derived.Test.YtdenijpdkfnjeaaDeF
/- DiskExact: do. -/
namespace Cam
open Go Go.RowKit Go.Proofs

/-- an act on a disk; r: its kind -/
def actD (n : Nat) (D : DK) (r : Nat) (_do at_ : Int) (b : UInt8) (picks : List Int) (i : Nat) : DK :=
  if r = 3 then D else if r = 4 then (dSync D).2 else if r = 5 then dArm D at_ else if r = 6 then dCrash D picks else if r = 7 then dStart D else (dWriteR n D at_ (fillB b i)).2
theorem as_u64e (x : Int) : ∃ u : Nat, IntKind.u64.wrap x = (u : Int) ∧ u < 18446744073709551616 := by
  refine ⟨(IntKind.u64.wrap x).toNat, ?_, ?_⟩
  · rw [IntKind.wrap_u64]
    omega
  · rw [IntKind.wrap_u64]
    omega
def DoPost (B : Nat) (w : World) (g gp n : Nat) (D : DK) (at_ do_ : Int) (b : UInt8) (pk : List Int) (i : Nat) (e : Ending) (w' : World) : Prop :=
  e = .returned (.bool true) ∧ ∃ r, E3 B w' g gp n (actD n D r do_ at_ b pk i) (actD n D r do_ at_ b pk i) ∧ Below B w w'
set_option maxHeartbeats 6400000 in
set_option maxRecDepth 100000 in
theorem do_any {B : Nat} (w : World) (g gp n : Nat) (D : DK) (h : E3 B w g gp n D D) (hB : B ≤ w.heap.size) (do_ at_ : Int) (b : UInt8) (pv : Value) (pk : List Int) (i : Nat) (hi : i < 300) (hp : ∀ w', Below B w w' → Is w' pv pk) (hat : at_ ≤ 9223372036854775807) (hfu : D.now = sets D.syn D.op) (hto : D.torn = true → D.off = true) (hop : D.op.length < 1000000) :
    Calls Try.prog 23 #[.pointer (some ⟨g, 0, none⟩), .pointer (some ⟨gp, 0, none⟩), .agg #[.int .i64 do_, .int .i64 at_, .int .u8 (b.toNat : Int), pv], .int .i64 (i : Int)] w (DoPost B w g gp n D at_ do_ b pk i) := by
  obtain ⟨u, hu, hu64⟩ := as_u64e do_
  obtain ⟨r, hr, hr8⟩ : ∃ r : Nat, ((u : Int) % 8) = (r : Int) ∧ r < 8 := ⟨u % 8, by omega, by omega⟩
  obtain ⟨ap, cp, rfl, _, _⟩ := (hp w (Below.refl _ _)).shape
  obtain ⟨m, hm⟩ : ∃ z, z = pk.length := ⟨_, rfl⟩
  simp only [← hm] at hp ⊢
  clear hm
  suffices hmain : Calls Try.prog 23 #[.pointer (some ⟨g, 0, none⟩), .pointer (some ⟨gp, 0, none⟩), .agg #[.int .i64 do_, .int .i64 at_, .int .u8 (b.toNat : Int), .slice ap m cp], .int .i64 (i : Int)] w (fun e w' => e = .returned (.bool true) ∧ E3 B w' g gp n (actD n D r do_ at_ b pk i) (actD n D r do_ at_ b pk i) ∧ Below B w w') from hmain.mono (fun e w' q => ⟨q.1, r, q.2.1, q.2.2⟩)
  have hbx : Below w.heap.size w (w.alloc (.cells #[.int .i64 do_, .int .i64 at_, .int .u8 (b.toNat : Int), .slice ap m cp] 52)) := (Below.refl _ _).alloc (Nat.le_refl _) _
  have hX : HT (w.alloc (.cells #[.int .i64 do_, .int .i64 at_, .int .u8 (b.toNat : Int), .slice ap m cp] 52)) w.heap.size 52 [Value.int .i64 do_, .int .i64 at_, .int .u8 (b.toNat : Int), .slice ap m cp] := HT.new
  have HE := Lib.hid h
  have HEA := Lib.hid (h.below hbx)
  have HBX := Lib.hid hbx
  have HBXB : Hid (Below B w (w.alloc (.cells #[.int .i64 do_, .int .i64 at_, .int .u8 (b.toNat : Int), .slice ap m cp] 52))) := hbx.mono hB
  have HX := Lib.hid hX
  have HB := Lib.hid hB
  have HP := Lib.hid hp
  have HAT := Lib.hid hat
  have HFU := Lib.hid hfu
  have HTO := Lib.hid hto
  have HOP := Lib.hid hop
  clear h hbx hX hB hp hat hfu hto hop
  rcases (by omega : r = 3 ∨ r = 4 ∨ r = 5 ∨ r = 6 ∨ r = 7 ∨ r < 3) with rfl | rfl | rfl | rfl | rfl | hr3
  · have HACT : Hid (actD n D 3 do_ at_ b pk i = D) := rfl
    have hrd := dread_e (w.alloc (.cells #[.int .i64 do_, .int .i64 at_, .int .u8 (b.toNat : Int), .slice ap m cp] 52)) g gp n D D HEA.out at_
    obtain ⟨rb, hrb⟩ : ∃ z, z = rdB n D at_ := ⟨_, rfl⟩
    obtain ⟨rr, hrr⟩ : ∃ z, z = dRight n D at_ := ⟨_, rfl⟩
    have hr64 : rb.length = 64 := by rw [hrb]; exact rdB_64 HE.out.okD.1 at_
    rw [← hrb, ← hrr] at hrd
    have HRB := Lib.hid hrb
    have HRR := Lib.hid hrr
    have H64 := Lib.hid hr64
    clear hrb hrr hr64
    go_enter Try.func23, Try.ntmps23
    go_wp2_with fail
    (with_reducible refine hrd.mono ?_)
    clear hrd
    rintro e w1 ⟨rfl, hb1⟩
    obtain ⟨q1, q2, q3⟩ := box_world1 w1 rb H64.out
    obtain ⟨W1, hW1⟩ : ∃ z, z = ((w1.alloc (.cells (bvs zero64).toArray 29)).setCells w1.heap.size 0 (bvs rb)) := ⟨_, rfl⟩
    have hwa : Below w.heap.size w W1 := by rw [hW1]; exact (HBX.out.next hb1).next q1
    have hxa : HT W1 w.heap.size 52 [Value.int .i64 do_, .int .i64 at_, .int .u8 (b.toNat : Int), .slice ap m cp] := by rw [hW1]; exact (HX.out.below hb1).below q1
    have hca := hxa.cell (j := 1) rfl
    rw [← hW1] at q2
    have HW1 := Lib.hid hW1
    have HWA := Lib.hid hwa
    have HQ2 := Lib.hid q2
    have HQ3 := Lib.hid q3
    have Hsz := Lib.hid (size64_of H64.out)
    have hun := Try.underlying29
    have hpr := pread_e W1 g gp n D D (HE.out.below hwa) HFU.out at_
    rw [← HRB.out, ← HRR.out] at hpr
    have heqb : ∀ w, (Op.equalIn 10000 29 (.agg (bvs rb).toArray) (.agg (bvs rb).toArray)).run Try.prog w = .ok true w := fun w => by
      have := blocks_eq w rb rb H64.out H64.out
      rw [decide_eq_true rfl] at this
      exact this
    clear hb1 q1 q2 q3 hwa hxa hW1
    go_wp2_with (first
      | (refine wpList_store_mid rfl 29 (.tmp 9) (.tmp 39) rfl w1.heap.size 0 (bvs rb).toArray rfl rfl HQ3.out (by simpa using Hsz.out) (all_oneCell_toArray (bs_oneCell _)) ?_; change wpList _ _ _ _ _ ((w1.alloc (.cells (bvs zero64).toArray 29)).setCells w1.heap.size 0 (bvs rb)); rw [← HW1.out])
      | fail)
    (with_reducible refine hpr.mono ?_)
    clear hpr hca
    rintro e w2 ⟨rfl, hb2⟩
    obtain ⟨q1, q2, q3⟩ := box_world1 w2 rb H64.out
    obtain ⟨W2, hW2⟩ : ∃ z, z = ((w2.alloc (.cells (bvs zero64).toArray 29)).setCells w2.heap.size 0 (bvs rb)) := ⟨_, rfl⟩
    have R1 : Hid (W2.rangeAt w1.heap.size 0 (bvs rb)) := by show World.rangeAt _ _ _ _; rw [hW2]; exact ((HQ2.out.below hb2).below q1).bytes
    have R2 : Hid (W2.rangeAt w2.heap.size 0 (bvs rb)) := by show World.rangeAt _ _ _ _; rw [hW2]; exact q2.bytes
    have HWB : Hid (Below w.heap.size w W2) := by show Below _ _ _; rw [hW2]; exact (HWA.out.next hb2).next q1
    have HW2 := Lib.hid hW2
    have HQ6 := Lib.hid q3
    clear hb2 q1 q2 q3 hW2
    go_wp2_with (first
      | (refine wpList_store_mid rfl 29 (.tmp 11) (.tmp 46) rfl w2.heap.size 0 (bvs rb).toArray rfl rfl HQ6.out (by simpa using Hsz.out) (all_oneCell_toArray (bs_oneCell _)) ?_; change wpList _ _ _ _ _ ((w2.alloc (.cells (bvs zero64).toArray 29)).setCells w2.heap.size 0 (bvs rb)); rw [← HW2.out])
      | (refine wpList_load_mid rfl 29 (.tmp 9) rfl w1.heap.size 0 rfl (bvs rb) _ R1.out Try.underlying29 rfl Hsz.out ?_)
      | (refine wpList_load_mid rfl 29 (.tmp 11) rfl w2.heap.size 0 rfl (bvs rb) _ R2.out Try.underlying29 rfl Hsz.out ?_)
      | fail)
    go_ret
    exact ⟨rfl, by rw [HACT.out]; exact HE.out.below HWB.out, HWB.out.mono HB.out⟩
  · have HACT : Hid (actD n D 4 do_ at_ b pk i = (dSync D).2) := rfl
    have hc1 := dsync_e w (w.alloc (.cells #[.int .i64 do_, .int .i64 at_, .int .u8 (b.toNat : Int), .slice ap m cp] 52)) g gp n D D HE.out HBX.out HB.out
    obtain ⟨D1, hD1⟩ : ∃ z, z = (dSync D).2 := ⟨_, rfl⟩
    obtain ⟨R1, hR1⟩ : ∃ z, z = (dSync D).1 := ⟨_, rfl⟩
    rw [← hD1, ← hR1] at hc1
    have HR1 := Lib.hid hR1
    clear hR1
    have HD1 := Lib.hid hD1
    clear hD1
    go_enter Try.func23, Try.ntmps23
    go_wp2_with fail
    (with_reducible refine hc1.mono ?_)
    clear hc1
    rintro e x1 ⟨rfl, he1, hk1⟩
    have HB1 : Hid (Below B w x1) := HBXB.out.trans (ES.below hk1 (Nat.le_trans HB.out HBXB.out.size))
    have hx1 := HX.out.keptJ hk1 (fun e => by have := e.2; omega)
    have hc2 := psync_e x1 x1 g gp n D1 D he1 (Below.refl _ _) (Nat.le_trans HB.out HB1.out.size)
    rw [← HD1.out, ← HR1.out] at hc2
    clear he1 hk1 hx1
    go_wp2_with fail
    (with_reducible refine hc2.mono ?_)
    clear hc2
    rintro e x2 ⟨rfl, he2, hk2⟩
    have HB2 : Hid (Below B w x2) := HB1.out.trans (ES.below hk2 (Nat.le_trans HB.out HB1.out.size))
    have HE2 := Lib.hid he2
    clear he2 hk2
    go_wp2_with fail
    go_ret
    exact ⟨rfl, by rw [HACT.out, ← HD1.out]; exact HE2.out, HB2.out⟩
  · have HACT : Hid (actD n D 5 do_ at_ b pk i = dArm D at_) := rfl
    have hc1 := darm_e w (w.alloc (.cells #[.int .i64 do_, .int .i64 at_, .int .u8 (b.toNat : Int), .slice ap m cp] 52)) g gp n D D HE.out HBX.out HB.out at_ HAT.out
    obtain ⟨D1, hD1⟩ : ∃ z, z = dArm D at_ := ⟨_, rfl⟩
    rw [← hD1] at hc1
    have HD1 := Lib.hid hD1
    clear hD1
    go_enter Try.func23, Try.ntmps23
    go_wp2_with fail
    (with_reducible refine hc1.mono ?_)
    clear hc1
    rintro e x1 ⟨rfl, he1, hk1⟩
    have HB1 : Hid (Below B w x1) := HBXB.out.trans (ES.below hk1 (Nat.le_trans HB.out HBXB.out.size))
    have hx1 := HX.out.keptJ hk1 (fun e => by have := e.2; omega)
    have hcb := hx1.cell (j := 1) rfl
    have hc2 := parm_e x1 x1 g gp n D1 D he1 (Below.refl _ _) (Nat.le_trans HB.out HB1.out.size) at_ HAT.out
    rw [← HD1.out] at hc2
    clear he1 hk1 hx1
    go_wp2_with fail
    (with_reducible refine hc2.mono ?_)
    clear hc2
    rintro e x2 ⟨rfl, he2, hk2⟩
    have HB2 : Hid (Below B w x2) := HB1.out.trans (ES.below hk2 (Nat.le_trans HB.out HB1.out.size))
    have HE2 := Lib.hid he2
    clear he2 hk2
    go_wp2_with fail
    go_ret
    exact ⟨rfl, by rw [HACT.out, ← HD1.out]; exact HE2.out, HB2.out⟩
  · have HACT : Hid (actD n D 6 do_ at_ b pk i = dCrash D pk) := rfl
    have hc1 := dcrash_e w (w.alloc (.cells #[.int .i64 do_, .int .i64 at_, .int .u8 (b.toNat : Int), .slice ap m cp] 52)) g gp n D D HE.out HBX.out HB.out _ pk (fun w' hk => HP.out w' (HBXB.out.trans (ES.below hk (Nat.le_trans HB.out HBXB.out.size))))
    obtain ⟨D1, hD1⟩ : ∃ z, z = dCrash D pk := ⟨_, rfl⟩
    rw [← hD1] at hc1
    have HD1 := Lib.hid hD1
    clear hD1
    go_enter Try.func23, Try.ntmps23
    go_wp2_with fail
    (with_reducible refine hc1.mono ?_)
    clear hc1
    rintro e x1 ⟨rfl, he1, hk1⟩
    have HB1 : Hid (Below B w x1) := HBXB.out.trans (ES.below hk1 (Nat.le_trans HB.out HBXB.out.size))
    have hx1 := HX.out.keptJ hk1 (fun e => by have := e.2; omega)
    have hcb := hx1.cell (j := 3) rfl
    have hc2 := pcrash_e x1 x1 g gp n D1 D he1 (Below.refl _ _) (Nat.le_trans HB.out HB1.out.size) _ pk (fun w' hk => HP.out w' (HB1.out.trans (ES.below hk (Nat.le_trans HB.out HB1.out.size))))
    rw [← HD1.out] at hc2
    clear he1 hk1 hx1
    go_wp2_with fail
    (with_reducible refine hc2.mono ?_)
    clear hc2
    rintro e x2 ⟨rfl, he2, hk2⟩
    have HB2 : Hid (Below B w x2) := HB1.out.trans (ES.below hk2 (Nat.le_trans HB.out HB1.out.size))
    have HE2 := Lib.hid he2
    clear he2 hk2
    go_wp2_with fail
    go_ret
    exact ⟨rfl, by rw [HACT.out, ← HD1.out]; exact HE2.out, HB2.out⟩
  · have HACT : Hid (actD n D 7 do_ at_ b pk i = dStart D) := rfl
    have hc1 := dstart_e w (w.alloc (.cells #[.int .i64 do_, .int .i64 at_, .int .u8 (b.toNat : Int), .slice ap m cp] 52)) g gp n D D HE.out HBX.out HB.out
    obtain ⟨D1, hD1⟩ : ∃ z, z = dStart D := ⟨_, rfl⟩
    rw [← hD1] at hc1
    have HD1 := Lib.hid hD1
    clear hD1
    go_enter Try.func23, Try.ntmps23
    go_wp2_with fail
    (with_reducible refine hc1.mono ?_)
    clear hc1
    rintro e x1 ⟨rfl, he1, hk1⟩
    have HB1 : Hid (Below B w x1) := HBXB.out.trans (ES.below hk1 (Nat.le_trans HB.out HBXB.out.size))
    have hx1 := HX.out.keptJ hk1 (fun e => by have := e.2; omega)
    have hc2 := pstart_e x1 x1 g gp n D1 D he1 (Below.refl _ _) (Nat.le_trans HB.out HB1.out.size) HTO.out
    rw [← HD1.out] at hc2
    clear he1 hk1 hx1
    go_wp2_with fail
    (with_reducible refine hc2.mono ?_)
    clear hc2
    rintro e x2 ⟨rfl, he2, hk2⟩
    have HB2 : Hid (Below B w x2) := HB1.out.trans (ES.below hk2 (Nat.le_trans HB.out HB1.out.size))
    have HE2 := Lib.hid he2
    clear he2 hk2
    go_wp2_with fail
    go_ret
    exact ⟨rfl, by rw [HACT.out, ← HD1.out]; exact HE2.out, HB2.out⟩
  · have HACT : Hid (actD n D r do_ at_ b pk i = (dWriteR n D at_ (fillB b i)).2) := by show actD n D r do_ at_ b pk i = _; unfold actD; rw [if_neg (by omega), if_neg (by omega), if_neg (by omega), if_neg (by omega), if_neg (by omega)]
    have n3 : ((r : Int) == 3) = false := by rw [beq_eq_false_iff_ne]; omega
    have n4 : ((r : Int) == 4) = false := by rw [beq_eq_false_iff_ne]; omega
    have n5 : ((r : Int) == 5) = false := by rw [beq_eq_false_iff_ne]; omega
    have n6 : ((r : Int) == 6) = false := by rw [beq_eq_false_iff_ne]; omega
    have n7 : ((r : Int) == 7) = false := by rw [beq_eq_false_iff_ne]; omega
    obtain ⟨fb, hfb⟩ : ∃ z, z = fillB b i := ⟨_, rfl⟩
    have HF64 : Hid (fb.length = 64) := by show _ = _; rw [hfb]; exact fillB_length b i
    have HFB := Lib.hid hfb
    rw [← hfb] at HACT
    obtain ⟨D1, hD1⟩ : ∃ z, z = (dWriteR n D at_ fb).2 := ⟨_, rfl⟩
    obtain ⟨R1, hR1⟩ : ∃ z, z = (dWriteR n D at_ fb).1 := ⟨_, rfl⟩
    have HD1 := Lib.hid hD1
    have HR1 := Lib.hid hR1
    obtain ⟨gx, hgx⟩ : ∃ z, z = w.heap.size := ⟨_, rfl⟩
    obtain ⟨W, hW⟩ : ∃ z, z = w.alloc (.cells #[.int .i64 do_, .int .i64 at_, .int .u8 (b.toNat : Int), .slice ap m cp] 52) := ⟨_, rfl⟩
    have HEW : Hid (EP (fun k => B ≤ k ∧ k ≠ gx) W g gp n D D) := by show EP _ _ _ _ _ _ _; rw [hW]; exact (HE.out.ep hgx).below HBX.out
    have HXW : Hid (HT W gx 52 [Value.int .i64 do_, .int .i64 at_, .int .u8 (b.toNat : Int), .slice ap m cp]) := by show HT _ _ _ _; rw [hW, hgx]; exact HX.out
    have HBW : Hid (Below B w W) := by show Below _ _ _; rw [hW]; exact HBXB.out
    have HPW : Hid (∀ k, W.heap.size ≤ k → B ≤ k ∧ k ≠ gx) := fun k hk => by
      have h1 := HXW.out.lt
      have h2 := HBW.out.size
      have h3 := HB.out
      exact ⟨by omega, by omega⟩
    have HS0 : Hid (W.cell? ⟨gx, 1, none⟩ = some (.int .i64 at_) ∧ W.rangeAt gx 0 [Value.int .i64 do_, .int .i64 at_, .int .u8 (b.toNat : Int), .slice ap m cp]) := ⟨HXW.out.cell rfl, HXW.out.hc.range 0 (fun j v hv => by rw [Nat.zero_add]; exact hv)⟩
    have HSZA : Hid ((Try.prog.info? 52).map (·.size) = some [Value.int .i64 do_, .int .i64 at_, .int .u8 (b.toNat : Int), .slice ap m cp].length) := by show _ = _; kernel_rfl
    clear hfb hD1 hR1
    go_enter Try.func23, Try.ntmps23
    go_wp2_with fail
    rw [← hW, ← hgx]
    clear hW hgx n3 n4 n5 n6 n7
    refine wp_region_uni (S0 := (fun x => x.cell? ⟨gx, 1, none⟩ = some (.int .i64 at_) ∧ x.rangeAt gx 0 [Value.int .i64 do_, .int .i64 at_, .int .u8 (b.toNat : Int), .slice ap m cp])) (S := BL W) 16 (by kernel_rfl) (Below.refl _ _).drew ?_
    refine wpAnyU_take (i := 0) (oi := { dst := some 17, op := Op.move (Operand.tmp 0), type := 24, pos := "law.go:81", after := #[], guard := none }) (v := (.pointer (some ⟨g, 0, none⟩))) rfl (by kernel_rfl) (by kernel_rfl) (by kernel_rfl) (by kernel_rfl) (by kernel_rfl) (fun _ _ _ h => h) (⟨fun x h => ⟨BL.cell h HS0.out.1, fun j v hv => BL.cell h (HS0.out.2 j v hv)⟩, fun _ _ h hb => Below.next h hb⟩ : Cls (fun x => x.cell? ⟨gx, 1, none⟩ = some (.int .i64 at_) ∧ x.rangeAt gx 0 [Value.int .i64 do_, .int .i64 at_, .int .u8 (b.toNat : Int), .slice ap m cp]) (BL W)) ?_ ?_
    · refine Or.inl ⟨rfl, fun w hSw => ?_⟩
      exact EffR.same (by go_simp)
    try simp only [Act.put, List.setIfInBounds_toArray, List.set_cons_zero, List.set_cons_succ]
    refine wpAnyU_take (i := 1) (oi := { dst := some 18, op := Op.fieldAddr 52 (Operand.tmp 6) 1, type := 0, pos := "law.go:81", after := #[], guard := none }) (v := (.pointer (some ⟨gx, 1, none⟩))) rfl (by kernel_rfl) (by kernel_rfl) (by kernel_rfl) (by kernel_rfl) (by kernel_rfl) (fun _ _ _ h => h) (⟨fun x h => ⟨BL.cell h HS0.out.1, fun j v hv => BL.cell h (HS0.out.2 j v hv)⟩, fun _ _ h hb => Below.next h hb⟩ : Cls (fun x => x.cell? ⟨gx, 1, none⟩ = some (.int .i64 at_) ∧ x.rangeAt gx 0 [Value.int .i64 do_, .int .i64 at_, .int .u8 (b.toNat : Int), .slice ap m cp]) (BL W)) ?_ ?_
    · refine Or.inl ⟨rfl, fun w hSw => ?_⟩
      exact EffR.same (by go_simp)
    try simp only [Act.put, List.setIfInBounds_toArray, List.set_cons_zero, List.set_cons_succ]
    refine wpAnyU_take (i := 2) (oi := { dst := some 19, op := Op.load 3 (Operand.tmp 18), type := 3, pos := "law.go:81", after := #[{ on := 1, ground := Ground.data }], guard := none }) (v := (.int .i64 at_)) rfl (by kernel_rfl) (by kernel_rfl) (by kernel_rfl) (by kernel_rfl) (by kernel_rfl) (fun _ _ _ h => h) (⟨fun x h => ⟨BL.cell h HS0.out.1, fun j v hv => BL.cell h (HS0.out.2 j v hv)⟩, fun _ _ h hb => Below.next h hb⟩ : Cls (fun x => x.cell? ⟨gx, 1, none⟩ = some (.int .i64 at_) ∧ x.rangeAt gx 0 [Value.int .i64 do_, .int .i64 at_, .int .u8 (b.toNat : Int), .slice ap m cp]) (BL W)) ?_ ?_
    · refine Or.inl ⟨rfl, fun w hSw => ?_⟩
      have e0 := hSw.1
      exact EffR.same (by go_simp)
    try simp only [Act.put, List.setIfInBounds_toArray, List.set_cons_zero, List.set_cons_succ]
    refine wpAnyU_take (i := 3) (oi := { dst := some 20, op := Op.load 52 (Operand.tmp 6), type := 52, pos := "law.go:81", after := #[], guard := none }) (v := (.agg #[.int .i64 do_, .int .i64 at_, .int .u8 (b.toNat : Int), .slice ap m cp])) rfl (by kernel_rfl) (by kernel_rfl) (by kernel_rfl) (by kernel_rfl) (by kernel_rfl) (fun _ _ _ h => h) (⟨fun x h => ⟨BL.cell h HS0.out.1, fun j v hv => BL.cell h (HS0.out.2 j v hv)⟩, fun _ _ h hb => Below.next h hb⟩ : Cls (fun x => x.cell? ⟨gx, 1, none⟩ = some (.int .i64 at_) ∧ x.rangeAt gx 0 [Value.int .i64 do_, .int .i64 at_, .int .u8 (b.toNat : Int), .slice ap m cp]) (BL W)) ?_ ?_
    · refine Or.inl ⟨rfl, fun w hSw => ?_⟩
      exact eff_load_midP 52 (.tmp 6) rfl gx 0 rfl [Value.int .i64 do_, .int .i64 at_, .int .u8 (b.toNat : Int), .slice ap m cp] _ hSw.2 Try.underlying52 rfl HSZA.out
    try simp only [Act.put, List.setIfInBounds_toArray, List.set_cons_zero, List.set_cons_succ]
    refine wpAnyU_take (i := 4) (oi := { dst := some 21, op := Op.move (Operand.tmp 3), type := 3, pos := "law.go:81", after := #[], guard := none }) (v := (.int .i64 (i : Int))) rfl (by kernel_rfl) (by kernel_rfl) (by kernel_rfl) (by kernel_rfl) (by kernel_rfl) (fun _ _ _ h => h) (⟨fun x h => ⟨BL.cell h HS0.out.1, fun j v hv => BL.cell h (HS0.out.2 j v hv)⟩, fun _ _ h hb => Below.next h hb⟩ : Cls (fun x => x.cell? ⟨gx, 1, none⟩ = some (.int .i64 at_) ∧ x.rangeAt gx 0 [Value.int .i64 do_, .int .i64 at_, .int .u8 (b.toNat : Int), .slice ap m cp]) (BL W)) ?_ ?_
    · refine Or.inl ⟨rfl, fun w hSw => ?_⟩
      exact EffR.same (by go_simp)
    try simp only [Act.put, List.setIfInBounds_toArray, List.set_cons_zero, List.set_cons_succ]
    refine wpAnyU_take (i := 5) (oi := { dst := some 22, op := Op.call { callee := Callee.value (Operand.func 32), args := #[Operand.tmp 20, Operand.tmp 21], argTypes := #[52, 3] }, type := 29, pos := "law.go:81", after := #[{ on := 3, ground := Ground.data }, { on := 4, ground := Ground.data }], guard := none }) (v := (.agg (bvs fb).toArray)) rfl (by kernel_rfl) (by kernel_rfl) (by kernel_rfl) (by kernel_rfl) (by kernel_rfl) (fun _ _ _ h => h) (⟨fun x h => ⟨BL.cell h HS0.out.1, fun j v hv => BL.cell h (HS0.out.2 j v hv)⟩, fun _ _ h hb => Below.next h hb⟩ : Cls (fun x => x.cell? ⟨gx, 1, none⟩ = some (.int .i64 at_) ∧ x.rangeAt gx 0 [Value.int .i64 do_, .int .i64 at_, .int .u8 (b.toNat : Int), .slice ap m cp]) (BL W)) ?_ ?_
    · refine Or.inl ⟨rfl, fun w hSw => ?_⟩
      go_simp
      show Calls _ _ _ _ _
      refine (fill_any _ do_ at_ b (.slice ap m cp) i hi).mono ?_
      rintro e w1 ⟨he, hb⟩
      rw [← HFB.out] at he
      subst he
      exact ⟨rfl, hb⟩
    try simp only [Act.put, List.setIfInBounds_toArray, List.set_cons_zero, List.set_cons_succ]
    refine wpAnyU_take (i := 7) (oi := { dst := some 24, op := Op.move (Operand.tmp 1), type := 48, pos := "law.go:81", after := #[], guard := none }) (v := (.pointer (some ⟨gp, 0, none⟩))) rfl (by kernel_rfl) (by kernel_rfl) (by kernel_rfl) (by kernel_rfl) (by kernel_rfl) (fun _ _ _ h => h) (⟨fun x h => ⟨BL.cell h HS0.out.1, fun j v hv => BL.cell h (HS0.out.2 j v hv)⟩, fun _ _ h hb => Below.next h hb⟩ : Cls (fun x => x.cell? ⟨gx, 1, none⟩ = some (.int .i64 at_) ∧ x.rangeAt gx 0 [Value.int .i64 do_, .int .i64 at_, .int .u8 (b.toNat : Int), .slice ap m cp]) (BL W)) ?_ ?_
    · refine Or.inl ⟨rfl, fun w hSw => ?_⟩
      exact EffR.same (by go_simp)
    try simp only [Act.put, List.setIfInBounds_toArray, List.set_cons_zero, List.set_cons_succ]
    refine wpAnyU_take (i := 8) (oi := { dst := some 25, op := Op.fieldAddr 52 (Operand.tmp 6) 1, type := 0, pos := "law.go:81", after := #[], guard := none }) (v := (.pointer (some ⟨gx, 1, none⟩))) rfl (by kernel_rfl) (by kernel_rfl) (by kernel_rfl) (by kernel_rfl) (by kernel_rfl) (fun _ _ _ h => h) (⟨fun x h => ⟨BL.cell h HS0.out.1, fun j v hv => BL.cell h (HS0.out.2 j v hv)⟩, fun _ _ h hb => Below.next h hb⟩ : Cls (fun x => x.cell? ⟨gx, 1, none⟩ = some (.int .i64 at_) ∧ x.rangeAt gx 0 [Value.int .i64 do_, .int .i64 at_, .int .u8 (b.toNat : Int), .slice ap m cp]) (BL W)) ?_ ?_
    · refine Or.inl ⟨rfl, fun w hSw => ?_⟩
      exact EffR.same (by go_simp)
    try simp only [Act.put, List.setIfInBounds_toArray, List.set_cons_zero, List.set_cons_succ]
    refine wpAnyU_take (i := 9) (oi := { dst := some 26, op := Op.load 3 (Operand.tmp 25), type := 3, pos := "law.go:81", after := #[{ on := 8, ground := Ground.data }], guard := none }) (v := (.int .i64 at_)) rfl (by kernel_rfl) (by kernel_rfl) (by kernel_rfl) (by kernel_rfl) (by kernel_rfl) (fun _ _ _ h => h) (⟨fun x h => ⟨BL.cell h HS0.out.1, fun j v hv => BL.cell h (HS0.out.2 j v hv)⟩, fun _ _ h hb => Below.next h hb⟩ : Cls (fun x => x.cell? ⟨gx, 1, none⟩ = some (.int .i64 at_) ∧ x.rangeAt gx 0 [Value.int .i64 do_, .int .i64 at_, .int .u8 (b.toNat : Int), .slice ap m cp]) (BL W)) ?_ ?_
    · refine Or.inl ⟨rfl, fun w hSw => ?_⟩
      have e0 := hSw.1
      exact EffR.same (by go_simp)
    try simp only [Act.put, List.setIfInBounds_toArray, List.set_cons_zero, List.set_cons_succ]
    refine wpAnyU_take (i := 10) (oi := { dst := some 27, op := Op.load 52 (Operand.tmp 6), type := 52, pos := "law.go:81", after := #[], guard := none }) (v := (.agg #[.int .i64 do_, .int .i64 at_, .int .u8 (b.toNat : Int), .slice ap m cp])) rfl (by kernel_rfl) (by kernel_rfl) (by kernel_rfl) (by kernel_rfl) (by kernel_rfl) (fun _ _ _ h => h) (⟨fun x h => ⟨BL.cell h HS0.out.1, fun j v hv => BL.cell h (HS0.out.2 j v hv)⟩, fun _ _ h hb => Below.next h hb⟩ : Cls (fun x => x.cell? ⟨gx, 1, none⟩ = some (.int .i64 at_) ∧ x.rangeAt gx 0 [Value.int .i64 do_, .int .i64 at_, .int .u8 (b.toNat : Int), .slice ap m cp]) (BL W)) ?_ ?_
    · refine Or.inl ⟨rfl, fun w hSw => ?_⟩
      exact eff_load_midP 52 (.tmp 6) rfl gx 0 rfl [Value.int .i64 do_, .int .i64 at_, .int .u8 (b.toNat : Int), .slice ap m cp] _ hSw.2 Try.underlying52 rfl HSZA.out
    try simp only [Act.put, List.setIfInBounds_toArray, List.set_cons_zero, List.set_cons_succ]
    refine wpAnyU_take (i := 11) (oi := { dst := some 28, op := Op.move (Operand.tmp 3), type := 3, pos := "law.go:81", after := #[], guard := none }) (v := (.int .i64 (i : Int))) rfl (by kernel_rfl) (by kernel_rfl) (by kernel_rfl) (by kernel_rfl) (by kernel_rfl) (fun _ _ _ h => h) (⟨fun x h => ⟨BL.cell h HS0.out.1, fun j v hv => BL.cell h (HS0.out.2 j v hv)⟩, fun _ _ h hb => Below.next h hb⟩ : Cls (fun x => x.cell? ⟨gx, 1, none⟩ = some (.int .i64 at_) ∧ x.rangeAt gx 0 [Value.int .i64 do_, .int .i64 at_, .int .u8 (b.toNat : Int), .slice ap m cp]) (BL W)) ?_ ?_
    · refine Or.inl ⟨rfl, fun w hSw => ?_⟩
      exact EffR.same (by go_simp)
    try simp only [Act.put, List.setIfInBounds_toArray, List.set_cons_zero, List.set_cons_succ]
    refine wpAnyU_ready (rs := [6]) (by kernel_rfl) (by simp) ?_
    refine AllReadyU.cons (o := { dst := some 23, op := Op.call { callee := Callee.value (Operand.func 10), args := #[Operand.tmp 17, Operand.tmp 19, Operand.tmp 22], argTypes := #[24, 3, 29] }, type := 25, pos := "law.go:81", after := #[{ on := 0, ground := Ground.data }, { on := 2, ground := Ground.data }, { on := 5, ground := Ground.data }, { on := 5, ground := Ground.chain }], guard := none }) rfl (fun wA6 hA6 K hK => ?_) AllReadyU.nil
    have hs := dwrite_p W wA6 g gp n D D HEW.out hA6 HPW.out at_ fb HF64.out HOP.out
    rw [← HR1.out, ← HD1.out] at hs
    go_simp
    refine hs.mono ?_
    rintro e0 w3 ⟨rfl, he3, hk3⟩
    clear hs
    have HE3 := Lib.hid he3
    have hkw : Kept (fun k => B ≤ k ∧ k ≠ gx) wA6 w3 := hk3.weaken (fun k e => e.1)
    have HB3 : Hid (Below B w w3) := (HBW.out.trans (hA6.mono (Nat.le_trans HB.out HBW.out.size))).trans (hkw.below (fun k hk e => by have := e.1; omega) (Nat.le_trans HB.out (HBW.out.trans (hA6.mono (Nat.le_trans HB.out HBW.out.size))).size))
    have HX3 := Lib.hid ((HXW.out.below hA6).keptJ hkw (fun e => e.2 rfl))
    have HPW3 : Hid (∀ k, w3.heap.size ≤ k → B ≤ k ∧ k ≠ gx) := fun k hk => by
      have h1 := hk3.size
      have h2 := Below.size hA6
      exact HPW.out k (by omega)
    have HS3 : Hid (w3.cell? ⟨gx, 1, none⟩ = some (.int .i64 at_) ∧ w3.rangeAt gx 0 [Value.int .i64 do_, .int .i64 at_, .int .u8 (b.toNat : Int), .slice ap m cp]) := ⟨HX3.out.cell rfl, HX3.out.hc.range 0 (fun j v hv => by rw [Nat.zero_add]; exact hv)⟩
    refine hK.out _ _ (BL w3) (⟨fun x h => ⟨BL.cell h HS3.out.1, fun j v hv => BL.cell h (HS3.out.2 j v hv)⟩, fun _ _ h hb => Below.next h hb⟩ : Cls (fun x => x.cell? ⟨gx, 1, none⟩ = some (.int .i64 at_) ∧ x.rangeAt gx 0 [Value.int .i64 do_, .int .i64 at_, .int .u8 (b.toNat : Int), .slice ap m cp]) (BL w3)) (Below.refl _ _) ?_
    clear he3 hk3 hkw
    clear hK K
    try simp only [Act.put, List.setIfInBounds_toArray, List.set_cons_zero, List.set_cons_succ]
    refine wpAnyU_take (i := 12) (oi := { dst := some 29, op := Op.call { callee := Callee.value (Operand.func 32), args := #[Operand.tmp 27, Operand.tmp 28], argTypes := #[52, 3] }, type := 29, pos := "law.go:81", after := #[{ on := 10, ground := Ground.data }, { on := 11, ground := Ground.data }, { on := 6, ground := Ground.chain }], guard := none }) (v := (.agg (bvs fb).toArray)) rfl (by kernel_rfl) (by kernel_rfl) (by kernel_rfl) (by kernel_rfl) (by kernel_rfl) (fun _ _ _ h => h) (⟨fun x h => ⟨BL.cell h HS3.out.1, fun j v hv => BL.cell h (HS3.out.2 j v hv)⟩, fun _ _ h hb => Below.next h hb⟩ : Cls (fun x => x.cell? ⟨gx, 1, none⟩ = some (.int .i64 at_) ∧ x.rangeAt gx 0 [Value.int .i64 do_, .int .i64 at_, .int .u8 (b.toNat : Int), .slice ap m cp]) (BL w3)) ?_ ?_
    · refine Or.inl ⟨rfl, fun w hSw => ?_⟩
      go_simp
      show Calls _ _ _ _ _
      refine (fill_any _ do_ at_ b (.slice ap m cp) i hi).mono ?_
      rintro e w1 ⟨he, hb⟩
      rw [← HFB.out] at he
      subst he
      exact ⟨rfl, hb⟩
    try simp only [Act.put, List.setIfInBounds_toArray, List.set_cons_zero, List.set_cons_succ]
    refine wpAnyU_ready (rs := [13]) (by kernel_rfl) (by simp) ?_
    refine AllReadyU.cons (o := { dst := some 30, op := Op.call { callee := Callee.value (Operand.func 33), args := #[Operand.tmp 24, Operand.tmp 26, Operand.tmp 29], argTypes := #[48, 3, 29] }, type := 25, pos := "law.go:81", after := #[{ on := 7, ground := Ground.data }, { on := 9, ground := Ground.data }, { on := 12, ground := Ground.data }, { on := 12, ground := Ground.chain }], guard := none }) rfl (fun wA13 hA13 K hK => ?_) AllReadyU.nil
    have hs := pwrite_p w3 wA13 g gp n D1 D HE3.out hA13 HPW3.out at_ fb HF64.out HOP.out
    rw [← HR1.out, ← HD1.out] at hs
    go_simp
    refine hs.mono ?_
    rintro e0 w4 ⟨rfl, he4, hk4⟩
    clear hs
    have HE4 := Lib.hid he4
    have hkw : Kept (fun k => B ≤ k ∧ k ≠ gx) wA13 w4 := hk4.weaken (fun k e => e.1)
    have HB4 : Hid (Below B w w4) := (HB3.out.trans (hA13.mono (Nat.le_trans HB.out HB3.out.size))).trans (hkw.below (fun k hk e => by have := e.1; omega) (Nat.le_trans HB.out (HB3.out.trans (hA13.mono (Nat.le_trans HB.out HB3.out.size))).size))
    have hx4 := (HX3.out.below hA13).keptJ hkw (fun e => e.2 rfl)
    have HS4 : Hid (w4.cell? ⟨gx, 1, none⟩ = some (.int .i64 at_) ∧ w4.rangeAt gx 0 [Value.int .i64 do_, .int .i64 at_, .int .u8 (b.toNat : Int), .slice ap m cp]) := ⟨hx4.cell rfl, hx4.hc.range 0 (fun j v hv => by rw [Nat.zero_add]; exact hv)⟩
    refine hK.out _ _ (BL w4) (⟨fun x h => ⟨BL.cell h HS4.out.1, fun j v hv => BL.cell h (HS4.out.2 j v hv)⟩, fun _ _ h hb => Below.next h hb⟩ : Cls (fun x => x.cell? ⟨gx, 1, none⟩ = some (.int .i64 at_) ∧ x.rangeAt gx 0 [Value.int .i64 do_, .int .i64 at_, .int .u8 (b.toNat : Int), .slice ap m cp]) (BL w4)) (Below.refl _ _) ?_
    clear he4 hk4 hkw hx4
    clear hK K
    try simp only [Act.put, List.setIfInBounds_toArray, List.set_cons_zero, List.set_cons_succ]
    refine wpAnyU_take (i := 14) (oi := { dst := some 31, op := Op.binOp BinOp.eql 25 (Operand.tmp 23) (Operand.tmp 30) 25, type := 4, pos := "law.go:81", after := #[{ on := 6, ground := Ground.data }, { on := 13, ground := Ground.data }], guard := none }) (v := (.bool true)) rfl (by kernel_rfl) (by kernel_rfl) (by kernel_rfl) (by kernel_rfl) (by kernel_rfl) (fun _ _ _ h => h) (⟨fun x h => ⟨BL.cell h HS4.out.1, fun j v hv => BL.cell h (HS4.out.2 j v hv)⟩, fun _ _ h hb => Below.next h hb⟩ : Cls (fun x => x.cell? ⟨gx, 1, none⟩ = some (.int .i64 at_) ∧ x.rangeAt gx 0 [Value.int .i64 do_, .int .i64 at_, .int .u8 (b.toNat : Int), .slice ap m cp]) (BL w4)) ?_ ?_
    · refine Or.inl ⟨rfl, fun w hSw => ?_⟩
      exact EffR.same (by go_simp)
    try simp only [Act.put, List.setIfInBounds_toArray, List.set_cons_zero, List.set_cons_succ]
    refine wpAnyU_take (i := 15) (oi := { dst := some 8, op := Op.assign (Operand.tmp 31), type := 4, pos := "law.go:81", after := #[{ on := 14, ground := Ground.data }, { on := 13, ground := Ground.chain }, { on := 0, ground := Ground.phase }, { on := 1, ground := Ground.phase }, { on := 2, ground := Ground.phase }, { on := 3, ground := Ground.phase }, { on := 4, ground := Ground.phase }, { on := 5, ground := Ground.phase }, { on := 6, ground := Ground.phase }, { on := 7, ground := Ground.phase }, { on := 8, ground := Ground.phase }, { on := 9, ground := Ground.phase }, { on := 10, ground := Ground.phase }, { on := 11, ground := Ground.phase }, { on := 12, ground := Ground.phase }, { on := 13, ground := Ground.phase }, { on := 14, ground := Ground.phase }], guard := none }) (v := (.bool true)) rfl (by kernel_rfl) (by kernel_rfl) (by kernel_rfl) (by kernel_rfl) (by kernel_rfl) (fun _ _ _ h => h) (⟨fun x h => ⟨BL.cell h HS4.out.1, fun j v hv => BL.cell h (HS4.out.2 j v hv)⟩, fun _ _ h hb => Below.next h hb⟩ : Cls (fun x => x.cell? ⟨gx, 1, none⟩ = some (.int .i64 at_) ∧ x.rangeAt gx 0 [Value.int .i64 do_, .int .i64 at_, .int .u8 (b.toNat : Int), .slice ap m cp]) (BL w4)) ?_ ?_
    · refine Or.inl ⟨rfl, fun w hSw => ?_⟩
      exact EffR.same (by go_simp)
    try simp only [Act.put, List.setIfInBounds_toArray, List.set_cons_zero, List.set_cons_succ]
    refine wpAnyU_done (by kernel_rfl) (fun w1 hb1 => ?_) _
    have HE5 := Lib.hid (HE4.out.below hb1)
    have HB5 := Lib.hid (HB4.out.trans (hb1.mono (Nat.le_trans HB.out HB4.out.size)))
    clear hb1
    go_wp2_with fail
    go_ret
    exact ⟨rfl, by rw [HACT.out, ← HD1.out]; exact HE5.out.e3 (fun k e => e.1), HB5.out⟩
end Cam
