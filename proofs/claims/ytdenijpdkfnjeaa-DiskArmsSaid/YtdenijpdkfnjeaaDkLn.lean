import Derived.Test.YtdenijpdkfnjeaaDkLm
/- cambistlaw06: DiskArms, the walk. -/
namespace Cam
open Go Go.RowKit Go.Proofs

theorem drew1 {W : World} {x : Nat} {cs : List Value} (h : W.rangeAt x 0 cs) : W.drew.rangeAt x 0 cs := h
theorem keepR1 {W w1 : World} {x : Nat} {cs : List Value} (hb : Below W.heap.size W w1) (h : W.rangeAt x 0 cs) : w1.rangeAt x 0 cs :=
  fun j y hy => (hb.cell (World.block_lt_of_cell? W _ (h j y hy))).trans (h j y hy)
theorem ArmI.start (n : Int) : ArmI n 0 (dArm (dSynced (dPut (DK.new 4) 3 (fill64 9))) n) := by
  have e : dArm (dSynced (dPut (DK.new 4) 3 (fill64 9))) n = { dSynced (dPut (DK.new 4) 3 (fill64 9)) with arm := max n 0 } := by unfold dArm; rw [if_neg (by simp [dSynced, dPut, DK.new])]
  rw [e]
  refine ⟨?_, rfl, rfl, (fun x hx => by cases hx), Nat.le_refl _⟩
  by_cases h : n ≤ 0
  · exact .inl ⟨h, rfl, by show max n 0 = 0; omega⟩
  · exact .inr (.inl ⟨by omega, by push_cast; omega, rfl, by show max n 0 = n - ((0 : Nat) : Int); push_cast; omega⟩)

set_option maxRecDepth 100000 in
set_option maxHeartbeats 3200000 in
theorem DiskArms_walk (w : World) (n : Int) (v1 : Value) (sy : List Bool) (hn : -9223372036854775808 ≤ n ∧ n ≤ 9223372036854775807) (h1 : Ms w v1 sy) :
    Calls Try.prog 6 #[.int .i64 n, v1] w fun e w' => e = .returned (.bool true) ∧ Below w.heap.size w w' := by
  obtain ⟨as_, cs, rfl, hcs, hms⟩ := Sl.shape h1
  by_cases c2 : 300 < sy.length
  · have hi2 : (300 : Int) < (sy.length : Int) := by omega
    go_enter Try.func6, Try.ntmps6
    go_wp2_with fail
    go_ret
    exact ⟨rfl, Below.refl _ _⟩
  have hi2 : decide ((300 : Int) < (sy.length : Int)) = false := by simp; omega
  have hll : sy.length ≤ 300 := by omega
  clear c2
  have Hst := Lib.hid (ArmI.start n)
  go_enter Try.func6, Try.ntmps6
  go_wp2_with fail
  refine (New_ok w 4 (by omega) (by omega)).mono ?_
  rintro e w1 ⟨g, gs, gn, rfl, hd1, f1, f2, f3, hb1⟩
  have hfar : Far w.heap.size g gs gn (.slice none 0 0) := ⟨f3, f1, f2, fun k hk => by cases hk⟩
  have hs1 := hb1.size
  clear f1 f2 f3
  go_wp2_with (first
    | (go_at_call 11; refine (Block_fill _ 9).mono ?_; rintro e w2 ⟨rfl, hb2⟩; have hd2 := hd1.below hb2; have hbb2 := hb1.next hb2)
    | (go_at_call 10; refine (Write_on w2 g gs gn _ 4 _ hd2 3 (fill64 9) rfl rfl (by omega) (fill64_length 9) (by decide)).mono ?_; rintro e w3 ⟨rfl, vo3, hd3, hk3, ho3⟩; have hbb3 := hbb2.trans (hfar.below hk3 hbb2.size); have hfar3 := hfar.next ho3 hbb2.size)
    | (go_at_call 12; refine (Sync_on w3 g gs gn _ 4 _ hd3 rfl rfl).mono ?_; rintro e w4 ⟨rfl, vo4, hd4, hk4, ho4⟩; have hbb4 := hbb3.trans (hfar3.below hk4 hbb3.size); have hfar4 := hfar3.next ho4 hbb3.size)
    | (go_at_call 19; refine (Arm_any w4 g gs gn _ 4 _ hd4 n (by omega)).mono ?_; rintro e w5 ⟨rfl, hd5, hk5⟩)
    | fail)
  have hbb5 := hbb4.trans (hfar4.below (hk5.weaken (T := DS g gs gn vo4) (fun i e => .inl e)) hbb4.size)
  clear hd1 hb1 hb2 hd2 hbb2 hd3 hk3 ho3 hbb3 hfar hfar3 hd4 hk4 ho4 hbb4 hk5
  go_loopw [7] (fun i wr => ∃ (i' : Nat) (D : DK) (vo : Value), i' ≤ sy.length ∧ i = .int .i64 i' ∧ DM wr g gs gn vo 4 D ∧ Hid (ArmI n i' D) ∧ Far w.heap.size g gs gn vo ∧ Below w.heap.size w wr) (fun i _ => sy.length - (intOf i).toNat)
  case atStart => exact ⟨0, _, vo4, Nat.zero_le _, rfl, hd5, Hst.out, hfar4, hbb5⟩
  case round =>
    obtain ⟨i, D, vo, hi, rfl, hd, HI, hfar, hbel⟩ := hrel
    clear hd5 hfar4 hbb5
    by_cases hlt : i < sy.length
    · obtain ⟨bs_, offs, rfl, _, hcc⟩ := Ms.at (Sl.mono h1 hbel) (by omega)
      have hcsi := hcc i hlt
      obtain ⟨sb, hsb⟩ : ∃ sb, sb = sy[i] := ⟨_, rfl⟩
      rw [← hsb] at hcsi
      have HSB := Lib.hid hsb
      clear hcc hsb
      have hcase : (0 < n ∧ n - 1 ≤ (i : Int)) ∨ n ≤ 0 ∨ (0 < n ∧ (i : Int) < n - 1) := by omega
      rcases hcase with ⟨hp, hq⟩ | hp | ⟨hp, hq⟩
      · have hw1 : wrap64 (n - 1) = n - 1 := by unfold wrap64; omega
        have hq' : decide (n - 1 ≤ (i : Int)) = true := by simp; omega
        have hwant : wantA n i = 7 := by unfold wantA; rw [if_pos (by omega)]
        cases sb with
        | true =>
          obtain ⟨e1, e2⟩ := HI.out.sync
          have sc := Sync_any wr g gs gn _ 4 D hd
          rw [e1, hwant] at sc
          obtain ⟨D', hD'⟩ : ∃ D', D' = (dSync D).2 := ⟨_, rfl⟩
          rw [← hD'] at sc e2
          have HI2 := Lib.hid e2
          have Hfar := Lib.hid hfar
          clear e1 e2 hD' hwant hfar hd
          go_wp2_with (first | (go_at_call 12; refine sc.mono ?_; rintro e w3 ⟨rfl, vo3, hd3, hk3, ho3⟩; have hbb3 := hbel.trans (Hfar.out.below hk3 hbel.size); obtain ⟨b', o', e1, _, hc'⟩ := Ms.at (Sl.mono h1 hbb3) (by omega); cases e1; have hcs3 : w3.cell? ⟨bs_, offs + i, none⟩ = some (.bool true) := (by rw [show (true : Bool) = sy[i] from HSB.out]; exact hc' i hlt); clear hc') | fail)
          exact ⟨⟨i + 1, D', vo3, by omega, by push_cast; rfl, hd3, HI2.out, Hfar.out.next ho3 hbel.size, hbel.trans (Hfar.out.below hk3 hbel.size)⟩, by simp [intOf]; omega⟩
        | false =>
          obtain ⟨r, hr⟩ : ∃ r, r = i % 3 := ⟨_, rfl⟩
          have hr3 : r < 3 := by omega
          have hrt : (i : Int).tmod 3 = (r : Int) := by rw [Int.tmod_eq_emod_of_nonneg (by omega)]; omega
          have hre : (i : Int) % 3 = (r : Int) := by omega
          obtain ⟨c', he⟩ : ∃ c' : UInt8, ((i : Int)) % 256 = (c'.toNat : Int) := by
            refine ⟨UInt8.ofNat (i % 256), ?_⟩
            rw [UInt8.toNat_ofNat']
            omega
          have bl := Block_fill wr c'
          obtain ⟨e1, e2⟩ := HI.out.write (k := r) (by omega) (fill64 c')
          obtain ⟨D', hD'⟩ : ∃ D', D' = (dWrite D r (fill64 c')).2 := ⟨_, rfl⟩
          rw [← hD'] at e2
          have hopl := HI.out.2.2.2.2
          have wc : ∀ w3, Below wr.heap.size wr w3 → Calls Try.prog 10 #[.pointer (some ⟨g, 0, none⟩), .int .i64 (r : Int), .agg (bvs (fill64 c')).toArray] w3 fun e w' => e = .returned (.int .i64 7) ∧ DPost w3 g gs gn vo 4 D' w' := fun w3 hb => by
            have := Write_any w3 g gs gn _ 4 D (hd.below hb) r (fill64 c') (by omega) (fill64_length c') (by omega)
            rw [e1, hwant, ← hD'] at this
            exact this
          have HI2 := Lib.hid e2
          have Hfar := Lib.hid hfar
          have WC := Lib.hid wc
          clear e1 e2 hD' hwant hfar hd hr wc hopl
          go_wp2_with (first
            | (go_at_call 11; refine bl.mono ?_; rintro e w3 ⟨rfl, hb3⟩)
            | (go_at_call 10; refine (WC.out _ hb3).mono ?_; rintro e w4 ⟨rfl, vo4, hd4, hk4, ho4⟩)
            | fail)
          have hbb3 := hbel.next hb3
          exact ⟨⟨i + 1, D', vo4, by omega, by push_cast; rfl, hd4, HI2.out, Hfar.out.next ho4 hbb3.size, hbb3.trans (Hfar.out.below hk4 hbb3.size)⟩, by simp [intOf]; omega⟩
      · have hp' : decide (0 < n) = false := by simp; omega
        have hwant : wantA n i = 0 := by unfold wantA; rw [if_neg (by omega)]
        cases sb with
        | true =>
          obtain ⟨e1, e2⟩ := HI.out.sync
          have sc := Sync_any wr g gs gn _ 4 D hd
          rw [e1, hwant] at sc
          obtain ⟨D', hD'⟩ : ∃ D', D' = (dSync D).2 := ⟨_, rfl⟩
          rw [← hD'] at sc e2
          have HI2 := Lib.hid e2
          have Hfar := Lib.hid hfar
          clear e1 e2 hD' hwant hfar hd
          go_wp2_with (first | (go_at_call 12; refine sc.mono ?_; rintro e w3 ⟨rfl, vo3, hd3, hk3, ho3⟩; have hbb3 := hbel.trans (Hfar.out.below hk3 hbel.size); obtain ⟨b', o', e1, _, hc'⟩ := Ms.at (Sl.mono h1 hbb3) (by omega); cases e1; have hcs3 : w3.cell? ⟨bs_, offs + i, none⟩ = some (.bool true) := (by rw [show (true : Bool) = sy[i] from HSB.out]; exact hc' i hlt); clear hc') | fail)
          exact ⟨⟨i + 1, D', vo3, by omega, by push_cast; rfl, hd3, HI2.out, Hfar.out.next ho3 hbel.size, hbel.trans (Hfar.out.below hk3 hbel.size)⟩, by simp [intOf]; omega⟩
        | false =>
          obtain ⟨r, hr⟩ : ∃ r, r = i % 3 := ⟨_, rfl⟩
          have hr3 : r < 3 := by omega
          have hrt : (i : Int).tmod 3 = (r : Int) := by rw [Int.tmod_eq_emod_of_nonneg (by omega)]; omega
          have hre : (i : Int) % 3 = (r : Int) := by omega
          obtain ⟨c', he⟩ : ∃ c' : UInt8, ((i : Int)) % 256 = (c'.toNat : Int) := by
            refine ⟨UInt8.ofNat (i % 256), ?_⟩
            rw [UInt8.toNat_ofNat']
            omega
          have bl := Block_fill wr c'
          obtain ⟨e1, e2⟩ := HI.out.write (k := r) (by omega) (fill64 c')
          obtain ⟨D', hD'⟩ : ∃ D', D' = (dWrite D r (fill64 c')).2 := ⟨_, rfl⟩
          rw [← hD'] at e2
          have hopl := HI.out.2.2.2.2
          have wc : ∀ w3, Below wr.heap.size wr w3 → Calls Try.prog 10 #[.pointer (some ⟨g, 0, none⟩), .int .i64 (r : Int), .agg (bvs (fill64 c')).toArray] w3 fun e w' => e = .returned (.int .i64 0) ∧ DPost w3 g gs gn vo 4 D' w' := fun w3 hb => by
            have := Write_any w3 g gs gn _ 4 D (hd.below hb) r (fill64 c') (by omega) (fill64_length c') (by omega)
            rw [e1, hwant, ← hD'] at this
            exact this
          have HI2 := Lib.hid e2
          have Hfar := Lib.hid hfar
          have WC := Lib.hid wc
          clear e1 e2 hD' hwant hfar hd hr wc hopl
          go_wp2_with (first
            | (go_at_call 11; refine bl.mono ?_; rintro e w3 ⟨rfl, hb3⟩)
            | (go_at_call 10; refine (WC.out _ hb3).mono ?_; rintro e w4 ⟨rfl, vo4, hd4, hk4, ho4⟩)
            | fail)
          have hbb3 := hbel.next hb3
          exact ⟨⟨i + 1, D', vo4, by omega, by push_cast; rfl, hd4, HI2.out, Hfar.out.next ho4 hbb3.size, hbb3.trans (Hfar.out.below hk4 hbb3.size)⟩, by simp [intOf]; omega⟩
      · have hw1 : wrap64 (n - 1) = n - 1 := by unfold wrap64; omega
        have hq' : decide (n - 1 ≤ (i : Int)) = false := by simp; omega
        have hwant : wantA n i = 0 := by unfold wantA; rw [if_neg (by omega)]
        cases sb with
        | true =>
          obtain ⟨e1, e2⟩ := HI.out.sync
          have sc := Sync_any wr g gs gn _ 4 D hd
          rw [e1, hwant] at sc
          obtain ⟨D', hD'⟩ : ∃ D', D' = (dSync D).2 := ⟨_, rfl⟩
          rw [← hD'] at sc e2
          have HI2 := Lib.hid e2
          have Hfar := Lib.hid hfar
          clear e1 e2 hD' hwant hfar hd
          go_wp2_with (first | (go_at_call 12; refine sc.mono ?_; rintro e w3 ⟨rfl, vo3, hd3, hk3, ho3⟩; have hbb3 := hbel.trans (Hfar.out.below hk3 hbel.size); obtain ⟨b', o', e1, _, hc'⟩ := Ms.at (Sl.mono h1 hbb3) (by omega); cases e1; have hcs3 : w3.cell? ⟨bs_, offs + i, none⟩ = some (.bool true) := (by rw [show (true : Bool) = sy[i] from HSB.out]; exact hc' i hlt); clear hc') | fail)
          exact ⟨⟨i + 1, D', vo3, by omega, by push_cast; rfl, hd3, HI2.out, Hfar.out.next ho3 hbel.size, hbel.trans (Hfar.out.below hk3 hbel.size)⟩, by simp [intOf]; omega⟩
        | false =>
          obtain ⟨r, hr⟩ : ∃ r, r = i % 3 := ⟨_, rfl⟩
          have hr3 : r < 3 := by omega
          have hrt : (i : Int).tmod 3 = (r : Int) := by rw [Int.tmod_eq_emod_of_nonneg (by omega)]; omega
          have hre : (i : Int) % 3 = (r : Int) := by omega
          obtain ⟨c', he⟩ : ∃ c' : UInt8, ((i : Int)) % 256 = (c'.toNat : Int) := by
            refine ⟨UInt8.ofNat (i % 256), ?_⟩
            rw [UInt8.toNat_ofNat']
            omega
          have bl := Block_fill wr c'
          obtain ⟨e1, e2⟩ := HI.out.write (k := r) (by omega) (fill64 c')
          obtain ⟨D', hD'⟩ : ∃ D', D' = (dWrite D r (fill64 c')).2 := ⟨_, rfl⟩
          rw [← hD'] at e2
          have hopl := HI.out.2.2.2.2
          have wc : ∀ w3, Below wr.heap.size wr w3 → Calls Try.prog 10 #[.pointer (some ⟨g, 0, none⟩), .int .i64 (r : Int), .agg (bvs (fill64 c')).toArray] w3 fun e w' => e = .returned (.int .i64 0) ∧ DPost w3 g gs gn vo 4 D' w' := fun w3 hb => by
            have := Write_any w3 g gs gn _ 4 D (hd.below hb) r (fill64 c') (by omega) (fill64_length c') (by omega)
            rw [e1, hwant, ← hD'] at this
            exact this
          have HI2 := Lib.hid e2
          have Hfar := Lib.hid hfar
          have WC := Lib.hid wc
          clear e1 e2 hD' hwant hfar hd hr wc hopl
          go_wp2_with (first
            | (go_at_call 11; refine bl.mono ?_; rintro e w3 ⟨rfl, hb3⟩)
            | (go_at_call 10; refine (WC.out _ hb3).mono ?_; rintro e w4 ⟨rfl, vo4, hd4, hk4, ho4⟩)
            | fail)
          have hbb3 := hbel.next hb3
          exact ⟨⟨i + 1, D', vo4, by omega, by push_cast; rfl, hd4, HI2.out, Hfar.out.next ho4 hbb3.size, hbb3.trans (Hfar.out.below hk4 hbb3.size)⟩, by simp [intOf]; omega⟩
    · obtain rfl : i = sy.length := by omega
      obtain ⟨f1, f2, f3⟩ := HI.out.fin
      have of_ := Off_any wr g gs gn _ 4 D hd
      have st := Start_any wr g gs gn _ 4 D hd
      obtain ⟨D6, hD6⟩ : ∃ D6, D6 = dStart D := ⟨_, rfl⟩
      rw [← hD6] at st f2 f3
      obtain ⟨b, hbf⟩ : ∃ b, b = fill64 9 := ⟨_, rfl⟩
      rw [← hbf] at f3
      have hbl : b.length = 64 := by rw [hbf]; exact fill64_length 9
      have bl : ∀ w, Calls Try.prog 11 #[.int .u8 9] w fun e w' => e = .returned (.agg (bvs b).toArray) ∧ Below w.heap.size w w' := fun w => by
        have := Block_fill w 9
        rw [← hbf] at this
        exact this
      have heqb : ∀ w, (Op.equalIn 10000 29 (.agg (bvs b).toArray) (.agg (bvs b).toArray)).run Try.prog w = .ok true w := fun w => by
        have := blocks_eq w b b hbl hbl
        rw [decide_eq_true rfl] at this
        exact this
      have O6 : Hid (∀ w2 vo2, DM w2 g gs gn vo2 4 D6 → Calls Try.prog 20 #[.pointer (some ⟨g, 0, none⟩)] w2 fun e w' => e = .returned (.bool false) ∧ w2 = w') := by
        show ∀ w2 vo2, _
        intro w2 vo2 h
        have := Off_any w2 g gs gn vo2 4 D6 h
        rw [f2] at this
        exact this
      have HD6 : Hid (D6.off = false ∧ D6.now[3]? = some b) := ⟨f2, f3⟩
      have HBL := Lib.hid hbl
      have Hfar := Lib.hid hfar
      clear hD6 hbf f2 f3 hbl hd hfar
      have hcase : (0 < n ∧ n ≤ (sy.length : Int)) ∨ n ≤ 0 ∨ (0 < n ∧ (sy.length : Int) < n) := by omega
      rcases hcase with ⟨hp, hq⟩ | hp | ⟨hp, hq⟩
      · have hq' : decide (n ≤ (sy.length : Int)) = true := by simp; omega
        have hB : D.off = true := by rw [f1]; exact decide_eq_true (by omega)
        rw [hB] at of_
        clear f1 hB
        go_wp2_with (first
          | (go_at_call 20; refine of_.mono ?_; rintro e w3 ⟨rfl, rfl⟩)
          | fail)
        refine st.mono ?_
        rintro e w4 ⟨rfl, vo4, hd4, hk4, ho4⟩
        have hbb4 := hbel.trans (Hfar.out.below hk4 hbel.size)
        clear of_ st hk4 ho4
        have rd := Read_on w4 g gs gn _ 4 D6 hd4 HD6.out.1 3 (by omega) b HD6.out.2
        go_wp2_with fail
        refine rd.mono ?_
        rintro e w7 ⟨rfl, hb7⟩
        obtain ⟨q1, q2, q3⟩ := box_world w7 b HBL.out
        have hd8 := (hd4.below hb7).below q1
        have hbb8 := (hbb4.next hb7).next q1
        have Q3 := Lib.hid q3
        have Hsz := Lib.hid (size64_of HBL.out)
        have hun := Try.underlying29
        have HSS : Hid (((w7.alloc (.cells (bvs zero64).toArray 29)).setCells w7.heap.size 0 (bvs b)).drew.rangeAt w7.heap.size 0 (bvs b)) := drew1 q2.bytes
        have HD8 := Lib.hid (hd8.below (Below.refl _ _).drew)
        have HB8 := Lib.hid hbb8.drew
        clear rd hd4 hb7 q1 q2 q3 hd8 hbb8
        go_wp2_with (first
          | (refine wpList_store_mid rfl 29 (.tmp 9) (.tmp 91) rfl w7.heap.size 0 (bvs b).toArray rfl rfl Q3.out (by simpa using Hsz.out) (all_oneCell_toArray (bs_oneCell _)) ?_; change wpList _ _ _ _ _ ((w7.alloc (.cells (bvs zero64).toArray 29)).setCells w7.heap.size 0 (bvs b)))
          | fail)
        have hsz := Hsz.out
        go_region_held3 (fun w' => w'.rangeAt w7.heap.size 0 (bvs b)) (first | exact HSS.out | exact keepR1 (by assumption) (by assumption) | assumption)
          (first
            | (go_at_call 11; refine (bl _).mono ?_; rintro e w9 ⟨rfl, hb9⟩)
            | (go_at_call 20; refine (O6.out _ _ (HD8.out.below hb9)).mono ?_; rintro e w10 ⟨rfl, rfl⟩)
            | (go_at_call 16; refine (wakes_any _).mono ?_; rintro e w11 ⟨rfl, hb11⟩))
        have hb9' := hb9
        have hb11' := hb11
        go_wp2_with fail
        go_ret
        exact ⟨rfl, (HB8.out.next hb9').next hb11'⟩
      · have hp' : decide (0 < n) = false := by simp; omega
        have hB : D.off = false := by rw [f1]; exact decide_eq_false (by omega)
        rw [hB] at of_
        clear f1 hB
        go_wp2_with (first
          | (go_at_call 20; refine of_.mono ?_; rintro e w3 ⟨rfl, rfl⟩)
          | fail)
        refine st.mono ?_
        rintro e w4 ⟨rfl, vo4, hd4, hk4, ho4⟩
        have hbb4 := hbel.trans (Hfar.out.below hk4 hbel.size)
        clear of_ st hk4 ho4
        have rd := Read_on w4 g gs gn _ 4 D6 hd4 HD6.out.1 3 (by omega) b HD6.out.2
        go_wp2_with fail
        refine rd.mono ?_
        rintro e w7 ⟨rfl, hb7⟩
        obtain ⟨q1, q2, q3⟩ := box_world w7 b HBL.out
        have hd8 := (hd4.below hb7).below q1
        have hbb8 := (hbb4.next hb7).next q1
        have Q3 := Lib.hid q3
        have Hsz := Lib.hid (size64_of HBL.out)
        have hun := Try.underlying29
        have HSS : Hid (((w7.alloc (.cells (bvs zero64).toArray 29)).setCells w7.heap.size 0 (bvs b)).drew.rangeAt w7.heap.size 0 (bvs b)) := drew1 q2.bytes
        have HD8 := Lib.hid (hd8.below (Below.refl _ _).drew)
        have HB8 := Lib.hid hbb8.drew
        clear rd hd4 hb7 q1 q2 q3 hd8 hbb8
        go_wp2_with (first
          | (refine wpList_store_mid rfl 29 (.tmp 9) (.tmp 91) rfl w7.heap.size 0 (bvs b).toArray rfl rfl Q3.out (by simpa using Hsz.out) (all_oneCell_toArray (bs_oneCell _)) ?_; change wpList _ _ _ _ _ ((w7.alloc (.cells (bvs zero64).toArray 29)).setCells w7.heap.size 0 (bvs b)))
          | fail)
        have hsz := Hsz.out
        go_region_held3 (fun w' => w'.rangeAt w7.heap.size 0 (bvs b)) (first | exact HSS.out | exact keepR1 (by assumption) (by assumption) | assumption)
          (first
            | (go_at_call 11; refine (bl _).mono ?_; rintro e w9 ⟨rfl, hb9⟩)
            | (go_at_call 20; refine (O6.out _ _ (HD8.out.below hb9)).mono ?_; rintro e w10 ⟨rfl, rfl⟩)
            | (go_at_call 16; refine (wakes_any _).mono ?_; rintro e w11 ⟨rfl, hb11⟩))
        have hb9' := hb9
        have hb11' := hb11
        go_wp2_with fail
        go_ret
        exact ⟨rfl, (HB8.out.next hb9').next hb11'⟩
      · have hq' : decide (n ≤ (sy.length : Int)) = false := by simp; omega
        have hB : D.off = false := by rw [f1]; exact decide_eq_false (by omega)
        rw [hB] at of_
        clear f1 hB
        go_wp2_with (first
          | (go_at_call 20; refine of_.mono ?_; rintro e w3 ⟨rfl, rfl⟩)
          | fail)
        refine st.mono ?_
        rintro e w4 ⟨rfl, vo4, hd4, hk4, ho4⟩
        have hbb4 := hbel.trans (Hfar.out.below hk4 hbel.size)
        clear of_ st hk4 ho4
        have rd := Read_on w4 g gs gn _ 4 D6 hd4 HD6.out.1 3 (by omega) b HD6.out.2
        go_wp2_with fail
        refine rd.mono ?_
        rintro e w7 ⟨rfl, hb7⟩
        obtain ⟨q1, q2, q3⟩ := box_world w7 b HBL.out
        have hd8 := (hd4.below hb7).below q1
        have hbb8 := (hbb4.next hb7).next q1
        have Q3 := Lib.hid q3
        have Hsz := Lib.hid (size64_of HBL.out)
        have hun := Try.underlying29
        have HSS : Hid (((w7.alloc (.cells (bvs zero64).toArray 29)).setCells w7.heap.size 0 (bvs b)).drew.rangeAt w7.heap.size 0 (bvs b)) := drew1 q2.bytes
        have HD8 := Lib.hid (hd8.below (Below.refl _ _).drew)
        have HB8 := Lib.hid hbb8.drew
        clear rd hd4 hb7 q1 q2 q3 hd8 hbb8
        go_wp2_with (first
          | (refine wpList_store_mid rfl 29 (.tmp 9) (.tmp 91) rfl w7.heap.size 0 (bvs b).toArray rfl rfl Q3.out (by simpa using Hsz.out) (all_oneCell_toArray (bs_oneCell _)) ?_; change wpList _ _ _ _ _ ((w7.alloc (.cells (bvs zero64).toArray 29)).setCells w7.heap.size 0 (bvs b)))
          | fail)
        have hsz := Hsz.out
        go_region_held3 (fun w' => w'.rangeAt w7.heap.size 0 (bvs b)) (first | exact HSS.out | exact keepR1 (by assumption) (by assumption) | assumption)
          (first
            | (go_at_call 11; refine (bl _).mono ?_; rintro e w9 ⟨rfl, hb9⟩)
            | (go_at_call 20; refine (O6.out _ _ (HD8.out.below hb9)).mono ?_; rintro e w10 ⟨rfl, rfl⟩)
            | (go_at_call 16; refine (wakes_any _).mono ?_; rintro e w11 ⟨rfl, hb11⟩))
        have hb9' := hb9
        have hb11' := hb11
        go_wp2_with fail
        go_ret
        exact ⟨rfl, (HB8.out.next hb9').next hb11'⟩

end Cam
