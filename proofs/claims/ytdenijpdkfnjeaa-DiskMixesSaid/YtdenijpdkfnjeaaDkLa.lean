import Derived.Test.YtdenijpdkfnjeaaDkK
/- cambistlaw06: DiskAgain. -/
namespace Cam
open Go Go.RowKit Go.Proofs

theorem box_world (w : World) (b : List UInt8) (hb : b.length = 64) :
    Below w.heap.size w ((w.alloc (.cells (bvs zero64).toArray 29)).setCells w.heap.size 0 (bvs b)) ∧ HC ((w.alloc (.cells (bvs zero64).toArray 29)).setCells w.heap.size 0 (bvs b)) w.heap.size (bvs b) ∧
      (w.alloc (.cells (bvs zero64).toArray 29)).there w.heap.size 0 (bvs b).length := by
  have hbox := (HC.new (w := w) (C := bvs zero64) (t := 29))
  have hbx := hbox.puts (vs := bvs b) (o := 0) (by rw [bvs_length, bvs_length, hb, zero64_length]; omega)
  rw [splice_all _ _ (by rw [hb, zero64_length])] at hbx
  exact ⟨((Below.refl _ _).alloc (Nat.le_refl _) _).trans ((setCells_kept _ _ _ _).below (fun j hj e => by omega) (by simp)), hbx, hbox.room zero64_length hb⟩
theorem pair_step {w w' : World} {ga gsa gna gb gsb gnb n : Nat} {voa voa' vob : Value} {Db : DK} (hb : DM w gb gsb gnb vob n Db) (hap : ∀ k, DS ga gsa gna voa k → ¬ DS gb gsb gnb vob k) (hk : Kept (DS ga gsa gna voa) w w') (ho : ∀ k, voa'.ownBlock = some k → voa.ownBlock = some k ∨ w.heap.size ≤ k) :
    DM w' gb gsb gnb vob n Db ∧ ∀ k, DS ga gsa gna voa' k → ¬ DS gb gsb gnb vob k := by
  refine ⟨hb.kept hk (fun k h1 h2 => hap k h2 h1), fun k h1 h2 => ?_⟩
  rcases h1 with e | e | e | e
  · exact hap k (.inl e) h2
  · exact hap k (.inr (.inl e)) h2
  · exact hap k (.inr (.inr (.inl e))) h2
  · rcases ho k e with e' | e'
    · exact hap k (.inr (.inr (.inr e'))) h2
    · have h3 := hb.hd.lt
      obtain ⟨l1, l2, l3⟩ := hb.lt
      rcases h2 with rfl | rfl | rfl | h2
      · omega
      · omega
      · omega
      · have := (hb.row k h2).2
        omega
theorem apart_symm {ga gsa gna gb gsb gnb : Nat} {voa vob : Value} (h : ∀ k, DS ga gsa gna voa k → ¬ DS gb gsb gnb vob k) : ∀ k, DS gb gsb gnb vob k → ¬ DS ga gsa gna voa k := fun k h1 h2 => h k h2 h1

theorem dStart_on {D : DK} (h : D.off = false) : dStart D = D := by
  cases D
  simp only at h
  subst h
  simp [dStart]
theorem again_now (D : DK) (picks more : List Int) (h : D.off = false) : (dSynced (dStart (dArm (dCrash (dCrash (dStart D) picks) more) 1))).now = (dStart (dCrash D picks)).now := by
  rw [dStart_on h]
  simp [dStart, dArm, dCrash, dSynced, crashTo]
theorem again_off (D : DK) (picks more : List Int) : (dStart (dArm (dCrash (dCrash (dStart D) picks) more) 1)).off = false ∧ (dStart (dArm (dCrash (dCrash (dStart D) picks) more) 1)).arm = 0 := by
  simp [dStart, dArm, dCrash]
theorem again_offA (D : DK) (picks : List Int) : (dStart (dCrash D picks)).off = false := by simp [dStart, dCrash]
theorem again_op (D : DK) (picks more : List Int) : (dSynced (dStart (dArm (dCrash (dCrash (dStart D) picks) more) 1))).op.length = 0 := rfl

set_option maxRecDepth 100000 in
set_option maxHeartbeats 3200000 in
theorem DiskAgain_walk (w : World) (v0 v1 v2 : Value) (l : List UInt8) (picks more : List Int) (h0 : Bs w v0 l) (h1 : Is w v1 picks) (h2 : Is w v2 more) :
    Calls Try.prog 7 #[v0, v1, v2] w fun e w' => e = .returned (.bool true) ∧ Below w.heap.size w w' := by
  obtain ⟨al, cl, rfl, hcl, hml⟩ := h0.shape
  obtain ⟨ap, cp, rfl, hcp, hmp⟩ := h1.shape
  obtain ⟨am, cm, rfl, hcm, hmm⟩ := h2.shape
  by_cases c0 : 300 < l.length
  · have hi0 : (300 : Int) < (l.length : Int) := by omega
    go_enter Try.func7, Try.ntmps7
    go_wp2_with fail
    go_ret
    exact ⟨rfl, Below.refl _ _⟩
  have hi0 : decide ((300 : Int) < (l.length : Int)) = false := by simp; omega
  by_cases c1 : 300 < picks.length
  · have hi1 : (300 : Int) < (picks.length : Int) := by omega
    go_enter Try.func7, Try.ntmps7
    go_wp2_with fail
    go_ret
    exact ⟨rfl, Below.refl _ _⟩
  have hi1 : decide ((300 : Int) < (picks.length : Int)) = false := by simp; omega
  by_cases c2 : 300 < more.length
  · have hi2 : (300 : Int) < (more.length : Int) := by omega
    go_enter Try.func7, Try.ntmps7
    go_wp2_with fail
    go_ret
    exact ⟨rfl, Below.refl _ _⟩
  have hi2 : decide ((300 : Int) < (more.length : Int)) = false := by simp; omega
  have hll : l.length ≤ 300 := by omega
  clear c0 c1 c2
  go_enter Try.func7, Try.ntmps7
  go_wp2_with fail
  refine (New_ok w 3 (by omega) (by omega)).mono ?_
  rintro e w1 ⟨ga, gsa, gna, rfl, ha1, fa1, fa2, fa3, hb1⟩
  go_wp2_with fail
  refine (New_ok w1 3 (by omega) (by omega)).mono ?_
  rintro e w2 ⟨gb, gsb, gnb, rfl, hd2, fb1, fb2, fb3, hb2⟩
  have ha2 := ha1.below hb2
  have hbb2 := hb1.next hb2
  have hs1 := hb1.size
  have hfa : Far w.heap.size ga gsa gna (.slice none 0 0) := ⟨fa3, fa1, fa2, fun k hk => by cases hk⟩
  have hfb : Far w.heap.size gb gsb gnb (.slice none 0 0) := ⟨by omega, by omega, by omega, fun k hk => by cases hk⟩
  have hap : ∀ k, DS ga gsa gna (.slice none 0 0) k → ¬ DS gb gsb gnb (.slice none 0 0) k := by
    have x1 := ha1.hd.lt
    obtain ⟨x2, x3, x4⟩ := ha1.lt
    intro k h1 h2
    rcases h1 with rfl | rfl | rfl | h1
    · rcases h2 with e | e | e | e
      · omega
      · omega
      · omega
      · cases e
    · rcases h2 with e | e | e | e
      · omega
      · omega
      · omega
      · cases e
    · rcases h2 with e | e | e | e
      · omega
      · omega
      · omega
      · cases e
    · cases h1
  clear ha1 hb1 hb2 fa1 fa2 fa3 fb1 fb2 fb3 hs1
  go_wp2_with fail
  go_loopw [11] (fun i wr => ∃ (k : Nat) (D : DK) (voa vob : Value), k ≤ l.length ∧ i = .int .i64 k ∧ DM wr ga gsa gna voa 3 D ∧ DM wr gb gsb gnb vob 3 D ∧ Hid (∀ k, DS ga gsa gna voa k → ¬ DS gb gsb gnb vob k) ∧ Far w.heap.size ga gsa gna voa ∧ Far w.heap.size gb gsb gnb vob ∧ Hid (D.off = false ∧ D.arm = 0) ∧ D.op.length = k ∧ Below w.heap.size w wr) (fun i _ => l.length - (intOf i).toNat)
  case atStart => exact ⟨0, DK.new 3, _, _, Nat.zero_le _, rfl, ha2, hd2, hap, hfa, hfb, ⟨rfl, rfl⟩, rfl, hbb2⟩
  case round =>
    obtain ⟨k, D, voa, vob, hk, rfl, ha, hb, HAP, hfa, hfb, HON, hopl, hbel⟩ := hrel
    by_cases hlt : k < l.length
    · obtain ⟨bk, offk, rfl, _, hc⟩ := (h0.mono hbel).at (by omega)
      have hck := hc k hlt
      obtain ⟨c, hcx⟩ : ∃ c, c = l[k] := ⟨_, rfl⟩
      rw [← hcx] at hck
      have HCX := Lib.hid hcx
      clear hc hcx
      obtain ⟨r, hr⟩ : ∃ r, r = k % 3 := ⟨_, rfl⟩
      have hr3 : r < 3 := by omega
      have hrt : (k : Int).tmod 3 = (r : Int) := by rw [Int.tmod_eq_emod_of_nonneg (by omega)]; omega
      have hre : (k : Int) % 3 = (r : Int) := by omega
      clear hr
      have bl := fun w => Block_fill w c
      have Hfa := Lib.hid hfa
      have Hfb := Lib.hid hfb
      go_wp2_with fail
      refine (bl _).mono ?_
      rintro e w3 ⟨rfl, hb3⟩
      have ha3 := ha.below hb3
      have hb3' := hb.below hb3
      have hbb3 := hbel.next hb3
      have hck3 : w3.cell? ⟨bk, offk + k, none⟩ = some (.int .u8 (c.toNat : Int)) := (hb3.cell (World.block_lt_of_cell? wr _ hck)).trans hck
      clear ha hb hck
      go_wp2_with fail
      refine (Write_on w3 ga gsa gna _ 3 D ha3 r (fill64 c) HON.out.1 HON.out.2 hr3 (fill64_length c) (by omega)).mono ?_
      rintro e w4 ⟨rfl, voa4, ha4, hk4, ho4⟩
      obtain ⟨hb4, hap4⟩ := pair_step hb3' HAP.out hk4 ho4
      have hbb4 := hbb3.trans (Hfa.out.below hk4 hbb3.size)
      have hfa4 := Hfa.out.next ho4 hbb3.size
      have hck4 : w4.cell? ⟨bk, offk + k, none⟩ = some (.int .u8 (c.toNat : Int)) := by
        obtain ⟨bk', offk', e1, _, hc'⟩ := (h0.mono hbb4).at (by omega)
        cases e1
        rw [HCX.out]
        exact hc' k hlt
      clear ha3 hb3' hbb3 hk4 ho4 hck3 hb3
      go_wp2_with fail
      refine (bl _).mono ?_
      rintro e w5 ⟨rfl, hb5⟩
      have ha5 := ha4.below hb5
      have hb5' := hb4.below hb5
      have hbb5 := hbb4.next hb5
      clear ha4 hb4 hck4 hb5
      go_wp2_with fail
      refine (Write_on w5 gb gsb gnb _ 3 D hb5' r (fill64 c) HON.out.1 HON.out.2 hr3 (fill64_length c) (by omega)).mono ?_
      rintro e w6 ⟨rfl, vob6, hb6, hk6, ho6⟩
      obtain ⟨ha6, hap6⟩ := pair_step ha5 (apart_symm hap4) hk6 ho6
      have hbb6 := hbb5.trans (Hfb.out.below hk6 hbb5.size)
      have hfb6 := Hfb.out.next ho6 hbb5.size
      have HAP6 := Lib.hid (apart_symm hap6)
      have hopl6 : (dPut D r (fill64 c)).op.length = k + 1 := by show (D.op ++ [_]).length = _; rw [List.length_append, hopl]; rfl
      clear ha5 hb5' hbb5 hk6 ho6 hap6 hap4 bl
      go_wp2_with fail
      exact ⟨⟨k + 1, dPut D r (fill64 c), voa4, vob6, by omega, by push_cast; rfl, ha6, hb6, HAP6.out, hfa4, hfb6, ⟨HON.out.1, HON.out.2⟩, hopl6, hbb6⟩, by simp [intOf]; omega⟩
    · have hp1 := fun wx (hx : Below w.heap.size w wx) => h1.mono hx
      have hp2 := fun wx (hx : Below w.heap.size w wx) => h2.mono hx
      have Hp1 := Lib.hid hp1
      have Hp2 := Lib.hid hp2
      clear hp1 hp2 h0 h1 h2
      obtain ⟨DA, hDA⟩ : ∃ DA, DA = dStart (dCrash D picks) := ⟨_, rfl⟩
      obtain ⟨DB, hDB⟩ : ∃ DB, DB = dStart (dArm (dCrash (dCrash (dStart D) picks) more) 1) := ⟨_, rfl⟩
      have hDA0 : DA.off = false := by rw [hDA]; exact again_offA D picks
      have hDB0 : DB.off = false ∧ DB.arm = 0 := by rw [hDB]; exact again_off D picks more
      have hnow : (dSynced DB).now = DA.now := by rw [hDA, hDB]; exact again_now D picks more HON.out.1
      have hop0 : (dSynced DB).op.length = 0 := rfl
      have Hfa := Lib.hid hfa
      have Hfb := Lib.hid hfb
      clear hfa hfb
      -- b.Start
      go_wp2_with fail
      refine (Start_any wr gb gsb gnb _ 3 D hb).mono ?_
      rintro e w3 ⟨rfl, vob3, hb3, hk3, ho3⟩
      obtain ⟨ha3, hap3⟩ := pair_step ha (apart_symm HAP.out) hk3 ho3
      have hbb3 := hbel.trans (Hfb.out.below hk3 hbel.size)
      have Hfb3 := Lib.hid (Hfb.out.next ho3 hbel.size)
      clear ha hb hbel hk3 ho3 Hfb HAP
      -- a.Crash
      have cr := Crash_any w3 ga gsa gna _ 3 D ha3 _ picks (fun w' hk => Hp1.out w' (hbb3.trans (Hfa.out.below hk hbb3.size)))
      go_wp2_with fail
      refine cr.mono ?_
      rintro e w4 ⟨rfl, voa4, ha4, hk4, ho4⟩
      obtain ⟨hb4, hap4⟩ := pair_step hb3 (apart_symm hap3) hk4 ho4
      have hbb4 := hbb3.trans (Hfa.out.below hk4 hbb3.size)
      have Hfa4 := Lib.hid (Hfa.out.next ho4 hbb3.size)
      clear cr ha3 hb3 hbb3 hk4 ho4 Hfa hap3
      -- b.Crash
      have cr := Crash_any w4 gb gsb gnb _ 3 (dStart D) hb4 _ picks (fun w' hk => Hp1.out w' (hbb4.trans (Hfb3.out.below hk hbb4.size)))
      go_wp2_with fail
      refine cr.mono ?_
      rintro e w5 ⟨rfl, vob5, hb5, hk5, ho5⟩
      obtain ⟨ha5, hap5⟩ := pair_step ha4 (apart_symm hap4) hk5 ho5
      have hbb5 := hbb4.trans (Hfb3.out.below hk5 hbb4.size)
      have Hfb5 := Lib.hid (Hfb3.out.next ho5 hbb4.size)
      clear cr ha4 hb4 hbb4 hk5 ho5 Hfb3 hap4
      -- b.Crash again
      have cr := Crash_any w5 gb gsb gnb _ 3 _ hb5 _ more (fun w' hk => Hp2.out w' (hbb5.trans (Hfb5.out.below hk hbb5.size)))
      go_wp2_with fail
      refine cr.mono ?_
      rintro e w6 ⟨rfl, vob6, hb6, hk6, ho6⟩
      obtain ⟨ha6, hap6⟩ := pair_step ha5 hap5 hk6 ho6
      have hbb6 := hbb5.trans (Hfb5.out.below hk6 hbb5.size)
      have Hfb6 := Lib.hid (Hfb5.out.next ho6 hbb5.size)
      clear cr ha5 hb5 hbb5 hk6 ho6 Hfb5 hap5
      -- b.Arm
      have ar := Arm_any w6 gb gsb gnb _ 3 _ hb6 1 (by omega)
      go_wp2_with fail
      refine ar.mono ?_
      rintro e w7 ⟨rfl, hb7, hk7⟩
      have hk7' : Kept (DS gb gsb gnb vob6) w6 w7 := hk7.weaken (fun i e => .inl e)
      obtain ⟨ha7, hap7⟩ := pair_step (voa' := vob6) ha6 hap6 hk7' (fun k h => .inl h)
      have hbb7 := hbb6.trans (Hfb6.out.below hk7' hbb6.size)
      clear ar ha6 hb6 hbb6 hk7 hk7' hap6
      -- a.Start
      have st := Start_any w7 ga gsa gna _ 3 _ ha7
      rw [← hDA] at st
      go_wp2_with fail
      refine st.mono ?_
      rintro e w8 ⟨rfl, voa8, ha8, hk8, ho8⟩
      obtain ⟨hb8, hap8⟩ := pair_step hb7 (apart_symm hap7) hk8 ho8
      have hbb8 := hbb7.trans (Hfa4.out.below hk8 hbb7.size)
      clear st ha7 hb7 hbb7 hk8 ho8 hap7 Hfa4
      -- b.Start
      have st := Start_any w8 gb gsb gnb _ 3 _ hb8
      rw [← hDB] at st
      have HDA := Lib.hid hDA
      have HDB := Lib.hid hDB
      clear hDA hDB
      go_wp2_with fail
      refine st.mono ?_
      rintro e w9 ⟨rfl, vob9, hb9, hk9, ho9⟩
      obtain ⟨ha9, hap9⟩ := pair_step ha8 (apart_symm hap8) hk9 ho9
      have hbb9 := hbb8.trans (Hfb6.out.below hk9 hbb8.size)
      have Hfb9 := Lib.hid (Hfb6.out.next ho9 hbb8.size)
      clear st ha8 hb8 hbb8 hk9 ho9 hap8 Hfb6
      -- b.Sync, b.Open
      have sy := Sync_on w9 gb gsb gnb _ 3 _ hb9 hDB0.1 hDB0.2
      have Hnow := Lib.hid hnow
      have Hop0 := Lib.hid hop0
      have HON0 : Hid (DA.off = false ∧ (dSynced DB).off = false) := ⟨hDA0, hDB0.1⟩
      clear hDA0 hDB0 hnow hop0
      obtain ⟨DC, hDC⟩ : ∃ DC, DC = dSynced DB := ⟨_, rfl⟩
      rw [← hDC] at sy
      have Hnow' : Hid (DC.now = DA.now) := by show _ = _; rw [hDC]; exact Hnow.out
      have Hop' : Hid (DC.op.length = 0) := by show _ = _; rw [hDC]; exact Hop0.out
      have HON' : Hid (DA.off = false ∧ DC.off = false) := by show _ ∧ _; rw [hDC]; exact HON0.out
      clear hDC Hnow Hop0 HON0
      go_wp2_with fail
      refine sy.mono ?_
      rintro e w10 ⟨rfl, vob10, hb10, hk10, ho10⟩
      obtain ⟨ha10, hap10⟩ := pair_step ha9 hap9 hk10 ho10
      have hbb10 := hbb9.trans (Hfb9.out.below hk10 hbb9.size)
      clear sy ha9 hb9 hbb9 hk10 ho10 hap9
      have opn := Open_any w10 gb gsb gnb _ 3 _ hb10
      rw [Hop'.out] at opn
      go_wp2_with (first | (go_at_call 18; refine opn.mono ?_; rintro e w11 ⟨rfl, rfl⟩) | fail)
      have HHA := Lib.hid ha10
      have HHB := Lib.hid hb10
      clear opn ha10 hb10 hap10
      go_loopw [12] (fun i wr => ∃ j : Nat, j ≤ 3 ∧ i = .int .i64 j ∧ DM wr ga gsa gna voa8 3 DA ∧ DM wr gb gsb gnb vob10 3 DC ∧ Below w.heap.size w wr) (fun i _ => 3 - (intOf i).toNat)
      case atStart => exact ⟨0, by omega, rfl, HHA.out, HHB.out, hbb10⟩
      case round =>
        obtain ⟨j, hj, rfl, ha, hb, hbel⟩ := hrel
        clear hbb10
        by_cases hlt : j < 3
        · have hja : j < DA.now.length := by rw [ha.ok.now.1]; exact hlt
          obtain ⟨b, hbe⟩ : ∃ b, DA.now[j]? = some b := ⟨_, List.getElem?_eq_getElem hja⟩
          have hbl : b.length = 64 := ha.ok.now.2 b (List.mem_of_getElem? hbe)
          have heq := blocks_eq
          have heqb : ∀ w, (Op.equalIn 10000 29 (.agg (bvs b).toArray) (.agg (bvs b).toArray)).run Try.prog w = .ok true w := fun w => by
            have := blocks_eq w b b hbl hbl
            rw [decide_eq_true rfl] at this
            exact this
          have rda := Read_on wr ga gsa gna _ 3 DA ha HON'.out.1 j hlt b hbe
          have HBE := Lib.hid hbe
          have HBL := Lib.hid hbl
          clear heq hbe hbl hja
          go_wp2_with fail
          refine rda.mono ?_
          rintro e w11 ⟨rfl, hb11⟩
          obtain ⟨q1, q2, q3⟩ := box_world w11 b HBL.out
          have ha12 := (ha.below hb11).below q1
          have hb12 := (hb.below hb11).below q1
          have hbb12 := (hbel.next hb11).next q1
          have Q3 := Lib.hid q3
          have Hsz := Lib.hid (size64_of HBL.out)
          have rdb := Read_on _ gb gsb gnb _ 3 DC hb12 HON'.out.2 j hlt b (by rw [Hnow'.out]; exact HBE.out)
          clear rda ha hb hbel hb11 q1 q3
          go_wp2_with (first
            | (refine wpList_store_mid rfl 29 (.tmp 13) (.tmp 101) rfl w11.heap.size 0 (bvs b).toArray rfl rfl Q3.out (by simpa using Hsz.out) (all_oneCell_toArray (bs_oneCell _)) ?_; change wpList _ _ _ _ _ ((w11.alloc (.cells (bvs zero64).toArray 29)).setCells w11.heap.size 0 (bvs b)))
            | fail)
          refine rdb.mono ?_
          rintro e w13 ⟨rfl, hb13⟩
          obtain ⟨q4, q5, q6⟩ := box_world w13 b HBL.out
          have ha14 := (ha12.below hb13).below q4
          have hb14 := (hb12.below hb13).below q4
          have hbb14 := (hbb12.next hb13).next q4
          have Q6 := Lib.hid q6
          have R1 := Lib.hid ((q2.below hb13).below q4).bytes
          have R2 := Lib.hid q5.bytes
          clear rdb ha12 hb12 hbb12 hb13 q2 q4 q5 q6
          go_wp2_with (first
            | (refine wpList_store_mid rfl 29 (.tmp 15) (.tmp 107) rfl w13.heap.size 0 (bvs b).toArray rfl rfl Q6.out (by simpa using Hsz.out) (all_oneCell_toArray (bs_oneCell _)) ?_; change wpList _ _ _ _ _ ((w13.alloc (.cells (bvs zero64).toArray 29)).setCells w13.heap.size 0 (bvs b)))
            | (refine wpList_load_mid rfl 29 (.tmp 13) rfl w11.heap.size 0 rfl (bvs b) _ R1.out Try.underlying29 rfl Hsz.out ?_)
            | (refine wpList_load_mid rfl 29 (.tmp 15) rfl w13.heap.size 0 rfl (bvs b) _ R2.out Try.underlying29 rfl Hsz.out ?_)
            | fail)
          exact ⟨⟨j + 1, by omega, by push_cast; rfl, ha14, hb14, hbb14⟩, by simp [intOf]; omega⟩
        · go_wp2_with fail
          refine (wakes_any _).mono ?_
          rintro e w11 ⟨rfl, hb11⟩
          go_wp2_with fail
          go_ret
          exact ⟨rfl, hbel.next hb11⟩

end Cam
