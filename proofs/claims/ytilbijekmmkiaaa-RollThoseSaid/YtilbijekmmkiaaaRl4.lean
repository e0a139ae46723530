import Derived.Test.YtilbijekmmkiaaaRlZ
import Derived.Deep.CutBlock
/- ch. 11: RollThose: the walk. -/
namespace Cam
open Go Go.RowKit Go.Proofs

/-- how many are in the states 1 .. j - 1 -/
def cntS (R : RollT) (j : Nat) : Nat := ((List.range j).map (fun (i : Nat) => if i = 0 then 0 else (thoseR R [(i : Int)]).length)).sum
theorem cntS_next (R : RollT) {j : Nat} (h : 1 ≤ j) : cntS R (j + 1) = cntS R j + (thoseR R [(j : Int)]).length := by
  unfold cntS
  rw [List.range_succ, List.map_append, List.sum_append]
  simp
  omega
theorem cntS_all {R : RollT} (h : chkR R = true) : cntS R 4 = R.M.length := by
  rw [cntS_next R (by omega), cntS_next R (by omega), cntS_next R (by omega)]
  have := thoseR_one h
  have h0 : cntS R 1 = 0 := rfl
  rw [h0]
  simpa using this
theorem thoseR_len (R : RollT) (sts : List Int) : (thoseR R sts).length ≤ R.M.length := by
  unfold thoseR
  rw [List.length_map]
  exact List.length_filter_le _ _
theorem cntS_le (R : RollT) : ∀ j : Nat, cntS R j ≤ j * R.M.length
  | 0 => by simp [cntS]
  | 1 => by simp [cntS]
  | j + 2 => by
    rw [cntS_next R (by omega)]
    have h1 := cntS_le R (j + 1)
    have h2 := thoseR_len R [((j + 1 : Nat) : Int)]
    rw [Nat.add_mul (j + 1) 1, Nat.one_mul]
    omega
theorem inB_next {sts : List Int} {s : Int} {j : Nat} (h : j < sts.length) : inB (sts.take (j + 1)) s = (inB (sts.take j) s || (sts[j] == s)) := by
  unfold inB
  rw [List.take_succ_eq_append_getElem h, Bool.eq_iff_iff]
  simp only [decide_eq_true_eq, List.mem_append, List.mem_singleton, Bool.or_eq_true, beq_iff_eq]
  exact ⟨Or.imp_right Eq.symm, Or.imp_right Eq.symm⟩
theorem inB_nil (s : Int) : inB [] s = false := by unfold inB; simp

set_option maxRecDepth 100000 in
set_option maxHeartbeats 12800000 in
theorem RollThose_walk (W : World) (v0 vs : Value) (l0 : List AcT) (sts : List Int) (h : Rs AcT.vs 19 W v0 l0) (hs : Is W vs sts) :
    Calls Try.prog 8 #[v0, vs] W fun e w' => e = .returned (.bool true) ∧ Below W.heap.size W w' := by
  obtain ⟨av0, cap, rfl, hcap, hm⟩ := h.shape
  obtain ⟨n, hn⟩ : ∃ n, n = l0.length := ⟨_, rfl⟩
  have HN := Lib.hid hn
  rw [← hn] at hcap h ⊢
  have H0 := Lib.hid h
  obtain ⟨av1, cap1, rfl, hcap1, hm1⟩ := hs.shape
  obtain ⟨m, hmm⟩ : ∃ m, m = sts.length := ⟨_, rfl⟩
  have HMM := Lib.hid hmm
  rw [← hmm] at hcap1 hs ⊢
  have HS := Lib.hid hs
  clear hn h hmm hs
  by_cases hlong : 500 < n
  · go_enter Try.func8, Try.ntmps8
    go_wp2_with fail
    go_ret
    exact ⟨rfl, Below.refl _ _⟩
  · by_cases hlm : 100 < m
    · go_enter Try.func8, Try.ntmps8
      go_wp2_with fail
      go_ret
      exact ⟨rfl, Below.refl _ _⟩
    · go_enter Try.func8, Try.ntmps8
      have HSZb : Hid ((Try.prog.info? 26).map (·.size) = some (#[.slice none 0 0, .slice none 0 0, .slice none 0 0] : Array Value).size) := by show _ = _; rw [rol_sz]; rfl
      have HONb : Hid ((#[.slice none 0 0, .slice none 0 0, .slice none 0 0] : Array Value).all (·.oneCell') = true) := by show _ = true; simp [Value.oneCell']
      go_upto_region 4 with (first
        | (refine wpList_store_row rfl 26 (.tmp 5) (.tmp 24) rfl W.heap.size #[.slice none 0 0, .slice none 0 0, .slice none 0 0] rfl rfl 26 #[.slice none 0 0, .slice none 0 0, .slice none 0 0] (heap_alloc_new _ _) HSZb.out rfl HONb.out ?_)
        | fail)
      have hbsb : Below W.heap.size W ((W.alloc (.cells #[.slice none 0 0, .slice none 0 0, .slice none 0 0] 26)).setRow W.heap.size #[.slice none 0 0, .slice none 0 0, .slice none 0 0]) := ((Below.refl _ _).alloc (Nat.le_refl _) _).trans (setRow_below (Nat.le_refl _) _)
      have hxb : HT ((W.alloc (.cells #[.slice none 0 0, .slice none 0 0, .slice none 0 0] 26)).setRow W.heap.size #[.slice none 0 0, .slice none 0 0, .slice none 0 0]) W.heap.size 26 [.slice none 0 0, .slice none 0 0, .slice none 0 0] := setRow_heap _ _ _ _ _ _ (heap_alloc_new _ _)
      have hbwb := bgo (Below.refl W.heap.size W) hbsb (Below.size (Below.refl W.heap.size W))
      obtain ⟨Wb, hWb⟩ : ∃ zz, zz = ((W.alloc (.cells #[.slice none 0 0, .slice none 0 0, .slice none 0 0] 26)).setRow W.heap.size #[.slice none 0 0, .slice none 0 0, .slice none 0 0]) := ⟨_, rfl⟩
      rw [← hWb] at hbsb hxb hbwb ⊢
      obtain ⟨gxb, hgb⟩ : ∃ zz, zz = W.heap.size := ⟨_, rfl⟩
      rw [← hgb] at hxb ⊢
      have HGEb : Hid (∀ m, m ≤ W.heap.size → m ≤ gxb) := fun m h => by omega
      have HXb := Lib.hid hxb
      have HBWb := Lib.hid hbwb
      have HBSb := Lib.hid hbsb
      clear hWb hxb hbwb hbsb hgb HONb
      obtain ⟨gr, hgr⟩ : ∃ g, g = gxb := ⟨_, rfl⟩
      rw [← hgr] at HXb HGEb ⊢
      have HGR : Hid (W.heap.size ≤ gr) := HGEb.out _ (Nat.le_refl _)
      clear hgr HGEb HBSb HSZb
      go_upto_block 0 with fail
      go_cut [] (fun wr => ∃ (R : RollT) (aM : Option Addr) (nM cM : Nat) (aI : Option Addr) (nI cI : Nat) (aA : Option Addr) (nA cA : Nat), HT wr gr 26 [.slice aM nM cM, .slice aI nI cI, .slice aA nA cA] ∧ RollIn wr (.slice aM nM cM) (.slice aI nI cI) (.slice aA nA cA) R ∧ Hid (chkR R = true) ∧ Below W.heap.size W wr)
      case first =>
        go_wp2_with fail
        go_loopw [6] (fun v wr => ∃ (k : Nat) (R : RollT) (aM : Option Addr) (nM cM : Nat) (aI : Option Addr) (nI cI : Nat) (aA : Option Addr) (nA cA : Nat), k ≤ n ∧ v = .int .i64 k ∧ HT wr gr 26 [.slice aM nM cM, .slice aI nI cI, .slice aA nA cA] ∧ RollIn wr (.slice aM nM cM) (.slice aI nI cI) (.slice aA nA cA) R ∧ Hid (chkR R = true) ∧ Below W.heap.size W wr) (fun v _ => n - (intOf v).toNat)
        case atStart => exact ⟨0, RollT.nil, none, 0, 0, none, 0, 0, none, 0, 0, Nat.zero_le _, rfl, HXb.out, ⟨Rs.nil MbT.len _, Rs.nil InT.len _, Rs.nil AsT.len _⟩, chkR_nil, HBWb.out⟩
        case round =>
          obtain ⟨k, R, aM, nM, cM, aI, nI, cI, aA, nA, cA, hk, rfl, hrb, hri, HGD, hbel⟩ := hrel
          have HRB := Lib.hid hrb
          have HRW := Lib.hid hri
          have HBL := Lib.hid hbel
          clear hrb hri hbel
          by_cases hlt : k < n ∧ k < 100
          · obtain ⟨hkn, hk3⟩ := hlt
            have hkl : k < l0.length := by have := HN.out; omega
            obtain ⟨bl, off, rfl, _, hc⟩ := (H0.out.rew HN.out HBL.out).at (by omega) (by decide)
            obtain ⟨c, hcx⟩ : ∃ c, c = l0[k] := ⟨_, rfl⟩
            have HMS : Hid (wr.rangeAt bl (off + k * 19) [.int .i64 c.dv, .int .i64 c.av, .int .i64 c.bv, .int .i64 c.i.no, .int .i64 c.i.cur, .int .i64 c.i.mult, .int .i64 c.i.add, .int .i64 c.i.set, .int .i64 c.i.price, .int .i64 c.i.h0, .int .i64 c.i.h1, .int .i64 c.i.h2, .int .i64 c.i.h3, .int .i64 c.i.h4, .int .i64 c.i.h5, .int .i64 c.h.no, .int .i64 c.h.cur, .int .i64 c.h.price, .int .i64 c.h.cut]) := Lib.hid (fun j v h => hc k hkl j v (by rw [← hcx]; exact h))
            have HFEW := Lib.hid (chkR_few HGD.out)
            obtain ⟨X, hX⟩ : ∃ X, X = doR R c := ⟨_, rfl⟩
            have HAN : Hid (Ans R X) := by rw [hX]; exact doR_ans HGD.out c
            have HX := Lib.hid hX
            have hk0 : (0 : Int) ≤ k := by omega
            have hk1 : (k : Int) < n := by omega
            clear hc hcx hX hm
            go_wp2_with fail
            have HSZr : Hid ((Try.prog.info? 26).map (·.size) = some (#[.slice aM nM cM, .slice aI nI cI, .slice aA nA cA] : Array Value).size) := by show _ = _; rw [rol_sz]; rfl
            have HSZa : Hid ((Try.prog.info? 64).map (·.size) = some (([.int .i64 c.dv, .int .i64 c.av, .int .i64 c.bv, .int .i64 c.i.no, .int .i64 c.i.cur, .int .i64 c.i.mult, .int .i64 c.i.add, .int .i64 c.i.set, .int .i64 c.i.price, .int .i64 c.i.h0, .int .i64 c.i.h1, .int .i64 c.i.h2, .int .i64 c.i.h3, .int .i64 c.i.h4, .int .i64 c.i.h5, .int .i64 c.h.no, .int .i64 c.h.cur, .int .i64 c.h.price, .int .i64 c.h.cut] : List Value).length)) := by show _ = _; rw [act_sz]; rfl
            refine wp_region_bl 12 (by kernel_rfl) ?_
            refine wpAnyU_take (i := 0) (oi := { dst := some 36, op := Op.load 26 (Operand.tmp 5), type := 26, pos := "law.go:167", after := #[], guard := none }) (v := (.agg #[.slice aM nM cM, .slice aI nI cI, .slice aA nA cA])) rfl (by kernel_rfl) (by kernel_rfl) (by kernel_rfl) (by kernel_rfl) (by kernel_rfl) (fun _ _ _ h => h) (BL.cls wr) ?_ ?_
            · refine Or.inl ⟨rfl, fun w hSw => ?_⟩
              exact eff_load_mid 26 (.tmp 5) rfl gr 0 rfl [.slice aM nM cM, .slice aI nI cI, .slice aA nA cA] _ (fun j v h => BL.cell hSw (HRB.out.cell (by rcases j with _ | _ | _ | j; all_goals first | exact h | (simp at h)))) Try.underlying26 rfl HSZr.out
            try simp only [Act.put, List.setIfInBounds_toArray, List.set_cons_zero, List.set_cons_succ]
            refine wpAnyU_take (i := 1) (oi := { dst := some 37, op := Op.move (Operand.tmp 0), type := 61, pos := "law.go:167", after := #[], guard := none }) (v := (.slice (some ⟨bl, off, none⟩) n cap)) rfl (by kernel_rfl) (by kernel_rfl) (by kernel_rfl) (by kernel_rfl) (by kernel_rfl) (fun _ _ _ h => h) (BL.cls wr) ?_ ?_
            · refine Or.inl ⟨rfl, fun w hSw => ?_⟩
              exact EffR.same (by go_simp)
            try simp only [Act.put, List.setIfInBounds_toArray, List.set_cons_zero, List.set_cons_succ]
            refine wpAnyU_take (i := 2) (oi := { dst := some 38, op := Op.move (Operand.tmp 6), type := 3, pos := "law.go:167", after := #[], guard := none }) (v := (.int .i64 (k : Int))) rfl (by kernel_rfl) (by kernel_rfl) (by kernel_rfl) (by kernel_rfl) (by kernel_rfl) (fun _ _ _ h => h) (BL.cls wr) ?_ ?_
            · refine Or.inl ⟨rfl, fun w hSw => ?_⟩
              exact EffR.same (by go_simp)
            try simp only [Act.put, List.setIfInBounds_toArray, List.set_cons_zero, List.set_cons_succ]
            refine wpAnyU_take (i := 3) (oi := { dst := some 39, op := Op.indexAddr 61 (Operand.tmp 37) (Operand.tmp 38), type := 0, pos := "law.go:167", after := #[{ on := 1, ground := Ground.data }, { on := 2, ground := Ground.data }], guard := none }) (v := (.pointer (some ⟨bl, off + k * 19, none⟩))) rfl (by kernel_rfl) (by kernel_rfl) (by kernel_rfl) (by kernel_rfl) (by kernel_rfl) (fun _ _ _ h => h) (BL.cls wr) ?_ ?_
            · refine Or.inl ⟨rfl, fun w hSw => ?_⟩
              exact EffR.same (by go_simp)
            try simp only [Act.put, List.setIfInBounds_toArray, List.set_cons_zero, List.set_cons_succ]
            refine wpAnyU_take (i := 4) (oi := { dst := some 40, op := Op.load 64 (Operand.tmp 39), type := 64, pos := "law.go:167", after := #[{ on := 3, ground := Ground.data }], guard := none }) (v := (.agg #[.int .i64 c.dv, .int .i64 c.av, .int .i64 c.bv, .int .i64 c.i.no, .int .i64 c.i.cur, .int .i64 c.i.mult, .int .i64 c.i.add, .int .i64 c.i.set, .int .i64 c.i.price, .int .i64 c.i.h0, .int .i64 c.i.h1, .int .i64 c.i.h2, .int .i64 c.i.h3, .int .i64 c.i.h4, .int .i64 c.i.h5, .int .i64 c.h.no, .int .i64 c.h.cur, .int .i64 c.h.price, .int .i64 c.h.cut])) rfl (by kernel_rfl) (by kernel_rfl) (by kernel_rfl) (by kernel_rfl) (by kernel_rfl) (fun _ _ _ h => h) (BL.cls wr) ?_ ?_
            · refine Or.inl ⟨rfl, fun w hSw => ?_⟩
              exact eff_load_mid 64 (.tmp 39) rfl bl (off + k * 19) rfl [.int .i64 c.dv, .int .i64 c.av, .int .i64 c.bv, .int .i64 c.i.no, .int .i64 c.i.cur, .int .i64 c.i.mult, .int .i64 c.i.add, .int .i64 c.i.set, .int .i64 c.i.price, .int .i64 c.i.h0, .int .i64 c.i.h1, .int .i64 c.i.h2, .int .i64 c.i.h3, .int .i64 c.i.h4, .int .i64 c.i.h5, .int .i64 c.h.no, .int .i64 c.h.cur, .int .i64 c.h.price, .int .i64 c.h.cut] _ (fun j v h => BL.cell hSw (HMS.out j v h)) Try.underlying64 rfl HSZa.out
            try simp only [Act.put, List.setIfInBounds_toArray, List.set_cons_zero, List.set_cons_succ]
            refine wpAnyU_ready (rs := [5, 9]) (by kernel_rfl) (by simp) ?_
            refine AllReadyU.cons (o := { dst := some 41, op := Op.call { callee := Callee.value (Operand.func 41), args := #[Operand.tmp 36, Operand.tmp 40], argTypes := #[26, 64] }, type := 56, pos := "law.go:167", after := #[{ on := 0, ground := Ground.data }, { on := 4, ground := Ground.data }], guard := none }) rfl (fun wA5 hA5 K hK => ?_) (AllReadyU.cons (o := { dst := some 7, op := Op.alloc 26, type := 0, pos := "law.go:167", after := #[], guard := none }) rfl (fun wA9 hA9 K hK => ?_) AllReadyU.nil)
            · go_simp
              refine (do_any wA5 _ _ _ R c (HRW.out.mono hA5) HFEW.out).mono ?_
              rw [← HX.out]
              rintro e wn5 ⟨aM2, nM2, cM2, aI2, nI2, cI2, aA2, nA2, cA2, rfl, ho, hbn⟩
              refine hK.out _ _ (fun x => (BL wr) x ∧ OwnRoll x wr.heap.size (.slice aM2 nM2 cM2) (.slice aI2 nI2 cI2) (.slice aA2 nA2 cA2) X.2) (Cls.and (BL.cls wr) (fun _ _ h hb => OwnRoll.below h hb)) ⟨Below.next hA5 hbn, ho.base (Below.size hA5)⟩ ?_
              clear hK K
              try simp only [Act.put, List.setIfInBounds_toArray, List.set_cons_zero, List.set_cons_succ]
              refine wpAnyU_take (i := 6) (oi := { dst := some 35, op := Op.move (Operand.tmp 41), type := 56, pos := "law.go:167", after := #[{ on := 5, ground := Ground.data }], guard := none }) (v := (.tuple #[.agg #[.slice aM2 nM2 cM2, .slice aI2 nI2 cI2, .slice aA2 nA2 cA2], .int .i64 X.1])) rfl (by kernel_rfl) (by kernel_rfl) (by kernel_rfl) (by kernel_rfl) (by kernel_rfl) (fun _ _ _ h => h) (Cls.and (BL.cls wr) (fun _ _ h hb => OwnRoll.below h hb)) ?_ ?_
              · refine Or.inl ⟨rfl, fun w hSw => ?_⟩
                exact EffR.same (by go_simp)
              try simp only [Act.put, List.setIfInBounds_toArray, List.set_cons_zero, List.set_cons_succ]
              refine wpAnyU_take (i := 7) (oi := { dst := some 42, op := Op.extract (Operand.tmp 35) 0, type := 26, pos := "law.go:167", after := #[{ on := 6, ground := Ground.data }], guard := none }) (v := (.agg #[.slice aM2 nM2 cM2, .slice aI2 nI2 cI2, .slice aA2 nA2 cA2])) rfl (by kernel_rfl) (by kernel_rfl) (by kernel_rfl) (by kernel_rfl) (by kernel_rfl) (fun _ _ _ h => h) (Cls.and (BL.cls wr) (fun _ _ h hb => OwnRoll.below h hb)) ?_ ?_
              · refine Or.inl ⟨rfl, fun w hSw => ?_⟩
                exact EffR.same (by go_simp)
              try simp only [Act.put, List.setIfInBounds_toArray, List.set_cons_zero, List.set_cons_succ]
              refine wpAnyU_take (i := 8) (oi := { dst := some 43, op := Op.extract (Operand.tmp 35) 1, type := 30, pos := "law.go:167", after := #[{ on := 6, ground := Ground.data }, { on := 10, ground := Ground.gcOnly Departure.lateStores }], guard := none }) (v := (.int .i64 X.1)) rfl (by kernel_rfl) (by kernel_rfl) (by kernel_rfl) (by kernel_rfl) (by kernel_rfl) (fun _ _ _ h => h) (Cls.and (BL.cls wr) (fun _ _ h hb => OwnRoll.below h hb)) ?_ ?_
              · refine Or.inl ⟨rfl, fun w hSw => ?_⟩
                exact EffR.same (by go_simp)
              try simp only [Act.put, List.setIfInBounds_toArray, List.set_cons_zero, List.set_cons_succ]
              refine wpAnyU_ready (rs := [9]) (by kernel_rfl) (by simp) ?_
              refine AllReadyU.cons (o := { dst := some 7, op := Op.alloc 26, type := 0, pos := "law.go:167", after := #[], guard := none }) rfl (fun wA9 hA9 K hK => ?_) AllReadyU.nil
              go_simp
              obtain ⟨gx, hgx⟩ : ∃ gx, gx = wA9.heap.size := ⟨_, rfl⟩
              have HGX : Hid (wr.heap.size ≤ gx) := by show _ ≤ _; have := Below.size hA9.1; omega
              have HAP : Hid (∀ q, ((Value.slice aM2 nM2 cM2).ownBlock = some q ∨ (Value.slice aI2 nI2 cI2).ownBlock = some q ∨ (Value.slice aA2 nA2 cA2).ownBlock = some q) → q ≠ gx) := fun q hq => by
                rcases hq with hq | hq | hq
                · have := OwnR.lt hA9.2.1 q hq; omega
                · have := OwnR.lt hA9.2.2.1 q hq; omega
                · have := OwnR.lt hA9.2.2.2 q hq; omega
              have hbx : Below wA9.heap.size wA9 (wA9.alloc (.cells #[.slice none 0 0, .slice none 0 0, .slice none 0 0] 26)) := (Below.refl _ _).alloc (Nat.le_refl _) _
              have hnew : HT (wA9.alloc (.cells #[.slice none 0 0, .slice none 0 0, .slice none 0 0] 26)) gx 26 [.slice none 0 0, .slice none 0 0, .slice none 0 0] := by rw [hgx]; exact HT.new (w := wA9)
              rw [← hgx]
              clear hgx
              refine hK.out _ _ (fun x => (fun x => (BL wr) x ∧ OwnRoll x wr.heap.size (.slice aM2 nM2 cM2) (.slice aI2 nI2 cI2) (.slice aA2 nA2 cA2) X.2) x ∧ HT x gx 26 [.slice none 0 0, .slice none 0 0, .slice none 0 0]) (Cls.and (Cls.and (BL.cls wr) (fun _ _ h hb => OwnRoll.below h hb)) (fun _ _ h hb => HT.below h hb)) ⟨⟨Below.next hA9.1 hbx, OwnRoll.below hA9.2 hbx⟩, hnew⟩ ?_
              clear hK K
              try simp only
              refine wpAnyU_ready (rs := [10]) (by kernel_rfl) (by simp) ?_
              refine AllReadyU.cons (o := { dst := none, op := Op.store 26 (Operand.tmp 7) (Operand.tmp 42), type := 0, pos := "law.go:167", after := #[{ on := 9, ground := Ground.data }, { on := 7, ground := Ground.data }, { on := 5, ground := Ground.chain }, { on := 0, ground := Ground.phase }, { on := 1, ground := Ground.phase }, { on := 2, ground := Ground.phase }, { on := 3, ground := Ground.phase }, { on := 4, ground := Ground.phase }, { on := 5, ground := Ground.phase }, { on := 6, ground := Ground.phase }, { on := 7, ground := Ground.phase }, { on := 8, ground := Ground.textOnly Departure.lateStores }, { on := 9, ground := Ground.phase }], guard := none }) rfl (fun wA10 hA10 K hK => ?_) AllReadyU.nil
              have hg1 := hA10.2
              refine step_store_mid rfl 26 (.tmp 7) (.tmp 42) rfl gx 0 [.slice aM2 nM2 cM2, .slice aI2 nI2 cI2, .slice aA2 nA2 cA2] rfl rfl (fun j hj => ⟨hg1.isSome (by simpa using hj), hg1.frozen _⟩) (by rw [rol_sz]; rfl) (by simp [Value.oneCell']) ?_
              have hput := hg1.puts (o := 0) (vs := [.slice aM2 nM2 cM2, .slice aI2 nI2 cI2, .slice aA2 nA2 cA2]) (by simp)
              rw [splice_all (by simp)] at hput
              have hk9 := setCells_kept gx [.slice aM2 nM2 cM2, .slice aI2 nI2 cI2, .slice aA2 nA2 cA2] 0 wA10
              have hbl : BL wr (wA10.setCells gx 0 [.slice aM2 nM2 cM2, .slice aI2 nI2 cI2, .slice aA2 nA2 cA2]) := Below.puts hA10.1.1 HGX.out _ _
              have hown : OwnRoll (wA10.setCells gx 0 [.slice aM2 nM2 cM2, .slice aI2 nI2 cI2, .slice aA2 nA2 cA2]) wr.heap.size (.slice aM2 nM2 cM2) (.slice aI2 nI2 cI2) (.slice aA2 nA2 cA2) X.2 := OwnRoll.keptQ hA10.1.2 hk9 (fun q hq (e : q = gx) => HAP.out q hq e)
              refine hK.out _ _ (fun x => (BL wr x ∧ OwnRoll x wr.heap.size (.slice aM2 nM2 cM2) (.slice aI2 nI2 cI2) (.slice aA2 nA2 cA2) X.2) ∧ HT x gx 26 [.slice aM2 nM2 cM2, .slice aI2 nI2 cI2, .slice aA2 nA2 cA2]) (Cls.and (Cls.and (BL.cls wr) (fun _ _ h hb => OwnRoll.below h hb)) (fun _ _ h hb => HT.below h hb)) ⟨⟨hbl, hown⟩, hput⟩ ?_
              clear hput hk9 hbl hown hg1
              clear hK K
              try simp only [Act.put]
              refine wpAnyU_take (i := 11) (oi := { dst := some 8, op := Op.assign (Operand.tmp 43), type := 30, pos := "law.go:167", after := #[{ on := 8, ground := Ground.data }, { on := 10, ground := Ground.chain }, { on := 0, ground := Ground.phase }, { on := 1, ground := Ground.phase }, { on := 2, ground := Ground.phase }, { on := 3, ground := Ground.phase }, { on := 4, ground := Ground.phase }, { on := 5, ground := Ground.phase }, { on := 6, ground := Ground.phase }, { on := 7, ground := Ground.phase }, { on := 8, ground := Ground.phase }, { on := 9, ground := Ground.phase }, { on := 10, ground := Ground.phase }], guard := none }) (v := (.int .i64 X.1)) rfl (by kernel_rfl) (by kernel_rfl) (by kernel_rfl) (by kernel_rfl) (by kernel_rfl) (fun _ _ _ h => h) (Cls.and (Cls.and (BL.cls wr) (fun _ _ h hb => OwnRoll.below h hb)) (fun _ _ h hb => HT.below h hb)) ?_ ?_
              · refine Or.inl ⟨rfl, fun w hSw => ?_⟩
                exact EffR.same (by go_simp)
              try simp only [Act.put, List.setIfInBounds_toArray, List.set_cons_zero, List.set_cons_succ]
              refine wpAnyU_done (by kernel_rfl) (fun w1 hb1 => ?_) _
              have HB9 : Hid (Below wr.heap.size wr w1) := hb1.1.1
              have HOT := Lib.hid hb1.1.2
              have HTB := Lib.hid hb1.2
              clear hb1
              by_cases h0 : X.1 = 0
              · obtain ⟨_, hst⟩ := HAN.out.resolve_right (fun h => h.1 h0)
                have HGD2 := Lib.hid hst.ok
                clear hst
                have HSZs : Hid ((Try.prog.info? 26).map (·.size) = some (#[.slice aM2 nM2 cM2, .slice aI2 nI2 cI2, .slice aA2 nA2 cA2] : Array Value).size) := by show _ = _; rw [rol_sz]; rfl
                have HONs : Hid ((#[.slice aM2 nM2 cM2, .slice aI2 nI2 cI2, .slice aA2 nA2 cA2] : Array Value).all (·.oneCell') = true) := by show _ = true; simp [Value.oneCell']
                have HTBx : Hid (w1.heap[gx]? = some (.cells #[.slice aM2 nM2 cM2, .slice aI2 nI2 cI2, .slice aA2 nA2 cA2] 26 (0, 0))) := HTB.out
                have HRBx : Hid (w1.heap[gr]? = some (.cells #[.slice aM nM cM, .slice aI nI cI, .slice aA nA cA] 26 (0, 0))) := HRB.out.below HB9.out
                have hz : (X.1 == 0) = true := by simpa using h0
                clear h0
                go_wp2_with (first
                  | (refine wpList_load_row rfl 26 (.tmp 7) rfl gx rfl 26 #[.slice aM2 nM2 cM2, .slice aI2 nI2 cI2, .slice aA2 nA2 cA2] (0, 0) _ HTBx.out Try.underlying26 rfl HSZs.out ?_)
                  | (refine wpList_store_row rfl 26 (.tmp 5) (.tmp 46) rfl gr #[.slice aM2 nM2 cM2, .slice aI2 nI2 cI2, .slice aA2 nA2 cA2] rfl rfl 26 #[.slice aM nM cM, .slice aI nI cI, .slice aA nA cA] HRBx.out HSZs.out rfl HONs.out ?_)
                  | fail)
                have hro := HOT.out.keptQ (setRow_kept w1 gr #[.slice aM2 nM2 cM2, .slice aI2 nI2 cI2, .slice aA2 nA2 cA2]) (fun q hq (e : q = gr) => by have h1 := HRB.out.lt; rcases hq with hq | hq | hq; (have := OwnR.ge HOT.out.1 q hq; omega); (have := OwnR.ge HOT.out.2.1 q hq; omega); (have := OwnR.ge HOT.out.2.2 q hq; omega))
                exact ⟨⟨k + 1, X.2, aM2, nM2, cM2, aI2, nI2, cI2, aA2, nA2, cA2, by omega, by push_cast; rfl, HT.row HRBx.out rfl, hro.in, HGD2.out, (bgoS HBL.out HB9.out).trans (setRow_below HGR.out _)⟩, by simp [intOf]; omega⟩
              · have hz : (X.1 == 0) = false := by simpa using h0
                clear h0
                go_wp2_with fail
                exact ⟨⟨k + 1, R, aM, nM, cM, aI, nI, cI, aA, nA, cA, by omega, by push_cast; rfl, HRB.out.below HB9.out, HRW.out.mono HB9.out, HGD.out, bgoS HBL.out HB9.out⟩, by simp [intOf]; omega⟩
            · go_simp
              obtain ⟨gx, hgx⟩ : ∃ gx, gx = wA9.heap.size := ⟨_, rfl⟩
              have HGX : Hid (wr.heap.size ≤ gx) := by show _ ≤ _; have := Below.size hA9; omega
              have hbx : Below wA9.heap.size wA9 (wA9.alloc (.cells #[.slice none 0 0, .slice none 0 0, .slice none 0 0] 26)) := (Below.refl _ _).alloc (Nat.le_refl _) _
              have hnew : HT (wA9.alloc (.cells #[.slice none 0 0, .slice none 0 0, .slice none 0 0] 26)) gx 26 [.slice none 0 0, .slice none 0 0, .slice none 0 0] := by rw [hgx]; exact HT.new (w := wA9)
              rw [← hgx]
              clear hgx
              refine hK.out _ _ (fun x => (BL wr) x ∧ HT x gx 26 [.slice none 0 0, .slice none 0 0, .slice none 0 0]) (Cls.and (BL.cls wr) (fun _ _ h hb => HT.below h hb)) ⟨Below.next hA9 hbx, hnew⟩ ?_
              clear hK K
              try simp only [Act.put, List.setIfInBounds_toArray, List.set_cons_zero, List.set_cons_succ]
              refine wpAnyU_ready (rs := [5]) (by kernel_rfl) (by simp) ?_
              refine AllReadyU.cons (o := { dst := some 41, op := Op.call { callee := Callee.value (Operand.func 41), args := #[Operand.tmp 36, Operand.tmp 40], argTypes := #[26, 64] }, type := 56, pos := "law.go:167", after := #[{ on := 0, ground := Ground.data }, { on := 4, ground := Ground.data }], guard := none }) rfl (fun wA5 hA5 K hK => ?_) AllReadyU.nil
              go_simp
              refine (do_any wA5 _ _ _ R c (HRW.out.mono hA5.1) HFEW.out).mono ?_
              rw [← HX.out]
              rintro e wn5 ⟨aM2, nM2, cM2, aI2, nI2, cI2, aA2, nA2, cA2, rfl, ho, hbn⟩
              have HAP : Hid (∀ q, ((Value.slice aM2 nM2 cM2).ownBlock = some q ∨ (Value.slice aI2 nI2 cI2).ownBlock = some q ∨ (Value.slice aA2 nA2 cA2).ownBlock = some q) → q ≠ gx) := fun q hq => by
                have h1 := HT.lt hA5.2
                rcases hq with hq | hq | hq
                · have := OwnR.ge ho.1 q hq; omega
                · have := OwnR.ge ho.2.1 q hq; omega
                · have := OwnR.ge ho.2.2 q hq; omega
              refine hK.out _ _ (fun x => (fun x => (BL wr) x ∧ HT x gx 26 [.slice none 0 0, .slice none 0 0, .slice none 0 0]) x ∧ OwnRoll x wr.heap.size (.slice aM2 nM2 cM2) (.slice aI2 nI2 cI2) (.slice aA2 nA2 cA2) X.2) (Cls.and (Cls.and (BL.cls wr) (fun _ _ h hb => HT.below h hb)) (fun _ _ h hb => OwnRoll.below h hb)) ⟨⟨Below.next hA5.1 hbn, HT.below hA5.2 hbn⟩, ho.base (Below.size hA5.1)⟩ ?_
              clear hK K
              try simp only
              refine wpAnyU_take (i := 6) (oi := { dst := some 35, op := Op.move (Operand.tmp 41), type := 56, pos := "law.go:167", after := #[{ on := 5, ground := Ground.data }], guard := none }) (v := (.tuple #[.agg #[.slice aM2 nM2 cM2, .slice aI2 nI2 cI2, .slice aA2 nA2 cA2], .int .i64 X.1])) rfl (by kernel_rfl) (by kernel_rfl) (by kernel_rfl) (by kernel_rfl) (by kernel_rfl) (fun _ _ _ h => h) (Cls.and (Cls.and (BL.cls wr) (fun _ _ h hb => HT.below h hb)) (fun _ _ h hb => OwnRoll.below h hb)) ?_ ?_
              · refine Or.inl ⟨rfl, fun w hSw => ?_⟩
                exact EffR.same (by go_simp)
              try simp only [Act.put, List.setIfInBounds_toArray, List.set_cons_zero, List.set_cons_succ]
              refine wpAnyU_take (i := 7) (oi := { dst := some 42, op := Op.extract (Operand.tmp 35) 0, type := 26, pos := "law.go:167", after := #[{ on := 6, ground := Ground.data }], guard := none }) (v := (.agg #[.slice aM2 nM2 cM2, .slice aI2 nI2 cI2, .slice aA2 nA2 cA2])) rfl (by kernel_rfl) (by kernel_rfl) (by kernel_rfl) (by kernel_rfl) (by kernel_rfl) (fun _ _ _ h => h) (Cls.and (Cls.and (BL.cls wr) (fun _ _ h hb => HT.below h hb)) (fun _ _ h hb => OwnRoll.below h hb)) ?_ ?_
              · refine Or.inl ⟨rfl, fun w hSw => ?_⟩
                exact EffR.same (by go_simp)
              try simp only [Act.put, List.setIfInBounds_toArray, List.set_cons_zero, List.set_cons_succ]
              refine wpAnyU_take (i := 8) (oi := { dst := some 43, op := Op.extract (Operand.tmp 35) 1, type := 30, pos := "law.go:167", after := #[{ on := 6, ground := Ground.data }, { on := 10, ground := Ground.gcOnly Departure.lateStores }], guard := none }) (v := (.int .i64 X.1)) rfl (by kernel_rfl) (by kernel_rfl) (by kernel_rfl) (by kernel_rfl) (by kernel_rfl) (fun _ _ _ h => h) (Cls.and (Cls.and (BL.cls wr) (fun _ _ h hb => HT.below h hb)) (fun _ _ h hb => OwnRoll.below h hb)) ?_ ?_
              · refine Or.inl ⟨rfl, fun w hSw => ?_⟩
                exact EffR.same (by go_simp)
              try simp only [Act.put, List.setIfInBounds_toArray, List.set_cons_zero, List.set_cons_succ]
              refine wpAnyU_ready (rs := [10]) (by kernel_rfl) (by simp) ?_
              refine AllReadyU.cons (o := { dst := none, op := Op.store 26 (Operand.tmp 7) (Operand.tmp 42), type := 0, pos := "law.go:167", after := #[{ on := 9, ground := Ground.data }, { on := 7, ground := Ground.data }, { on := 5, ground := Ground.chain }, { on := 0, ground := Ground.phase }, { on := 1, ground := Ground.phase }, { on := 2, ground := Ground.phase }, { on := 3, ground := Ground.phase }, { on := 4, ground := Ground.phase }, { on := 5, ground := Ground.phase }, { on := 6, ground := Ground.phase }, { on := 7, ground := Ground.phase }, { on := 8, ground := Ground.textOnly Departure.lateStores }, { on := 9, ground := Ground.phase }], guard := none }) rfl (fun wA10 hA10 K hK => ?_) AllReadyU.nil
              have hg1 := hA10.1.2
              refine step_store_mid rfl 26 (.tmp 7) (.tmp 42) rfl gx 0 [.slice aM2 nM2 cM2, .slice aI2 nI2 cI2, .slice aA2 nA2 cA2] rfl rfl (fun j hj => ⟨hg1.isSome (by simpa using hj), hg1.frozen _⟩) (by rw [rol_sz]; rfl) (by simp [Value.oneCell']) ?_
              have hput := hg1.puts (o := 0) (vs := [.slice aM2 nM2 cM2, .slice aI2 nI2 cI2, .slice aA2 nA2 cA2]) (by simp)
              rw [splice_all (by simp)] at hput
              have hk9 := setCells_kept gx [.slice aM2 nM2 cM2, .slice aI2 nI2 cI2, .slice aA2 nA2 cA2] 0 wA10
              have hbl : BL wr (wA10.setCells gx 0 [.slice aM2 nM2 cM2, .slice aI2 nI2 cI2, .slice aA2 nA2 cA2]) := Below.puts hA10.1.1 HGX.out _ _
              have hown : OwnRoll (wA10.setCells gx 0 [.slice aM2 nM2 cM2, .slice aI2 nI2 cI2, .slice aA2 nA2 cA2]) wr.heap.size (.slice aM2 nM2 cM2) (.slice aI2 nI2 cI2) (.slice aA2 nA2 cA2) X.2 := OwnRoll.keptQ hA10.2 hk9 (fun q hq (e : q = gx) => HAP.out q hq e)
              refine hK.out _ _ (fun x => (BL wr x ∧ OwnRoll x wr.heap.size (.slice aM2 nM2 cM2) (.slice aI2 nI2 cI2) (.slice aA2 nA2 cA2) X.2) ∧ HT x gx 26 [.slice aM2 nM2 cM2, .slice aI2 nI2 cI2, .slice aA2 nA2 cA2]) (Cls.and (Cls.and (BL.cls wr) (fun _ _ h hb => OwnRoll.below h hb)) (fun _ _ h hb => HT.below h hb)) ⟨⟨hbl, hown⟩, hput⟩ ?_
              clear hput hk9 hbl hown hg1
              clear hK K
              try simp only [Act.put]
              refine wpAnyU_take (i := 11) (oi := { dst := some 8, op := Op.assign (Operand.tmp 43), type := 30, pos := "law.go:167", after := #[{ on := 8, ground := Ground.data }, { on := 10, ground := Ground.chain }, { on := 0, ground := Ground.phase }, { on := 1, ground := Ground.phase }, { on := 2, ground := Ground.phase }, { on := 3, ground := Ground.phase }, { on := 4, ground := Ground.phase }, { on := 5, ground := Ground.phase }, { on := 6, ground := Ground.phase }, { on := 7, ground := Ground.phase }, { on := 8, ground := Ground.phase }, { on := 9, ground := Ground.phase }, { on := 10, ground := Ground.phase }], guard := none }) (v := (.int .i64 X.1)) rfl (by kernel_rfl) (by kernel_rfl) (by kernel_rfl) (by kernel_rfl) (by kernel_rfl) (fun _ _ _ h => h) (Cls.and (Cls.and (BL.cls wr) (fun _ _ h hb => OwnRoll.below h hb)) (fun _ _ h hb => HT.below h hb)) ?_ ?_
              · refine Or.inl ⟨rfl, fun w hSw => ?_⟩
                exact EffR.same (by go_simp)
              try simp only [Act.put, List.setIfInBounds_toArray, List.set_cons_zero, List.set_cons_succ]
              refine wpAnyU_done (by kernel_rfl) (fun w1 hb1 => ?_) _
              have HB9 : Hid (Below wr.heap.size wr w1) := hb1.1.1
              have HOT := Lib.hid hb1.1.2
              have HTB := Lib.hid hb1.2
              clear hb1
              by_cases h0 : X.1 = 0
              · obtain ⟨_, hst⟩ := HAN.out.resolve_right (fun h => h.1 h0)
                have HGD2 := Lib.hid hst.ok
                clear hst
                have HSZs : Hid ((Try.prog.info? 26).map (·.size) = some (#[.slice aM2 nM2 cM2, .slice aI2 nI2 cI2, .slice aA2 nA2 cA2] : Array Value).size) := by show _ = _; rw [rol_sz]; rfl
                have HONs : Hid ((#[.slice aM2 nM2 cM2, .slice aI2 nI2 cI2, .slice aA2 nA2 cA2] : Array Value).all (·.oneCell') = true) := by show _ = true; simp [Value.oneCell']
                have HTBx : Hid (w1.heap[gx]? = some (.cells #[.slice aM2 nM2 cM2, .slice aI2 nI2 cI2, .slice aA2 nA2 cA2] 26 (0, 0))) := HTB.out
                have HRBx : Hid (w1.heap[gr]? = some (.cells #[.slice aM nM cM, .slice aI nI cI, .slice aA nA cA] 26 (0, 0))) := HRB.out.below HB9.out
                have hz : (X.1 == 0) = true := by simpa using h0
                clear h0
                go_wp2_with (first
                  | (refine wpList_load_row rfl 26 (.tmp 7) rfl gx rfl 26 #[.slice aM2 nM2 cM2, .slice aI2 nI2 cI2, .slice aA2 nA2 cA2] (0, 0) _ HTBx.out Try.underlying26 rfl HSZs.out ?_)
                  | (refine wpList_store_row rfl 26 (.tmp 5) (.tmp 46) rfl gr #[.slice aM2 nM2 cM2, .slice aI2 nI2 cI2, .slice aA2 nA2 cA2] rfl rfl 26 #[.slice aM nM cM, .slice aI nI cI, .slice aA nA cA] HRBx.out HSZs.out rfl HONs.out ?_)
                  | fail)
                have hro := HOT.out.keptQ (setRow_kept w1 gr #[.slice aM2 nM2 cM2, .slice aI2 nI2 cI2, .slice aA2 nA2 cA2]) (fun q hq (e : q = gr) => by have h1 := HRB.out.lt; rcases hq with hq | hq | hq; (have := OwnR.ge HOT.out.1 q hq; omega); (have := OwnR.ge HOT.out.2.1 q hq; omega); (have := OwnR.ge HOT.out.2.2 q hq; omega))
                exact ⟨⟨k + 1, X.2, aM2, nM2, cM2, aI2, nI2, cI2, aA2, nA2, cA2, by omega, by push_cast; rfl, HT.row HRBx.out rfl, hro.in, HGD2.out, (bgoS HBL.out HB9.out).trans (setRow_below HGR.out _)⟩, by simp [intOf]; omega⟩
              · have hz : (X.1 == 0) = false := by simpa using h0
                clear h0
                go_wp2_with fail
                exact ⟨⟨k + 1, R, aM, nM, cM, aI, nI, cI, aA, nA, cA, by omega, by push_cast; rfl, HRB.out.below HB9.out, HRW.out.mono HB9.out, HGD.out, bgoS HBL.out HB9.out⟩, by simp [intOf]; omega⟩
          · have hor : (k < n ∧ ¬ k < 100) ∨ ¬ k < n := by omega
            clear hlt
            rcases hor with ⟨h1, h2⟩ | h1
            all_goals
              go_wp2_with fail
              go_meet
              exact ⟨R, aM, nM, cM, aI, nI, cI, aA, nA, cA, HRB.out, HRW.out, HGD.out, HBL.out⟩
      case rest =>
        obtain ⟨R, aM, nM, cM, aI, nI, cI, aA, nA, cA, hrb, hri, HGD, hbel⟩ := hcut
        have HRB := Lib.hid hrb
        have HRW := Lib.hid hri
        have HBL := Lib.hid hbel
        clear hrb hri hbel hm
        have HRW0 := HRW
        have HNM := Lib.hid HRW.out.1.n
        have hbd : nM ≤ 1000 := by have h1 := HNM.out; have := chkR_few HGD.out; unfold few at this; omega
        have HCA := Lib.hid (cntS_all HGD.out)
        have HFEW := Lib.hid (chkR_few HGD.out)
        go_wp2_with fail
        go_loopw [9, 10] (fun v9 v10 wr => ∃ j : Nat, 1 ≤ j ∧ j ≤ 4 ∧ v10 = .int .i64 (j : Int) ∧ v9 = .int .i64 ((cntS R j : Nat) : Int) ∧ HT wr gr 26 [.slice aM nM cM, .slice aI nI cI, .slice aA nA cA] ∧ RollIn wr (.slice aM nM cM) (.slice aI nI cI) (.slice aA nA cA) R ∧ Below W.heap.size W wr) (fun _ v _ => 4 - (intOf v).toNat)
        case atStart => exact ⟨1, by omega, by omega, rfl, rfl, HRB.out, HRW.out, HBL.out⟩
        case round =>
          obtain ⟨j, hj1, hj4, rfl, rfl, hr, hw, hbel⟩ := hrel
          have HRi := Lib.hid hr
          have HWi := Lib.hid hw
          have HBi := Lib.hid hbel
          clear hr hw hbel
          have HCL := Lib.hid (cntS_le R j)
          by_cases hle : j ≤ 3
          · have HNX := Lib.hid (cntS_next R hj1)
            have hcl : cntS R j ≤ 4000 := by have h1 := HCL.out; rw [← HNM.out] at h1; have h2 : j * nM ≤ 4 * nM := Nat.mul_le_mul_right _ hj4; omega
            obtain ⟨cj, hcj⟩ : ∃ z, z = cntS R j := ⟨_, rfl⟩
            rw [← hcj] at HNX hcl ⊢
            clear hcj HCL
            have hba : Below wr.heap.size wr (wr.alloc (.cells #[.int .i64 (j : Int)] 3)) := (Below.refl _ _).alloc (Nat.le_refl _) _
            have hlit : Is (wr.alloc (.cells #[.int .i64 (j : Int)] 3)) (.slice (some ⟨wr.heap.size, 0, none⟩) 1 1) [(j : Int)] := Is.lit1 wr (j : Int) 3
            have th := Those_any (wr.alloc (.cells #[.int .i64 (j : Int)] 3)) _ _ _ _ R [(j : Int)] (HWi.out.mono hba) HFEW.out hlit
            have HBA := Lib.hid hba
            clear hba hlit
            have HSZr : Hid ((Try.prog.info? 26).map (·.size) = some (#[.slice aM nM cM, .slice aI nI cI, .slice aA nA cA] : Array Value).size) := by show _ = _; rw [rol_sz]; rfl
            have HONr : Hid ((#[.slice aM nM cM, .slice aI nI cI, .slice aA nA cA] : Array Value).all (·.oneCell') = true) := by show _ = true; simp [Value.oneCell']
            have HRix : Hid (wr.heap[gr]? = some (.cells #[.slice aM nM cM, .slice aI nI cI, .slice aA nA cA] 26 (0, 0))) := HRi.out
            have hjj : (j : Int) ≤ 3 := by omega
            go_wp2_with (first
              | (refine wpList_load_row rfl 26 (.tmp 5) rfl gr rfl 26 #[.slice aM nM cM, .slice aI nI cI, .slice aA nA cA] (0, 0) _ HRix.out Try.underlying26 rfl HSZr.out ?_)
              | fail)
            (with_reducible refine th.mono ?_)
            clear th HRix
            rintro e w2 ⟨a6, n6, c6, rfl, ho, hb⟩
            have hn6 : n6 = (thoseR R [(j : Int)]).length := by obtain ⟨a9, c9, e9, _⟩ := ho.is.shape; simp only [Value.slice.injEq] at e9; exact e9.2.1
            have hl6 : n6 ≤ 1000 := by rw [hn6]; have := thoseR_len R [(j : Int)]; rw [← HNM.out] at this; omega
            have HN6 := Lib.hid hn6
            have HBB := Lib.hid (HBA.out.next hb)
            clear ho hb hn6
            have HR2 := Lib.hid (HRi.out.below HBB.out)
            have HW2 := Lib.hid (HWi.out.mono HBB.out)
            have HB2 := Lib.hid (HBi.out.trans (HBB.out.mono HBi.out.size))
            go_wp2_with fail
            exact ⟨⟨j + 1, by omega, by omega, by push_cast; rfl, by rw [HNX.out, ← HN6.out]; push_cast; rfl, HR2.out, HW2.out, HB2.out⟩, by simp [intOf]; omega⟩
          · obtain rfl : j = 4 := by omega
            rw [HCA.out, ← HNM.out]
            clear HCL
            have th := Those_any wr _ _ _ _ R sts HWi.out HFEW.out (HS.out.mono HBi.out)
            have HSZr : Hid ((Try.prog.info? 26).map (·.size) = some (#[.slice aM nM cM, .slice aI nI cI, .slice aA nA cA] : Array Value).size) := by show _ = _; rw [rol_sz]; rfl
            have HONr : Hid ((#[.slice aM nM cM, .slice aI nI cI, .slice aA nA cA] : Array Value).all (·.oneCell') = true) := by show _ = true; simp [Value.oneCell']
            have HRix : Hid (wr.heap[gr]? = some (.cells #[.slice aM nM cM, .slice aI nI cI, .slice aA nA cA] 26 (0, 0))) := HRi.out
            go_wp2_with (first
              | (refine wpList_load_row rfl 26 (.tmp 5) rfl gr rfl 26 #[.slice aM nM cM, .slice aI nI cI, .slice aA nA cA] (0, 0) _ HRix.out Try.underlying26 rfl HSZr.out ?_)
              | fail)
            (with_reducible refine th.mono ?_)
            clear th HRix
            rintro e w2 ⟨aL, nL, cL, rfl, ho, hb⟩
            have HNL : Hid (nL = (thoseR R sts).length) := by obtain ⟨a9, c9, e9, _⟩ := ho.is.shape; simp only [Value.slice.injEq] at e9; exact e9.2.1
            have hl6 : nL ≤ 1000 := by rw [HNL.out]; have := thoseR_len R sts; rw [← HNM.out] at this; omega
            have HL2 := Lib.hid ho.is
            have HR2 := Lib.hid (HRi.out.below hb)
            have HW2 := Lib.hid (HWi.out.mono hb)
            have HB2 := Lib.hid (bgo HBi.out hb HBi.out.size)
            clear ho hb HRi HWi
            have HTA := Lib.hid (thoseTo_all R sts (k := nM) (by have := HNM.out; omega))
            have HT0 : Hid ((thoseTo R sts 0).length = 0) := rfl
            go_wp2_with fail
            go_loopw [12, 13] (fun v12 v13 wr => ∃ i : Nat, i ≤ nM ∧ v13 = .int .i64 (i : Int) ∧ v12 = .int .i64 (((thoseTo R sts i).length : Nat) : Int) ∧ Is wr (.slice aL nL cL) (thoseR R sts) ∧ HT wr gr 26 [.slice aM nM cM, .slice aI nI cI, .slice aA nA cA] ∧ RollIn wr (.slice aM nM cM) (.slice aI nI cI) (.slice aA nA cA) R ∧ Below W.heap.size W wr) (fun _ v _ => nM - (intOf v).toNat)
            case atStart => exact ⟨0, Nat.zero_le _, rfl, by rw [HT0.out]; rfl, HL2.out, HR2.out, HW2.out, HB2.out⟩
            case round =>
              obtain ⟨i, hi, rfl, rfl, hl, hr, hw, hbel⟩ := hrel
              have HRi := Lib.hid hr
              have HWi := Lib.hid hw
              have HBj := Lib.hid hbel
              have HLi := Lib.hid hl
              clear hr hw hbel hl
              have hd0 := HRi.out.cell (j := 0) rfl
              have hkb : (thoseTo R sts i).length ≤ 1000 := by have := thoseTo_len R sts i; omega
              by_cases hlt : i < nM
              · have hiR : i < R.M.length := by rw [← HNM.out]; exact hlt
                obtain ⟨gb, ob, rfl, _, hcb⟩ := HWi.out.1.at (by omega) (by decide)
                obtain ⟨c, hc⟩ : ∃ c, c = R.M[i] := ⟨_, rfl⟩
                have HCB : Hid (∀ j v, [.int .i64 c.no, .int .i64 c.state, .int .i64 c.need][j]? = some v → wr.cell? ⟨gb, ob + i * 3 + j, none⟩ = some v) := fun j v h => hcb i hiR j v (by rw [← hc]; exact h)
                have hi0 : (0 : Int) ≤ i := by omega
                have hi1 : (i : Int) < nM := by omega
                have HCC := Lib.hid hc
                obtain ⟨K, hK⟩ : ∃ z, z = (thoseTo R sts i).length := ⟨_, rfl⟩
                have HK := Lib.hid hK
                rw [← hK] at hkb ⊢
                clear hcb hc hK
                go_wp2_with fail
                clear hd0
                generalize wr = wo at *
                go_loopw [14, 15] (fun v14 v15 wr => ∃ j : Nat, j ≤ m ∧ v15 = .int .i64 (j : Int) ∧ v14 = .bool (inB (sts.take j) c.state) ∧ Below wo.heap.size wo wr) (fun _ v _ => m - (intOf v).toNat)
                case atStart => exact ⟨0, Nat.zero_le _, rfl, rfl, Below.refl _ _⟩
                case round =>
                  obtain ⟨j, hj, rfl, rfl, hbel⟩ := hrel
                  have HBk := Lib.hid hbel
                  clear hbel
                  obtain ⟨b, hb⟩ : ∃ b, b = inB (sts.take j) c.state := ⟨_, rfl⟩
                  rw [← hb]
                  have HBV := Lib.hid hb
                  clear hb
                  by_cases hjm : j < m
                  · have hjs : j < sts.length := by rw [← HMM.out]; exact hjm
                    obtain ⟨ga, oa, rfl, _, hca⟩ := (HS.out.mono (HBj.out.trans (HBk.out.mono HBj.out.size))).at (by omega)
                    obtain ⟨x, hx⟩ : ∃ x, x = sts[j] := ⟨_, rfl⟩
                    have hxc := hca j hjs
                    rw [← hx] at hxc
                    have HX0 := Lib.hid hxc
                    have HR0 := Lib.hid ((HRi.out.below HBk.out).cell (j := 0) rfl)
                    have HC1 : Hid (wr.cell? ⟨gb, ob + i * 3 + 1, none⟩ = some (.int .i64 c.state)) := BL.cell (W := wo) HBk.out (HCB.out 1 _ rfl)
                    have hnx := inB_next (s := c.state) hjs
                    rw [← HBV.out, ← hx] at hnx
                    have hj0 : (0 : Int) ≤ j := by omega
                    have hj1 : (j : Int) < m := by omega
                    clear hca hx hxc
                    cases b
                    case true =>
                      have HNX : Hid (inB (sts.take (j + 1)) c.state = true) := by show _ = _; rw [hnx]; rfl
                      clear hnx HBV
                      go_wp2_with fail
                      refine wp_region_bl 15 (by kernel_rfl) ?_
                      refine wpAnyU_take (i := 0) (oi := { dst := some 74, op := Op.move (Operand.tmp 14), type := 4, pos := "law.go:181", after := #[], guard := none }) (v := (.bool true)) rfl (by kernel_rfl) (by kernel_rfl) (by kernel_rfl) (by kernel_rfl) (by kernel_rfl) (fun _ _ _ h => h) (BL.cls wr) ?_ ?_
                      · refine Or.inl ⟨rfl, fun w hSw => ?_⟩
                        exact EffR.same (by go_simp)
                      try simp only [Act.put, List.setIfInBounds_toArray, List.set_cons_zero, List.set_cons_succ]
                      refine wpAnyU_take (i := 1) (oi := { dst := some 75, op := Op.move (Operand.tmp 74), type := 4, pos := "law.go:181", after := #[{ on := 0, ground := Ground.data }], guard := none }) (v := (.bool true)) rfl (by kernel_rfl) (by kernel_rfl) (by kernel_rfl) (by kernel_rfl) (by kernel_rfl) (fun _ _ _ h => h) (BL.cls wr) ?_ ?_
                      · refine Or.inl ⟨rfl, fun w hSw => ?_⟩
                        exact EffR.same (by go_simp)
                      try simp only [Act.put, List.setIfInBounds_toArray, List.set_cons_zero, List.set_cons_succ]
                      refine wpAnyU_take (i := 2) (oi := { dst := some 76, op := Op.move (Operand.tmp 1), type := 27, pos := "law.go:181", after := #[{ on := 1, ground := Ground.guard }], guard := some (1, false) }) (v := undef) rfl (by kernel_rfl) (by kernel_rfl) (by kernel_rfl) (by kernel_rfl) (by kernel_rfl) (fun _ _ _ h => h) (BL.cls wr) ?_ ?_
                      · exact Or.inr ⟨rfl, rfl⟩
                      try simp only [Act.put, List.setIfInBounds_toArray, List.set_cons_zero, List.set_cons_succ]
                      refine wpAnyU_take (i := 3) (oi := { dst := some 77, op := Op.move (Operand.tmp 15), type := 3, pos := "law.go:181", after := #[{ on := 1, ground := Ground.guard }], guard := some (1, false) }) (v := undef) rfl (by kernel_rfl) (by kernel_rfl) (by kernel_rfl) (by kernel_rfl) (by kernel_rfl) (fun _ _ _ h => h) (BL.cls wr) ?_ ?_
                      · exact Or.inr ⟨rfl, rfl⟩
                      try simp only [Act.put, List.setIfInBounds_toArray, List.set_cons_zero, List.set_cons_succ]
                      refine wpAnyU_take (i := 4) (oi := { dst := some 78, op := Op.indexAddr 27 (Operand.tmp 76) (Operand.tmp 77), type := 0, pos := "law.go:181", after := #[{ on := 2, ground := Ground.data }, { on := 3, ground := Ground.data }, { on := 1, ground := Ground.guard }], guard := some (1, false) }) (v := undef) rfl (by kernel_rfl) (by kernel_rfl) (by kernel_rfl) (by kernel_rfl) (by kernel_rfl) (fun _ _ _ h => h) (BL.cls wr) ?_ ?_
                      · exact Or.inr ⟨rfl, rfl⟩
                      try simp only [Act.put, List.setIfInBounds_toArray, List.set_cons_zero, List.set_cons_succ]
                      refine wpAnyU_take (i := 5) (oi := { dst := some 79, op := Op.load 3 (Operand.tmp 78), type := 3, pos := "law.go:181", after := #[{ on := 4, ground := Ground.data }, { on := 1, ground := Ground.guard }], guard := some (1, false) }) (v := undef) rfl (by kernel_rfl) (by kernel_rfl) (by kernel_rfl) (by kernel_rfl) (by kernel_rfl) (fun _ _ _ h => h) (BL.cls wr) ?_ ?_
                      · exact Or.inr ⟨rfl, rfl⟩
                      try simp only [Act.put, List.setIfInBounds_toArray, List.set_cons_zero, List.set_cons_succ]
                      refine wpAnyU_take (i := 6) (oi := { dst := some 80, op := Op.fieldAddr 26 (Operand.tmp 5) 0, type := 0, pos := "law.go:181", after := #[{ on := 1, ground := Ground.guard }], guard := some (1, false) }) (v := undef) rfl (by kernel_rfl) (by kernel_rfl) (by kernel_rfl) (by kernel_rfl) (by kernel_rfl) (fun _ _ _ h => h) (BL.cls wr) ?_ ?_
                      · exact Or.inr ⟨rfl, rfl⟩
                      try simp only [Act.put, List.setIfInBounds_toArray, List.set_cons_zero, List.set_cons_succ]
                      refine wpAnyU_take (i := 7) (oi := { dst := some 81, op := Op.load 22 (Operand.tmp 80), type := 22, pos := "law.go:181", after := #[{ on := 6, ground := Ground.data }, { on := 1, ground := Ground.guard }], guard := some (1, false) }) (v := undef) rfl (by kernel_rfl) (by kernel_rfl) (by kernel_rfl) (by kernel_rfl) (by kernel_rfl) (fun _ _ _ h => h) (BL.cls wr) ?_ ?_
                      · exact Or.inr ⟨rfl, rfl⟩
                      try simp only [Act.put, List.setIfInBounds_toArray, List.set_cons_zero, List.set_cons_succ]
                      refine wpAnyU_take (i := 8) (oi := { dst := some 82, op := Op.move (Operand.tmp 13), type := 3, pos := "law.go:181", after := #[{ on := 1, ground := Ground.guard }], guard := some (1, false) }) (v := undef) rfl (by kernel_rfl) (by kernel_rfl) (by kernel_rfl) (by kernel_rfl) (by kernel_rfl) (fun _ _ _ h => h) (BL.cls wr) ?_ ?_
                      · exact Or.inr ⟨rfl, rfl⟩
                      try simp only [Act.put, List.setIfInBounds_toArray, List.set_cons_zero, List.set_cons_succ]
                      refine wpAnyU_take (i := 9) (oi := { dst := some 83, op := Op.indexAddr 22 (Operand.tmp 81) (Operand.tmp 82), type := 0, pos := "law.go:181", after := #[{ on := 7, ground := Ground.data }, { on := 8, ground := Ground.data }, { on := 1, ground := Ground.guard }], guard := some (1, false) }) (v := undef) rfl (by kernel_rfl) (by kernel_rfl) (by kernel_rfl) (by kernel_rfl) (by kernel_rfl) (fun _ _ _ h => h) (BL.cls wr) ?_ ?_
                      · exact Or.inr ⟨rfl, rfl⟩
                      try simp only [Act.put, List.setIfInBounds_toArray, List.set_cons_zero, List.set_cons_succ]
                      refine wpAnyU_take (i := 10) (oi := { dst := some 84, op := Op.fieldAddr 33 (Operand.tmp 83) 1, type := 0, pos := "law.go:181", after := #[{ on := 9, ground := Ground.data }, { on := 1, ground := Ground.guard }], guard := some (1, false) }) (v := undef) rfl (by kernel_rfl) (by kernel_rfl) (by kernel_rfl) (by kernel_rfl) (by kernel_rfl) (fun _ _ _ h => h) (BL.cls wr) ?_ ?_
                      · exact Or.inr ⟨rfl, rfl⟩
                      try simp only [Act.put, List.setIfInBounds_toArray, List.set_cons_zero, List.set_cons_succ]
                      refine wpAnyU_take (i := 11) (oi := { dst := some 85, op := Op.load 3 (Operand.tmp 84), type := 3, pos := "law.go:181", after := #[{ on := 10, ground := Ground.data }, { on := 1, ground := Ground.guard }], guard := some (1, false) }) (v := undef) rfl (by kernel_rfl) (by kernel_rfl) (by kernel_rfl) (by kernel_rfl) (by kernel_rfl) (fun _ _ _ h => h) (BL.cls wr) ?_ ?_
                      · exact Or.inr ⟨rfl, rfl⟩
                      try simp only [Act.put, List.setIfInBounds_toArray, List.set_cons_zero, List.set_cons_succ]
                      refine wpAnyU_take (i := 12) (oi := { dst := some 86, op := Op.binOp BinOp.eql 3 (Operand.tmp 79) (Operand.tmp 85) 3, type := 4, pos := "law.go:181", after := #[{ on := 5, ground := Ground.data }, { on := 11, ground := Ground.data }, { on := 1, ground := Ground.guard }], guard := some (1, false) }) (v := undef) rfl (by kernel_rfl) (by kernel_rfl) (by kernel_rfl) (by kernel_rfl) (by kernel_rfl) (fun _ _ _ h => h) (BL.cls wr) ?_ ?_
                      · exact Or.inr ⟨rfl, rfl⟩
                      try simp only [Act.put, List.setIfInBounds_toArray, List.set_cons_zero, List.set_cons_succ]
                      refine wpAnyU_take (i := 13) (oi := { dst := some 87, op := Op.pick (Operand.tmp 75) (Operand.const (Value.bool true)) (Operand.tmp 86), type := 4, pos := "law.go:181", after := #[{ on := 1, ground := Ground.data }, { on := 12, ground := Ground.data }], guard := none }) (v := (.bool true)) rfl (by kernel_rfl) (by kernel_rfl) (by kernel_rfl) (by kernel_rfl) (by kernel_rfl) (fun _ _ _ h => h) (BL.cls wr) ?_ ?_
                      · refine Or.inl ⟨rfl, fun w hSw => ?_⟩
                        exact EffR.same (by go_simp)
                      try simp only [Act.put, List.setIfInBounds_toArray, List.set_cons_zero, List.set_cons_succ]
                      refine wpAnyU_take (i := 14) (oi := { dst := some 14, op := Op.assign (Operand.tmp 87), type := 4, pos := "law.go:181", after := #[{ on := 13, ground := Ground.data }, { on := 1, ground := Ground.chain }, { on := 0, ground := Ground.phase }, { on := 1, ground := Ground.phase }, { on := 2, ground := Ground.phase }, { on := 3, ground := Ground.phase }, { on := 4, ground := Ground.phase }, { on := 5, ground := Ground.phase }, { on := 6, ground := Ground.phase }, { on := 7, ground := Ground.phase }, { on := 8, ground := Ground.phase }, { on := 9, ground := Ground.phase }, { on := 10, ground := Ground.phase }, { on := 11, ground := Ground.phase }, { on := 12, ground := Ground.phase }, { on := 13, ground := Ground.phase }], guard := none }) (v := (.bool true)) rfl (by kernel_rfl) (by kernel_rfl) (by kernel_rfl) (by kernel_rfl) (by kernel_rfl) (fun _ _ _ h => h) (BL.cls wr) ?_ ?_
                      · refine Or.inl ⟨rfl, fun w hSw => ?_⟩
                        exact EffR.same (by go_simp)
                      try simp only [Act.put, List.setIfInBounds_toArray, List.set_cons_zero, List.set_cons_succ]
                      refine wpAnyU_done (by kernel_rfl) (fun w1 hb1 => ?_) _
                      have HBn := Lib.hid (HBk.out.next hb1)
                      clear hb1
                      go_wp2_with fail
                      exact ⟨⟨j + 1, by omega, by push_cast; rfl, by rw [HNX.out], HBn.out⟩, by simp [intOf]; omega⟩
                    case false =>
                      by_cases hxe : x = c.state
                      · have hxe2 : (x == c.state) = true := by simpa using hxe
                        have HNX : Hid (inB (sts.take (j + 1)) c.state = true) := by show _ = _; rw [hnx, hxe2]; rfl
                        clear hnx HBV hxe
                        go_wp2_with fail
                        refine wp_region_bl 15 (by kernel_rfl) ?_
                        refine wpAnyU_take (i := 0) (oi := { dst := some 74, op := Op.move (Operand.tmp 14), type := 4, pos := "law.go:181", after := #[], guard := none }) (v := (.bool false)) rfl (by kernel_rfl) (by kernel_rfl) (by kernel_rfl) (by kernel_rfl) (by kernel_rfl) (fun _ _ _ h => h) (BL.cls wr) ?_ ?_
                        · refine Or.inl ⟨rfl, fun w hSw => ?_⟩
                          exact EffR.same (by go_simp)
                        try simp only [Act.put, List.setIfInBounds_toArray, List.set_cons_zero, List.set_cons_succ]
                        refine wpAnyU_take (i := 1) (oi := { dst := some 75, op := Op.move (Operand.tmp 74), type := 4, pos := "law.go:181", after := #[{ on := 0, ground := Ground.data }], guard := none }) (v := (.bool false)) rfl (by kernel_rfl) (by kernel_rfl) (by kernel_rfl) (by kernel_rfl) (by kernel_rfl) (fun _ _ _ h => h) (BL.cls wr) ?_ ?_
                        · refine Or.inl ⟨rfl, fun w hSw => ?_⟩
                          exact EffR.same (by go_simp)
                        try simp only [Act.put, List.setIfInBounds_toArray, List.set_cons_zero, List.set_cons_succ]
                        refine wpAnyU_take (i := 2) (oi := { dst := some 76, op := Op.move (Operand.tmp 1), type := 27, pos := "law.go:181", after := #[{ on := 1, ground := Ground.guard }], guard := some (1, false) }) (v := (.slice (some ⟨ga, oa, none⟩) m cap1)) rfl (by kernel_rfl) (by kernel_rfl) (by kernel_rfl) (by kernel_rfl) (by kernel_rfl) (fun _ _ _ h => h) (BL.cls wr) ?_ ?_
                        · refine Or.inl ⟨rfl, fun w hSw => ?_⟩
                          exact EffR.same (by go_simp)
                        try simp only [Act.put, List.setIfInBounds_toArray, List.set_cons_zero, List.set_cons_succ]
                        refine wpAnyU_take (i := 3) (oi := { dst := some 77, op := Op.move (Operand.tmp 15), type := 3, pos := "law.go:181", after := #[{ on := 1, ground := Ground.guard }], guard := some (1, false) }) (v := (.int .i64 (j : Int))) rfl (by kernel_rfl) (by kernel_rfl) (by kernel_rfl) (by kernel_rfl) (by kernel_rfl) (fun _ _ _ h => h) (BL.cls wr) ?_ ?_
                        · refine Or.inl ⟨rfl, fun w hSw => ?_⟩
                          exact EffR.same (by go_simp)
                        try simp only [Act.put, List.setIfInBounds_toArray, List.set_cons_zero, List.set_cons_succ]
                        refine wpAnyU_take (i := 4) (oi := { dst := some 78, op := Op.indexAddr 27 (Operand.tmp 76) (Operand.tmp 77), type := 0, pos := "law.go:181", after := #[{ on := 2, ground := Ground.data }, { on := 3, ground := Ground.data }, { on := 1, ground := Ground.guard }], guard := some (1, false) }) (v := (.pointer (some ⟨ga, oa + j, none⟩))) rfl (by kernel_rfl) (by kernel_rfl) (by kernel_rfl) (by kernel_rfl) (by kernel_rfl) (fun _ _ _ h => h) (BL.cls wr) ?_ ?_
                        · refine Or.inl ⟨rfl, fun w hSw => ?_⟩
                          exact EffR.same (by go_simp)
                        try simp only [Act.put, List.setIfInBounds_toArray, List.set_cons_zero, List.set_cons_succ]
                        refine wpAnyU_take (i := 5) (oi := { dst := some 79, op := Op.load 3 (Operand.tmp 78), type := 3, pos := "law.go:181", after := #[{ on := 4, ground := Ground.data }, { on := 1, ground := Ground.guard }], guard := some (1, false) }) (v := (.int .i64 x)) rfl (by kernel_rfl) (by kernel_rfl) (by kernel_rfl) (by kernel_rfl) (by kernel_rfl) (fun _ _ _ h => h) (BL.cls wr) ?_ ?_
                        · refine Or.inl ⟨rfl, fun w hSw => ?_⟩
                          have e0 : w.cell? ⟨ga, oa + j, none⟩ = some (.int .i64 x) := BL.cell hSw HX0.out
                          exact EffR.same (by go_simp)
                        try simp only [Act.put, List.setIfInBounds_toArray, List.set_cons_zero, List.set_cons_succ]
                        refine wpAnyU_take (i := 6) (oi := { dst := some 80, op := Op.fieldAddr 26 (Operand.tmp 5) 0, type := 0, pos := "law.go:181", after := #[{ on := 1, ground := Ground.guard }], guard := some (1, false) }) (v := (.pointer (some ⟨gr, 0, none⟩))) rfl (by kernel_rfl) (by kernel_rfl) (by kernel_rfl) (by kernel_rfl) (by kernel_rfl) (fun _ _ _ h => h) (BL.cls wr) ?_ ?_
                        · refine Or.inl ⟨rfl, fun w hSw => ?_⟩
                          exact EffR.same (by go_simp)
                        try simp only [Act.put, List.setIfInBounds_toArray, List.set_cons_zero, List.set_cons_succ]
                        refine wpAnyU_take (i := 7) (oi := { dst := some 81, op := Op.load 22 (Operand.tmp 80), type := 22, pos := "law.go:181", after := #[{ on := 6, ground := Ground.data }, { on := 1, ground := Ground.guard }], guard := some (1, false) }) (v := (.slice (some ⟨gb, ob, none⟩) nM cM)) rfl (by kernel_rfl) (by kernel_rfl) (by kernel_rfl) (by kernel_rfl) (by kernel_rfl) (fun _ _ _ h => h) (BL.cls wr) ?_ ?_
                        · refine Or.inl ⟨rfl, fun w hSw => ?_⟩
                          have e0 : w.cell? ⟨gr, 0, none⟩ = some (.slice (some ⟨gb, ob, none⟩) nM cM) := BL.cell hSw HR0.out
                          exact EffR.same (by go_simp)
                        try simp only [Act.put, List.setIfInBounds_toArray, List.set_cons_zero, List.set_cons_succ]
                        refine wpAnyU_take (i := 8) (oi := { dst := some 82, op := Op.move (Operand.tmp 13), type := 3, pos := "law.go:181", after := #[{ on := 1, ground := Ground.guard }], guard := some (1, false) }) (v := (.int .i64 (i : Int))) rfl (by kernel_rfl) (by kernel_rfl) (by kernel_rfl) (by kernel_rfl) (by kernel_rfl) (fun _ _ _ h => h) (BL.cls wr) ?_ ?_
                        · refine Or.inl ⟨rfl, fun w hSw => ?_⟩
                          exact EffR.same (by go_simp)
                        try simp only [Act.put, List.setIfInBounds_toArray, List.set_cons_zero, List.set_cons_succ]
                        refine wpAnyU_take (i := 9) (oi := { dst := some 83, op := Op.indexAddr 22 (Operand.tmp 81) (Operand.tmp 82), type := 0, pos := "law.go:181", after := #[{ on := 7, ground := Ground.data }, { on := 8, ground := Ground.data }, { on := 1, ground := Ground.guard }], guard := some (1, false) }) (v := (.pointer (some ⟨gb, ob + i * 3, none⟩))) rfl (by kernel_rfl) (by kernel_rfl) (by kernel_rfl) (by kernel_rfl) (by kernel_rfl) (fun _ _ _ h => h) (BL.cls wr) ?_ ?_
                        · refine Or.inl ⟨rfl, fun w hSw => ?_⟩
                          exact EffR.same (by go_simp)
                        try simp only [Act.put, List.setIfInBounds_toArray, List.set_cons_zero, List.set_cons_succ]
                        refine wpAnyU_take (i := 10) (oi := { dst := some 84, op := Op.fieldAddr 33 (Operand.tmp 83) 1, type := 0, pos := "law.go:181", after := #[{ on := 9, ground := Ground.data }, { on := 1, ground := Ground.guard }], guard := some (1, false) }) (v := (.pointer (some ⟨gb, ob + i * 3 + 1, none⟩))) rfl (by kernel_rfl) (by kernel_rfl) (by kernel_rfl) (by kernel_rfl) (by kernel_rfl) (fun _ _ _ h => h) (BL.cls wr) ?_ ?_
                        · refine Or.inl ⟨rfl, fun w hSw => ?_⟩
                          exact EffR.same (by go_simp)
                        try simp only [Act.put, List.setIfInBounds_toArray, List.set_cons_zero, List.set_cons_succ]
                        refine wpAnyU_take (i := 11) (oi := { dst := some 85, op := Op.load 3 (Operand.tmp 84), type := 3, pos := "law.go:181", after := #[{ on := 10, ground := Ground.data }, { on := 1, ground := Ground.guard }], guard := some (1, false) }) (v := (.int .i64 c.state)) rfl (by kernel_rfl) (by kernel_rfl) (by kernel_rfl) (by kernel_rfl) (by kernel_rfl) (fun _ _ _ h => h) (BL.cls wr) ?_ ?_
                        · refine Or.inl ⟨rfl, fun w hSw => ?_⟩
                          have e0 : w.cell? ⟨gb, ob + i * 3 + 1, none⟩ = some (.int .i64 c.state) := BL.cell hSw HC1.out
                          exact EffR.same (by go_simp)
                        try simp only [Act.put, List.setIfInBounds_toArray, List.set_cons_zero, List.set_cons_succ]
                        refine wpAnyU_take (i := 12) (oi := { dst := some 86, op := Op.binOp BinOp.eql 3 (Operand.tmp 79) (Operand.tmp 85) 3, type := 4, pos := "law.go:181", after := #[{ on := 5, ground := Ground.data }, { on := 11, ground := Ground.data }, { on := 1, ground := Ground.guard }], guard := some (1, false) }) (v := (.bool true)) rfl (by kernel_rfl) (by kernel_rfl) (by kernel_rfl) (by kernel_rfl) (by kernel_rfl) (fun _ _ _ h => h) (BL.cls wr) ?_ ?_
                        · refine Or.inl ⟨rfl, fun w hSw => ?_⟩
                          exact EffR.same (by go_simp)
                        try simp only [Act.put, List.setIfInBounds_toArray, List.set_cons_zero, List.set_cons_succ]
                        refine wpAnyU_take (i := 13) (oi := { dst := some 87, op := Op.pick (Operand.tmp 75) (Operand.const (Value.bool true)) (Operand.tmp 86), type := 4, pos := "law.go:181", after := #[{ on := 1, ground := Ground.data }, { on := 12, ground := Ground.data }], guard := none }) (v := (.bool true)) rfl (by kernel_rfl) (by kernel_rfl) (by kernel_rfl) (by kernel_rfl) (by kernel_rfl) (fun _ _ _ h => h) (BL.cls wr) ?_ ?_
                        · refine Or.inl ⟨rfl, fun w hSw => ?_⟩
                          exact EffR.same (by go_simp)
                        try simp only [Act.put, List.setIfInBounds_toArray, List.set_cons_zero, List.set_cons_succ]
                        refine wpAnyU_take (i := 14) (oi := { dst := some 14, op := Op.assign (Operand.tmp 87), type := 4, pos := "law.go:181", after := #[{ on := 13, ground := Ground.data }, { on := 1, ground := Ground.chain }, { on := 0, ground := Ground.phase }, { on := 1, ground := Ground.phase }, { on := 2, ground := Ground.phase }, { on := 3, ground := Ground.phase }, { on := 4, ground := Ground.phase }, { on := 5, ground := Ground.phase }, { on := 6, ground := Ground.phase }, { on := 7, ground := Ground.phase }, { on := 8, ground := Ground.phase }, { on := 9, ground := Ground.phase }, { on := 10, ground := Ground.phase }, { on := 11, ground := Ground.phase }, { on := 12, ground := Ground.phase }, { on := 13, ground := Ground.phase }], guard := none }) (v := (.bool true)) rfl (by kernel_rfl) (by kernel_rfl) (by kernel_rfl) (by kernel_rfl) (by kernel_rfl) (fun _ _ _ h => h) (BL.cls wr) ?_ ?_
                        · refine Or.inl ⟨rfl, fun w hSw => ?_⟩
                          exact EffR.same (by go_simp)
                        try simp only [Act.put, List.setIfInBounds_toArray, List.set_cons_zero, List.set_cons_succ]
                        refine wpAnyU_done (by kernel_rfl) (fun w1 hb1 => ?_) _
                        have HBn := Lib.hid (HBk.out.next hb1)
                        clear hb1
                        go_wp2_with fail
                        exact ⟨⟨j + 1, by omega, by push_cast; rfl, by rw [HNX.out], HBn.out⟩, by simp [intOf]; omega⟩
                      · have hxe2 : (x == c.state) = false := by simpa using hxe
                        have HNX : Hid (inB (sts.take (j + 1)) c.state = false) := by show _ = _; rw [hnx, hxe2]; rfl
                        clear hnx HBV hxe
                        go_wp2_with fail
                        refine wp_region_bl 15 (by kernel_rfl) ?_
                        refine wpAnyU_take (i := 0) (oi := { dst := some 74, op := Op.move (Operand.tmp 14), type := 4, pos := "law.go:181", after := #[], guard := none }) (v := (.bool false)) rfl (by kernel_rfl) (by kernel_rfl) (by kernel_rfl) (by kernel_rfl) (by kernel_rfl) (fun _ _ _ h => h) (BL.cls wr) ?_ ?_
                        · refine Or.inl ⟨rfl, fun w hSw => ?_⟩
                          exact EffR.same (by go_simp)
                        try simp only [Act.put, List.setIfInBounds_toArray, List.set_cons_zero, List.set_cons_succ]
                        refine wpAnyU_take (i := 1) (oi := { dst := some 75, op := Op.move (Operand.tmp 74), type := 4, pos := "law.go:181", after := #[{ on := 0, ground := Ground.data }], guard := none }) (v := (.bool false)) rfl (by kernel_rfl) (by kernel_rfl) (by kernel_rfl) (by kernel_rfl) (by kernel_rfl) (fun _ _ _ h => h) (BL.cls wr) ?_ ?_
                        · refine Or.inl ⟨rfl, fun w hSw => ?_⟩
                          exact EffR.same (by go_simp)
                        try simp only [Act.put, List.setIfInBounds_toArray, List.set_cons_zero, List.set_cons_succ]
                        refine wpAnyU_take (i := 2) (oi := { dst := some 76, op := Op.move (Operand.tmp 1), type := 27, pos := "law.go:181", after := #[{ on := 1, ground := Ground.guard }], guard := some (1, false) }) (v := (.slice (some ⟨ga, oa, none⟩) m cap1)) rfl (by kernel_rfl) (by kernel_rfl) (by kernel_rfl) (by kernel_rfl) (by kernel_rfl) (fun _ _ _ h => h) (BL.cls wr) ?_ ?_
                        · refine Or.inl ⟨rfl, fun w hSw => ?_⟩
                          exact EffR.same (by go_simp)
                        try simp only [Act.put, List.setIfInBounds_toArray, List.set_cons_zero, List.set_cons_succ]
                        refine wpAnyU_take (i := 3) (oi := { dst := some 77, op := Op.move (Operand.tmp 15), type := 3, pos := "law.go:181", after := #[{ on := 1, ground := Ground.guard }], guard := some (1, false) }) (v := (.int .i64 (j : Int))) rfl (by kernel_rfl) (by kernel_rfl) (by kernel_rfl) (by kernel_rfl) (by kernel_rfl) (fun _ _ _ h => h) (BL.cls wr) ?_ ?_
                        · refine Or.inl ⟨rfl, fun w hSw => ?_⟩
                          exact EffR.same (by go_simp)
                        try simp only [Act.put, List.setIfInBounds_toArray, List.set_cons_zero, List.set_cons_succ]
                        refine wpAnyU_take (i := 4) (oi := { dst := some 78, op := Op.indexAddr 27 (Operand.tmp 76) (Operand.tmp 77), type := 0, pos := "law.go:181", after := #[{ on := 2, ground := Ground.data }, { on := 3, ground := Ground.data }, { on := 1, ground := Ground.guard }], guard := some (1, false) }) (v := (.pointer (some ⟨ga, oa + j, none⟩))) rfl (by kernel_rfl) (by kernel_rfl) (by kernel_rfl) (by kernel_rfl) (by kernel_rfl) (fun _ _ _ h => h) (BL.cls wr) ?_ ?_
                        · refine Or.inl ⟨rfl, fun w hSw => ?_⟩
                          exact EffR.same (by go_simp)
                        try simp only [Act.put, List.setIfInBounds_toArray, List.set_cons_zero, List.set_cons_succ]
                        refine wpAnyU_take (i := 5) (oi := { dst := some 79, op := Op.load 3 (Operand.tmp 78), type := 3, pos := "law.go:181", after := #[{ on := 4, ground := Ground.data }, { on := 1, ground := Ground.guard }], guard := some (1, false) }) (v := (.int .i64 x)) rfl (by kernel_rfl) (by kernel_rfl) (by kernel_rfl) (by kernel_rfl) (by kernel_rfl) (fun _ _ _ h => h) (BL.cls wr) ?_ ?_
                        · refine Or.inl ⟨rfl, fun w hSw => ?_⟩
                          have e0 : w.cell? ⟨ga, oa + j, none⟩ = some (.int .i64 x) := BL.cell hSw HX0.out
                          exact EffR.same (by go_simp)
                        try simp only [Act.put, List.setIfInBounds_toArray, List.set_cons_zero, List.set_cons_succ]
                        refine wpAnyU_take (i := 6) (oi := { dst := some 80, op := Op.fieldAddr 26 (Operand.tmp 5) 0, type := 0, pos := "law.go:181", after := #[{ on := 1, ground := Ground.guard }], guard := some (1, false) }) (v := (.pointer (some ⟨gr, 0, none⟩))) rfl (by kernel_rfl) (by kernel_rfl) (by kernel_rfl) (by kernel_rfl) (by kernel_rfl) (fun _ _ _ h => h) (BL.cls wr) ?_ ?_
                        · refine Or.inl ⟨rfl, fun w hSw => ?_⟩
                          exact EffR.same (by go_simp)
                        try simp only [Act.put, List.setIfInBounds_toArray, List.set_cons_zero, List.set_cons_succ]
                        refine wpAnyU_take (i := 7) (oi := { dst := some 81, op := Op.load 22 (Operand.tmp 80), type := 22, pos := "law.go:181", after := #[{ on := 6, ground := Ground.data }, { on := 1, ground := Ground.guard }], guard := some (1, false) }) (v := (.slice (some ⟨gb, ob, none⟩) nM cM)) rfl (by kernel_rfl) (by kernel_rfl) (by kernel_rfl) (by kernel_rfl) (by kernel_rfl) (fun _ _ _ h => h) (BL.cls wr) ?_ ?_
                        · refine Or.inl ⟨rfl, fun w hSw => ?_⟩
                          have e0 : w.cell? ⟨gr, 0, none⟩ = some (.slice (some ⟨gb, ob, none⟩) nM cM) := BL.cell hSw HR0.out
                          exact EffR.same (by go_simp)
                        try simp only [Act.put, List.setIfInBounds_toArray, List.set_cons_zero, List.set_cons_succ]
                        refine wpAnyU_take (i := 8) (oi := { dst := some 82, op := Op.move (Operand.tmp 13), type := 3, pos := "law.go:181", after := #[{ on := 1, ground := Ground.guard }], guard := some (1, false) }) (v := (.int .i64 (i : Int))) rfl (by kernel_rfl) (by kernel_rfl) (by kernel_rfl) (by kernel_rfl) (by kernel_rfl) (fun _ _ _ h => h) (BL.cls wr) ?_ ?_
                        · refine Or.inl ⟨rfl, fun w hSw => ?_⟩
                          exact EffR.same (by go_simp)
                        try simp only [Act.put, List.setIfInBounds_toArray, List.set_cons_zero, List.set_cons_succ]
                        refine wpAnyU_take (i := 9) (oi := { dst := some 83, op := Op.indexAddr 22 (Operand.tmp 81) (Operand.tmp 82), type := 0, pos := "law.go:181", after := #[{ on := 7, ground := Ground.data }, { on := 8, ground := Ground.data }, { on := 1, ground := Ground.guard }], guard := some (1, false) }) (v := (.pointer (some ⟨gb, ob + i * 3, none⟩))) rfl (by kernel_rfl) (by kernel_rfl) (by kernel_rfl) (by kernel_rfl) (by kernel_rfl) (fun _ _ _ h => h) (BL.cls wr) ?_ ?_
                        · refine Or.inl ⟨rfl, fun w hSw => ?_⟩
                          exact EffR.same (by go_simp)
                        try simp only [Act.put, List.setIfInBounds_toArray, List.set_cons_zero, List.set_cons_succ]
                        refine wpAnyU_take (i := 10) (oi := { dst := some 84, op := Op.fieldAddr 33 (Operand.tmp 83) 1, type := 0, pos := "law.go:181", after := #[{ on := 9, ground := Ground.data }, { on := 1, ground := Ground.guard }], guard := some (1, false) }) (v := (.pointer (some ⟨gb, ob + i * 3 + 1, none⟩))) rfl (by kernel_rfl) (by kernel_rfl) (by kernel_rfl) (by kernel_rfl) (by kernel_rfl) (fun _ _ _ h => h) (BL.cls wr) ?_ ?_
                        · refine Or.inl ⟨rfl, fun w hSw => ?_⟩
                          exact EffR.same (by go_simp)
                        try simp only [Act.put, List.setIfInBounds_toArray, List.set_cons_zero, List.set_cons_succ]
                        refine wpAnyU_take (i := 11) (oi := { dst := some 85, op := Op.load 3 (Operand.tmp 84), type := 3, pos := "law.go:181", after := #[{ on := 10, ground := Ground.data }, { on := 1, ground := Ground.guard }], guard := some (1, false) }) (v := (.int .i64 c.state)) rfl (by kernel_rfl) (by kernel_rfl) (by kernel_rfl) (by kernel_rfl) (by kernel_rfl) (fun _ _ _ h => h) (BL.cls wr) ?_ ?_
                        · refine Or.inl ⟨rfl, fun w hSw => ?_⟩
                          have e0 : w.cell? ⟨gb, ob + i * 3 + 1, none⟩ = some (.int .i64 c.state) := BL.cell hSw HC1.out
                          exact EffR.same (by go_simp)
                        try simp only [Act.put, List.setIfInBounds_toArray, List.set_cons_zero, List.set_cons_succ]
                        refine wpAnyU_take (i := 12) (oi := { dst := some 86, op := Op.binOp BinOp.eql 3 (Operand.tmp 79) (Operand.tmp 85) 3, type := 4, pos := "law.go:181", after := #[{ on := 5, ground := Ground.data }, { on := 11, ground := Ground.data }, { on := 1, ground := Ground.guard }], guard := some (1, false) }) (v := (.bool false)) rfl (by kernel_rfl) (by kernel_rfl) (by kernel_rfl) (by kernel_rfl) (by kernel_rfl) (fun _ _ _ h => h) (BL.cls wr) ?_ ?_
                        · refine Or.inl ⟨rfl, fun w hSw => ?_⟩
                          exact EffR.same (by go_simp)
                        try simp only [Act.put, List.setIfInBounds_toArray, List.set_cons_zero, List.set_cons_succ]
                        refine wpAnyU_take (i := 13) (oi := { dst := some 87, op := Op.pick (Operand.tmp 75) (Operand.const (Value.bool true)) (Operand.tmp 86), type := 4, pos := "law.go:181", after := #[{ on := 1, ground := Ground.data }, { on := 12, ground := Ground.data }], guard := none }) (v := (.bool false)) rfl (by kernel_rfl) (by kernel_rfl) (by kernel_rfl) (by kernel_rfl) (by kernel_rfl) (fun _ _ _ h => h) (BL.cls wr) ?_ ?_
                        · refine Or.inl ⟨rfl, fun w hSw => ?_⟩
                          exact EffR.same (by go_simp)
                        try simp only [Act.put, List.setIfInBounds_toArray, List.set_cons_zero, List.set_cons_succ]
                        refine wpAnyU_take (i := 14) (oi := { dst := some 14, op := Op.assign (Operand.tmp 87), type := 4, pos := "law.go:181", after := #[{ on := 13, ground := Ground.data }, { on := 1, ground := Ground.chain }, { on := 0, ground := Ground.phase }, { on := 1, ground := Ground.phase }, { on := 2, ground := Ground.phase }, { on := 3, ground := Ground.phase }, { on := 4, ground := Ground.phase }, { on := 5, ground := Ground.phase }, { on := 6, ground := Ground.phase }, { on := 7, ground := Ground.phase }, { on := 8, ground := Ground.phase }, { on := 9, ground := Ground.phase }, { on := 10, ground := Ground.phase }, { on := 11, ground := Ground.phase }, { on := 12, ground := Ground.phase }, { on := 13, ground := Ground.phase }], guard := none }) (v := (.bool false)) rfl (by kernel_rfl) (by kernel_rfl) (by kernel_rfl) (by kernel_rfl) (by kernel_rfl) (fun _ _ _ h => h) (BL.cls wr) ?_ ?_
                        · refine Or.inl ⟨rfl, fun w hSw => ?_⟩
                          exact EffR.same (by go_simp)
                        try simp only [Act.put, List.setIfInBounds_toArray, List.set_cons_zero, List.set_cons_succ]
                        refine wpAnyU_done (by kernel_rfl) (fun w1 hb1 => ?_) _
                        have HBn := Lib.hid (HBk.out.next hb1)
                        clear hb1
                        go_wp2_with fail
                        exact ⟨⟨j + 1, by omega, by push_cast; rfl, by rw [HNX.out], HBn.out⟩, by simp [intOf]; omega⟩
                  · obtain rfl : j = m := by omega
                    have HIS : Hid (b = inB sts c.state) := by show _ = _; rw [HBV.out, List.take_of_length_le (by rw [← HMM.out]; exact Nat.le_refl _)]
                    have HRk := Lib.hid (HRi.out.below HBk.out)
                    have HWk := Lib.hid (HWi.out.mono HBk.out)
                    have HLk := Lib.hid (HLi.out.mono HBk.out)
                    have HBq := Lib.hid (bgo HBj.out HBk.out HBj.out.size)
                    have HNX := Lib.hid (thoseTo_next (sts := sts) hiR)
                    clear HBV
                    cases b
                    case true =>
                      have his : inB sts R.M[i].state = true := by rw [← HCC.out]; exact HIS.out.symm
                      have hat := those_at hiR his
                      rw [← HCC.out, ← HK.out] at hat
                      have hKn : K < (thoseR R sts).length := by rcases Nat.lt_or_ge K (thoseR R sts).length with h | h; exact h; rw [List.getElem?_eq_none h] at hat; cases hat
                      obtain ⟨gc, oc, rfl, _, hcl⟩ := HLk.out.at (by omega)
                      have hx := hcl K hKn
                      rw [List.getElem?_eq_getElem hKn] at hat
                      simp only [Option.some.injEq] at hat
                      rw [hat] at hx
                      have HX0 := Lib.hid hx
                      have HR0 := Lib.hid (HRk.out.cell (j := 0) rfl)
                      have HC1 : Hid (wr.cell? ⟨gb, ob + i * 3, none⟩ = some (.int .i64 c.no)) := BL.cell (W := wo) HBk.out (HCB.out 0 _ rfl)
                      have HK2 : Hid ((thoseTo R sts (i + 1)).length = K + 1) := by show _ = _; rw [HNX.out, if_pos his, List.length_append, ← HK.out]; rfl
                      have hK0 : (0 : Int) ≤ K := by omega
                      have hK1 : K < nL := by rw [HNL.out]; exact hKn
                      have hK2 : (K : Int) < nL := by omega
                      have hdl : decide (nL ≤ K) = false := by simpa using hK1
                      clear hcl hat hx his hKn
                      go_wp2_with fail
                      refine wp_region_bl 17 (by kernel_rfl) ?_
                      refine wpAnyU_take (i := 0) (oi := { dst := some 89, op := Op.move (Operand.tmp 12), type := 3, pos := "law.go:184", after := #[], guard := none }) (v := (.int .i64 (K : Int))) rfl (by kernel_rfl) (by kernel_rfl) (by kernel_rfl) (by kernel_rfl) (by kernel_rfl) (fun _ _ _ h => h) (BL.cls wr) ?_ ?_
                      · refine Or.inl ⟨rfl, fun w hSw => ?_⟩
                        exact EffR.same (by go_simp)
                      try simp only [Act.put, List.setIfInBounds_toArray, List.set_cons_zero, List.set_cons_succ]
                      refine wpAnyU_take (i := 1) (oi := { dst := some 90, op := Op.move (Operand.tmp 11), type := 27, pos := "law.go:184", after := #[], guard := none }) (v := (.slice (some ⟨gc, oc, none⟩) nL cL)) rfl (by kernel_rfl) (by kernel_rfl) (by kernel_rfl) (by kernel_rfl) (by kernel_rfl) (fun _ _ _ h => h) (BL.cls wr) ?_ ?_
                      · refine Or.inl ⟨rfl, fun w hSw => ?_⟩
                        exact EffR.same (by go_simp)
                      try simp only [Act.put, List.setIfInBounds_toArray, List.set_cons_zero, List.set_cons_succ]
                      refine wpAnyU_take (i := 2) (oi := { dst := some 91, op := Op.call { callee := Callee.builtin Builtin.len, args := #[Operand.tmp 90], argTypes := #[27] }, type := 3, pos := "law.go:184", after := #[{ on := 1, ground := Ground.data }], guard := none }) (v := (.int .i64 (nL : Int))) rfl (by kernel_rfl) (by kernel_rfl) (by kernel_rfl) (by kernel_rfl) (by kernel_rfl) (fun _ _ _ h => h) (BL.cls wr) ?_ ?_
                      · refine Or.inl ⟨rfl, fun w hSw => ?_⟩
                        exact EffR.same (by go_simp)
                      try simp only [Act.put, List.setIfInBounds_toArray, List.set_cons_zero, List.set_cons_succ]
                      refine wpAnyU_take (i := 3) (oi := { dst := some 92, op := Op.binOp BinOp.geq 3 (Operand.tmp 89) (Operand.tmp 91) 3, type := 4, pos := "law.go:184", after := #[{ on := 0, ground := Ground.data }, { on := 2, ground := Ground.data }], guard := none }) (v := (.bool false)) rfl (by kernel_rfl) (by kernel_rfl) (by kernel_rfl) (by kernel_rfl) (by kernel_rfl) (fun _ _ _ h => h) (BL.cls wr) ?_ ?_
                      · refine Or.inl ⟨rfl, fun w hSw => ?_⟩
                        exact EffR.same (by go_simp)
                      try simp only [Act.put, List.setIfInBounds_toArray, List.set_cons_zero, List.set_cons_succ]
                      refine wpAnyU_take (i := 4) (oi := { dst := some 93, op := Op.move (Operand.tmp 92), type := 4, pos := "law.go:184", after := #[{ on := 3, ground := Ground.data }], guard := none }) (v := (.bool false)) rfl (by kernel_rfl) (by kernel_rfl) (by kernel_rfl) (by kernel_rfl) (by kernel_rfl) (fun _ _ _ h => h) (BL.cls wr) ?_ ?_
                      · refine Or.inl ⟨rfl, fun w hSw => ?_⟩
                        exact EffR.same (by go_simp)
                      try simp only [Act.put, List.setIfInBounds_toArray, List.set_cons_zero, List.set_cons_succ]
                      refine wpAnyU_take (i := 5) (oi := { dst := some 94, op := Op.move (Operand.tmp 11), type := 27, pos := "law.go:184", after := #[{ on := 4, ground := Ground.guard }], guard := some (4, false) }) (v := (.slice (some ⟨gc, oc, none⟩) nL cL)) rfl (by kernel_rfl) (by kernel_rfl) (by kernel_rfl) (by kernel_rfl) (by kernel_rfl) (fun _ _ _ h => h) (BL.cls wr) ?_ ?_
                      · refine Or.inl ⟨rfl, fun w hSw => ?_⟩
                        exact EffR.same (by go_simp)
                      try simp only [Act.put, List.setIfInBounds_toArray, List.set_cons_zero, List.set_cons_succ]
                      refine wpAnyU_take (i := 6) (oi := { dst := some 95, op := Op.move (Operand.tmp 12), type := 3, pos := "law.go:184", after := #[{ on := 4, ground := Ground.guard }], guard := some (4, false) }) (v := (.int .i64 (K : Int))) rfl (by kernel_rfl) (by kernel_rfl) (by kernel_rfl) (by kernel_rfl) (by kernel_rfl) (fun _ _ _ h => h) (BL.cls wr) ?_ ?_
                      · refine Or.inl ⟨rfl, fun w hSw => ?_⟩
                        exact EffR.same (by go_simp)
                      try simp only [Act.put, List.setIfInBounds_toArray, List.set_cons_zero, List.set_cons_succ]
                      refine wpAnyU_take (i := 7) (oi := { dst := some 96, op := Op.indexAddr 27 (Operand.tmp 94) (Operand.tmp 95), type := 0, pos := "law.go:184", after := #[{ on := 5, ground := Ground.data }, { on := 6, ground := Ground.data }, { on := 4, ground := Ground.guard }], guard := some (4, false) }) (v := (.pointer (some ⟨gc, oc + K, none⟩))) rfl (by kernel_rfl) (by kernel_rfl) (by kernel_rfl) (by kernel_rfl) (by kernel_rfl) (fun _ _ _ h => h) (BL.cls wr) ?_ ?_
                      · refine Or.inl ⟨rfl, fun w hSw => ?_⟩
                        exact EffR.same (by go_simp)
                      try simp only [Act.put, List.setIfInBounds_toArray, List.set_cons_zero, List.set_cons_succ]
                      refine wpAnyU_take (i := 8) (oi := { dst := some 97, op := Op.load 3 (Operand.tmp 96), type := 3, pos := "law.go:184", after := #[{ on := 7, ground := Ground.data }, { on := 4, ground := Ground.guard }], guard := some (4, false) }) (v := (.int .i64 c.no)) rfl (by kernel_rfl) (by kernel_rfl) (by kernel_rfl) (by kernel_rfl) (by kernel_rfl) (fun _ _ _ h => h) (BL.cls wr) ?_ ?_
                      · refine Or.inl ⟨rfl, fun w hSw => ?_⟩
                        have e0 : w.cell? ⟨gc, oc + K, none⟩ = some (.int .i64 c.no) := BL.cell hSw HX0.out
                        exact EffR.same (by go_simp)
                      try simp only [Act.put, List.setIfInBounds_toArray, List.set_cons_zero, List.set_cons_succ]
                      refine wpAnyU_take (i := 9) (oi := { dst := some 98, op := Op.fieldAddr 26 (Operand.tmp 5) 0, type := 0, pos := "law.go:184", after := #[{ on := 4, ground := Ground.guard }], guard := some (4, false) }) (v := (.pointer (some ⟨gr, 0, none⟩))) rfl (by kernel_rfl) (by kernel_rfl) (by kernel_rfl) (by kernel_rfl) (by kernel_rfl) (fun _ _ _ h => h) (BL.cls wr) ?_ ?_
                      · refine Or.inl ⟨rfl, fun w hSw => ?_⟩
                        exact EffR.same (by go_simp)
                      try simp only [Act.put, List.setIfInBounds_toArray, List.set_cons_zero, List.set_cons_succ]
                      refine wpAnyU_take (i := 10) (oi := { dst := some 99, op := Op.load 22 (Operand.tmp 98), type := 22, pos := "law.go:184", after := #[{ on := 9, ground := Ground.data }, { on := 4, ground := Ground.guard }], guard := some (4, false) }) (v := (.slice (some ⟨gb, ob, none⟩) nM cM)) rfl (by kernel_rfl) (by kernel_rfl) (by kernel_rfl) (by kernel_rfl) (by kernel_rfl) (fun _ _ _ h => h) (BL.cls wr) ?_ ?_
                      · refine Or.inl ⟨rfl, fun w hSw => ?_⟩
                        have e0 : w.cell? ⟨gr, 0, none⟩ = some (.slice (some ⟨gb, ob, none⟩) nM cM) := BL.cell hSw HR0.out
                        exact EffR.same (by go_simp)
                      try simp only [Act.put, List.setIfInBounds_toArray, List.set_cons_zero, List.set_cons_succ]
                      refine wpAnyU_take (i := 11) (oi := { dst := some 100, op := Op.move (Operand.tmp 13), type := 3, pos := "law.go:184", after := #[{ on := 4, ground := Ground.guard }], guard := some (4, false) }) (v := (.int .i64 (i : Int))) rfl (by kernel_rfl) (by kernel_rfl) (by kernel_rfl) (by kernel_rfl) (by kernel_rfl) (fun _ _ _ h => h) (BL.cls wr) ?_ ?_
                      · refine Or.inl ⟨rfl, fun w hSw => ?_⟩
                        exact EffR.same (by go_simp)
                      try simp only [Act.put, List.setIfInBounds_toArray, List.set_cons_zero, List.set_cons_succ]
                      refine wpAnyU_take (i := 12) (oi := { dst := some 101, op := Op.indexAddr 22 (Operand.tmp 99) (Operand.tmp 100), type := 0, pos := "law.go:184", after := #[{ on := 10, ground := Ground.data }, { on := 11, ground := Ground.data }, { on := 4, ground := Ground.guard }], guard := some (4, false) }) (v := (.pointer (some ⟨gb, ob + i * 3, none⟩))) rfl (by kernel_rfl) (by kernel_rfl) (by kernel_rfl) (by kernel_rfl) (by kernel_rfl) (fun _ _ _ h => h) (BL.cls wr) ?_ ?_
                      · refine Or.inl ⟨rfl, fun w hSw => ?_⟩
                        exact EffR.same (by go_simp)
                      try simp only [Act.put, List.setIfInBounds_toArray, List.set_cons_zero, List.set_cons_succ]
                      refine wpAnyU_take (i := 13) (oi := { dst := some 102, op := Op.fieldAddr 33 (Operand.tmp 101) 0, type := 0, pos := "law.go:184", after := #[{ on := 12, ground := Ground.data }, { on := 4, ground := Ground.guard }], guard := some (4, false) }) (v := (.pointer (some ⟨gb, ob + i * 3, none⟩))) rfl (by kernel_rfl) (by kernel_rfl) (by kernel_rfl) (by kernel_rfl) (by kernel_rfl) (fun _ _ _ h => h) (BL.cls wr) ?_ ?_
                      · refine Or.inl ⟨rfl, fun w hSw => ?_⟩
                        exact EffR.same (by go_simp)
                      try simp only [Act.put, List.setIfInBounds_toArray, List.set_cons_zero, List.set_cons_succ]
                      refine wpAnyU_take (i := 14) (oi := { dst := some 103, op := Op.load 3 (Operand.tmp 102), type := 3, pos := "law.go:184", after := #[{ on := 13, ground := Ground.data }, { on := 4, ground := Ground.guard }], guard := some (4, false) }) (v := (.int .i64 c.no)) rfl (by kernel_rfl) (by kernel_rfl) (by kernel_rfl) (by kernel_rfl) (by kernel_rfl) (fun _ _ _ h => h) (BL.cls wr) ?_ ?_
                      · refine Or.inl ⟨rfl, fun w hSw => ?_⟩
                        have e0 : w.cell? ⟨gb, ob + i * 3, none⟩ = some (.int .i64 c.no) := BL.cell hSw HC1.out
                        exact EffR.same (by go_simp)
                      try simp only [Act.put, List.setIfInBounds_toArray, List.set_cons_zero, List.set_cons_succ]
                      refine wpAnyU_take (i := 15) (oi := { dst := some 104, op := Op.binOp BinOp.neq 3 (Operand.tmp 97) (Operand.tmp 103) 3, type := 4, pos := "law.go:184", after := #[{ on := 8, ground := Ground.data }, { on := 14, ground := Ground.data }, { on := 4, ground := Ground.guard }], guard := some (4, false) }) (v := (.bool false)) rfl (by kernel_rfl) (by kernel_rfl) (by kernel_rfl) (by kernel_rfl) (by kernel_rfl) (fun _ _ _ h => h) (BL.cls wr) ?_ ?_
                      · refine Or.inl ⟨rfl, fun w hSw => ?_⟩
                        exact EffR.same (by go_simp)
                      try simp only [Act.put, List.setIfInBounds_toArray, List.set_cons_zero, List.set_cons_succ]
                      refine wpAnyU_take (i := 16) (oi := { dst := some 105, op := Op.pick (Operand.tmp 93) (Operand.const (Value.bool true)) (Operand.tmp 104), type := 4, pos := "law.go:184", after := #[{ on := 4, ground := Ground.data }, { on := 15, ground := Ground.data }], guard := none }) (v := (.bool false)) rfl (by kernel_rfl) (by kernel_rfl) (by kernel_rfl) (by kernel_rfl) (by kernel_rfl) (fun _ _ _ h => h) (BL.cls wr) ?_ ?_
                      · refine Or.inl ⟨rfl, fun w hSw => ?_⟩
                        exact EffR.same (by go_simp)
                      try simp only [Act.put, List.setIfInBounds_toArray, List.set_cons_zero, List.set_cons_succ]
                      refine wpAnyU_done (by kernel_rfl) (fun w1 hb1 => ?_) _
                      have HRn := Lib.hid (HRk.out.below hb1)
                      have HWn := Lib.hid (HWk.out.mono hb1)
                      have HLn := Lib.hid (HLk.out.mono hb1)
                      have HBn := Lib.hid (bgoS HBq.out hb1)
                      clear hb1
                      go_wp2_with fail
                      exact ⟨⟨i + 1, by omega, by push_cast; rfl, by rw [HK2.out]; push_cast; rfl, HLn.out, HRn.out, HWn.out, HBn.out⟩, by simp [intOf]; omega⟩
                    case false =>
                      have his : ¬ inB sts R.M[i].state = true := by rw [← HCC.out, ← HIS.out]; decide
                      have HK2 : Hid ((thoseTo R sts (i + 1)).length = K) := by show _ = _; rw [HNX.out, if_neg his, List.length_append, ← HK.out]; rfl
                      clear his
                      go_wp2_with fail
                      exact ⟨⟨i + 1, by omega, by push_cast; rfl, by rw [HK2.out], HLk.out, HRk.out, HWk.out, HBq.out⟩, by simp [intOf]; omega⟩
              · obtain rfl : i = nM := by omega
                have e9 : (thoseTo R sts i).length = nL := by rw [HTA.out, HNL.out]
                rw [e9]
                clear e9 hkb
                go_wp2_with fail
                refine (wakes11_any wr).mono ?_
                rintro e wz ⟨rfl, hb⟩
                go_wp2_with fail
                go_ret
                exact ⟨rfl, bgo HBj.out hb HBj.out.size⟩

end Cam
