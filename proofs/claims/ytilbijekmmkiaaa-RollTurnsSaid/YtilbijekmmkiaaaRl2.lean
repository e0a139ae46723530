import Derived.Test.YtilbijekmmkiaaaRlPd
import Derived.Test.YtilbijekmmkiaaaRlN
import Derived.Test.YtilbijekmmkiaaaRlK
import Derived.Deep.CutBlock
/- ch. 11: RollTurns: the walk. -/
namespace Cam
open Go Go.RowKit Go.Proofs

set_option maxRecDepth 100000 in
set_option maxHeartbeats 12800000 in
theorem RollTurns_walk (W : World) (v0 : Value) (l0 : List AcT) (no price : Int) (h : Rs AcT.vs 19 W v0 l0) :
    Calls Try.prog 6 #[v0, .int .i64 no, .int .i64 price] W fun e w' => e = .returned (.bool true) ∧ Below W.heap.size W w' := by
  obtain ⟨av0, cap, rfl, hcap, hm⟩ := h.shape
  obtain ⟨n, hn⟩ : ∃ n, n = l0.length := ⟨_, rfl⟩
  have HN := Lib.hid hn
  rw [← hn] at hcap h ⊢
  have H0 := Lib.hid h
  clear hn h
  by_cases hlong : 500 < n
  · go_enter Try.func6, Try.ntmps6
    go_wp2_with fail
    go_ret
    exact ⟨rfl, Below.refl _ _⟩
  · go_enter Try.func6, Try.ntmps6
    have HSZb : Hid ((Try.prog.info? 26).map (·.size) = some (#[.slice none 0 0, .slice none 0 0, .slice none 0 0] : Array Value).size) := by show _ = _; rw [rol_sz]; rfl
    have HONb : Hid ((#[.slice none 0 0, .slice none 0 0, .slice none 0 0] : Array Value).all (·.oneCell') = true) := by show _ = true; simp [Value.oneCell']
    go_upto_region 4 with (first
      | (refine wpList_store_row rfl 26 (.tmp 7) (.tmp 21) rfl W.heap.size #[.slice none 0 0, .slice none 0 0, .slice none 0 0] rfl rfl 26 #[.slice none 0 0, .slice none 0 0, .slice none 0 0] (heap_alloc_new _ _) HSZb.out rfl HONb.out ?_)
      | fail)
    have hbsb : Below W.heap.size W ((W.alloc (.cells #[.slice none 0 0, .slice none 0 0, .slice none 0 0] 26)).setRow W.heap.size #[.slice none 0 0, .slice none 0 0, .slice none 0 0]) := ((Below.refl _ _).alloc (Nat.le_refl _) _).trans (setRow_below (Nat.le_refl _) _)
    have hxb : HT ((W.alloc (.cells #[.slice none 0 0, .slice none 0 0, .slice none 0 0] 26)).setRow W.heap.size #[.slice none 0 0, .slice none 0 0, .slice none 0 0]) W.heap.size 26 [.slice none 0 0, .slice none 0 0, .slice none 0 0] := setRow_heap _ _ _ _ _ _ (heap_alloc_new _ _)
    have hbwb := bgo (Below.refl W.heap.size W) hbsb (Below.size (Below.refl W.heap.size W))
    obtain ⟨Wb, hWb⟩ : ∃ zz, zz = ((W.alloc (.cells #[.slice none 0 0, .slice none 0 0, .slice none 0 0] 26)).setRow W.heap.size #[.slice none 0 0, .slice none 0 0, .slice none 0 0]) := ⟨_, rfl⟩
    rw [← hWb] at hbsb hxb hbwb ⊢
    obtain ⟨gxb, hgb⟩ : ∃ zz, zz = W.heap.size := ⟨_, rfl⟩
    rw [← hgb] at hxb ⊢
    have HGEb : Hid (∀ m, m ≤ W.heap.size → m ≤ gxb) := fun m h => by omega
    have HXb := Lib.hid hxb
    have HBWb := Lib.hid hbwb
    have HBSb := Lib.hid hbsb
    clear hWb hxb hbwb hbsb hgb HONb
    obtain ⟨gr, hgr⟩ : ∃ g, g = gxb := ⟨_, rfl⟩
    rw [← hgr] at HXb HGEb ⊢
    have HGR : Hid (W.heap.size ≤ gr) := HGEb.out _ (Nat.le_refl _)
    clear hgr HGEb HBSb HSZb
    go_upto_block 0 with fail
    go_cut [] (fun wr => ∃ (R : RollT) (aM : Option Addr) (nM cM : Nat) (aI : Option Addr) (nI cI : Nat) (aA : Option Addr) (nA cA : Nat), HT wr gr 26 [.slice aM nM cM, .slice aI nI cI, .slice aA nA cA] ∧ RollIn wr (.slice aM nM cM) (.slice aI nI cI) (.slice aA nA cA) R ∧ Hid (chkR R = true) ∧ Below W.heap.size W wr)
    case first =>
      go_wp2_with fail
      go_loopw [8] (fun v wr => ∃ (k : Nat) (R : RollT) (aM : Option Addr) (nM cM : Nat) (aI : Option Addr) (nI cI : Nat) (aA : Option Addr) (nA cA : Nat), k ≤ n ∧ v = .int .i64 k ∧ HT wr gr 26 [.slice aM nM cM, .slice aI nI cI, .slice aA nA cA] ∧ RollIn wr (.slice aM nM cM) (.slice aI nI cI) (.slice aA nA cA) R ∧ Hid (chkR R = true) ∧ Below W.heap.size W wr) (fun v _ => n - (intOf v).toNat)
      case atStart => exact ⟨0, RollT.nil, none, 0, 0, none, 0, 0, none, 0, 0, Nat.zero_le _, rfl, HXb.out, ⟨Rs.nil MbT.len _, Rs.nil InT.len _, Rs.nil AsT.len _⟩, chkR_nil, HBWb.out⟩
      case round =>
        obtain ⟨k, R, aM, nM, cM, aI, nI, cI, aA, nA, cA, hk, rfl, hrb, hri, HGD, hbel⟩ := hrel
        have HRB := Lib.hid hrb
        have HRW := Lib.hid hri
        have HBL := Lib.hid hbel
        clear hrb hri hbel
        by_cases hlt : k < n ∧ k < 100
        · obtain ⟨hkn, hk3⟩ := hlt
          have hkl : k < l0.length := by have := HN.out; omega
          obtain ⟨bl, off, rfl, _, hc⟩ := (H0.out.rew HN.out HBL.out).at (by omega) (by decide)
          obtain ⟨c, hcx⟩ : ∃ c, c = l0[k] := ⟨_, rfl⟩
          have HMS : Hid (wr.rangeAt bl (off + k * 19) [.int .i64 c.dv, .int .i64 c.av, .int .i64 c.bv, .int .i64 c.i.no, .int .i64 c.i.cur, .int .i64 c.i.mult, .int .i64 c.i.add, .int .i64 c.i.set, .int .i64 c.i.price, .int .i64 c.i.h0, .int .i64 c.i.h1, .int .i64 c.i.h2, .int .i64 c.i.h3, .int .i64 c.i.h4, .int .i64 c.i.h5, .int .i64 c.h.no, .int .i64 c.h.cur, .int .i64 c.h.price, .int .i64 c.h.cut]) := Lib.hid (fun j v h => hc k hkl j v (by rw [← hcx]; exact h))
          have HFEW := Lib.hid (chkR_few HGD.out)
          obtain ⟨X, hX⟩ : ∃ X, X = doR R c := ⟨_, rfl⟩
          have HAN : Hid (Ans R X) := by rw [hX]; exact doR_ans HGD.out c
          have HX := Lib.hid hX
          have hk0 : (0 : Int) ≤ k := by omega
          have hk1 : (k : Int) < n := by omega
          clear hc hcx hX hm
          go_wp2_with fail
          have HSZr : Hid ((Try.prog.info? 26).map (·.size) = some (#[.slice aM nM cM, .slice aI nI cI, .slice aA nA cA] : Array Value).size) := by show _ = _; rw [rol_sz]; rfl
          have HSZa : Hid ((Try.prog.info? 64).map (·.size) = some (([.int .i64 c.dv, .int .i64 c.av, .int .i64 c.bv, .int .i64 c.i.no, .int .i64 c.i.cur, .int .i64 c.i.mult, .int .i64 c.i.add, .int .i64 c.i.set, .int .i64 c.i.price, .int .i64 c.i.h0, .int .i64 c.i.h1, .int .i64 c.i.h2, .int .i64 c.i.h3, .int .i64 c.i.h4, .int .i64 c.i.h5, .int .i64 c.h.no, .int .i64 c.h.cur, .int .i64 c.h.price, .int .i64 c.h.cut] : List Value).length)) := by show _ = _; rw [act_sz]; rfl
          refine wp_region_bl 12 (by kernel_rfl) ?_
          refine wpAnyU_take (i := 0) (oi := { dst := some 33, op := Op.load 26 (Operand.tmp 7), type := 26, pos := "law.go:141", after := #[], guard := none }) (v := (.agg #[.slice aM nM cM, .slice aI nI cI, .slice aA nA cA])) rfl (by kernel_rfl) (by kernel_rfl) (by kernel_rfl) (by kernel_rfl) (by kernel_rfl) (fun _ _ _ h => h) (BL.cls wr) ?_ ?_
          · refine Or.inl ⟨rfl, fun w hSw => ?_⟩
            exact eff_load_mid 26 (.tmp 7) rfl gr 0 rfl [.slice aM nM cM, .slice aI nI cI, .slice aA nA cA] _ (fun j v h => BL.cell hSw (HRB.out.cell (by rcases j with _ | _ | _ | j; all_goals first | exact h | (simp at h)))) Try.underlying26 rfl HSZr.out
          try simp only [Act.put, List.setIfInBounds_toArray, List.set_cons_zero, List.set_cons_succ]
          refine wpAnyU_take (i := 1) (oi := { dst := some 34, op := Op.move (Operand.tmp 0), type := 61, pos := "law.go:141", after := #[], guard := none }) (v := (.slice (some ⟨bl, off, none⟩) n cap)) rfl (by kernel_rfl) (by kernel_rfl) (by kernel_rfl) (by kernel_rfl) (by kernel_rfl) (fun _ _ _ h => h) (BL.cls wr) ?_ ?_
          · refine Or.inl ⟨rfl, fun w hSw => ?_⟩
            exact EffR.same (by go_simp)
          try simp only [Act.put, List.setIfInBounds_toArray, List.set_cons_zero, List.set_cons_succ]
          refine wpAnyU_take (i := 2) (oi := { dst := some 35, op := Op.move (Operand.tmp 8), type := 3, pos := "law.go:141", after := #[], guard := none }) (v := (.int .i64 (k : Int))) rfl (by kernel_rfl) (by kernel_rfl) (by kernel_rfl) (by kernel_rfl) (by kernel_rfl) (fun _ _ _ h => h) (BL.cls wr) ?_ ?_
          · refine Or.inl ⟨rfl, fun w hSw => ?_⟩
            exact EffR.same (by go_simp)
          try simp only [Act.put, List.setIfInBounds_toArray, List.set_cons_zero, List.set_cons_succ]
          refine wpAnyU_take (i := 3) (oi := { dst := some 36, op := Op.indexAddr 61 (Operand.tmp 34) (Operand.tmp 35), type := 0, pos := "law.go:141", after := #[{ on := 1, ground := Ground.data }, { on := 2, ground := Ground.data }], guard := none }) (v := (.pointer (some ⟨bl, off + k * 19, none⟩))) rfl (by kernel_rfl) (by kernel_rfl) (by kernel_rfl) (by kernel_rfl) (by kernel_rfl) (fun _ _ _ h => h) (BL.cls wr) ?_ ?_
          · refine Or.inl ⟨rfl, fun w hSw => ?_⟩
            exact EffR.same (by go_simp)
          try simp only [Act.put, List.setIfInBounds_toArray, List.set_cons_zero, List.set_cons_succ]
          refine wpAnyU_take (i := 4) (oi := { dst := some 37, op := Op.load 64 (Operand.tmp 36), type := 64, pos := "law.go:141", after := #[{ on := 3, ground := Ground.data }], guard := none }) (v := (.agg #[.int .i64 c.dv, .int .i64 c.av, .int .i64 c.bv, .int .i64 c.i.no, .int .i64 c.i.cur, .int .i64 c.i.mult, .int .i64 c.i.add, .int .i64 c.i.set, .int .i64 c.i.price, .int .i64 c.i.h0, .int .i64 c.i.h1, .int .i64 c.i.h2, .int .i64 c.i.h3, .int .i64 c.i.h4, .int .i64 c.i.h5, .int .i64 c.h.no, .int .i64 c.h.cur, .int .i64 c.h.price, .int .i64 c.h.cut])) rfl (by kernel_rfl) (by kernel_rfl) (by kernel_rfl) (by kernel_rfl) (by kernel_rfl) (fun _ _ _ h => h) (BL.cls wr) ?_ ?_
          · refine Or.inl ⟨rfl, fun w hSw => ?_⟩
            exact eff_load_mid 64 (.tmp 36) rfl bl (off + k * 19) rfl [.int .i64 c.dv, .int .i64 c.av, .int .i64 c.bv, .int .i64 c.i.no, .int .i64 c.i.cur, .int .i64 c.i.mult, .int .i64 c.i.add, .int .i64 c.i.set, .int .i64 c.i.price, .int .i64 c.i.h0, .int .i64 c.i.h1, .int .i64 c.i.h2, .int .i64 c.i.h3, .int .i64 c.i.h4, .int .i64 c.i.h5, .int .i64 c.h.no, .int .i64 c.h.cur, .int .i64 c.h.price, .int .i64 c.h.cut] _ (fun j v h => BL.cell hSw (HMS.out j v h)) Try.underlying64 rfl HSZa.out
          try simp only [Act.put, List.setIfInBounds_toArray, List.set_cons_zero, List.set_cons_succ]
          refine wpAnyU_ready (rs := [5, 9]) (by kernel_rfl) (by simp) ?_
          refine AllReadyU.cons (o := { dst := some 38, op := Op.call { callee := Callee.value (Operand.func 41), args := #[Operand.tmp 33, Operand.tmp 37], argTypes := #[26, 64] }, type := 56, pos := "law.go:141", after := #[{ on := 0, ground := Ground.data }, { on := 4, ground := Ground.data }], guard := none }) rfl (fun wA5 hA5 K hK => ?_) (AllReadyU.cons (o := { dst := some 9, op := Op.alloc 26, type := 0, pos := "law.go:141", after := #[], guard := none }) rfl (fun wA9 hA9 K hK => ?_) AllReadyU.nil)
          · go_simp
            refine (do_any wA5 _ _ _ R c (HRW.out.mono hA5) HFEW.out).mono ?_
            rw [← HX.out]
            rintro e wn5 ⟨aM2, nM2, cM2, aI2, nI2, cI2, aA2, nA2, cA2, rfl, ho, hbn⟩
            refine hK.out _ _ (fun x => (BL wr) x ∧ OwnRoll x wr.heap.size (.slice aM2 nM2 cM2) (.slice aI2 nI2 cI2) (.slice aA2 nA2 cA2) X.2) (Cls.and (BL.cls wr) (fun _ _ h hb => OwnRoll.below h hb)) ⟨Below.next hA5 hbn, ho.base (Below.size hA5)⟩ ?_
            clear hK K
            try simp only [Act.put, List.setIfInBounds_toArray, List.set_cons_zero, List.set_cons_succ]
            refine wpAnyU_take (i := 6) (oi := { dst := some 32, op := Op.move (Operand.tmp 38), type := 56, pos := "law.go:141", after := #[{ on := 5, ground := Ground.data }], guard := none }) (v := (.tuple #[.agg #[.slice aM2 nM2 cM2, .slice aI2 nI2 cI2, .slice aA2 nA2 cA2], .int .i64 X.1])) rfl (by kernel_rfl) (by kernel_rfl) (by kernel_rfl) (by kernel_rfl) (by kernel_rfl) (fun _ _ _ h => h) (Cls.and (BL.cls wr) (fun _ _ h hb => OwnRoll.below h hb)) ?_ ?_
            · refine Or.inl ⟨rfl, fun w hSw => ?_⟩
              exact EffR.same (by go_simp)
            try simp only [Act.put, List.setIfInBounds_toArray, List.set_cons_zero, List.set_cons_succ]
            refine wpAnyU_take (i := 7) (oi := { dst := some 39, op := Op.extract (Operand.tmp 32) 0, type := 26, pos := "law.go:141", after := #[{ on := 6, ground := Ground.data }], guard := none }) (v := (.agg #[.slice aM2 nM2 cM2, .slice aI2 nI2 cI2, .slice aA2 nA2 cA2])) rfl (by kernel_rfl) (by kernel_rfl) (by kernel_rfl) (by kernel_rfl) (by kernel_rfl) (fun _ _ _ h => h) (Cls.and (BL.cls wr) (fun _ _ h hb => OwnRoll.below h hb)) ?_ ?_
            · refine Or.inl ⟨rfl, fun w hSw => ?_⟩
              exact EffR.same (by go_simp)
            try simp only [Act.put, List.setIfInBounds_toArray, List.set_cons_zero, List.set_cons_succ]
            refine wpAnyU_take (i := 8) (oi := { dst := some 40, op := Op.extract (Operand.tmp 32) 1, type := 30, pos := "law.go:141", after := #[{ on := 6, ground := Ground.data }, { on := 10, ground := Ground.gcOnly Departure.lateStores }], guard := none }) (v := (.int .i64 X.1)) rfl (by kernel_rfl) (by kernel_rfl) (by kernel_rfl) (by kernel_rfl) (by kernel_rfl) (fun _ _ _ h => h) (Cls.and (BL.cls wr) (fun _ _ h hb => OwnRoll.below h hb)) ?_ ?_
            · refine Or.inl ⟨rfl, fun w hSw => ?_⟩
              exact EffR.same (by go_simp)
            try simp only [Act.put, List.setIfInBounds_toArray, List.set_cons_zero, List.set_cons_succ]
            refine wpAnyU_ready (rs := [9]) (by kernel_rfl) (by simp) ?_
            refine AllReadyU.cons (o := { dst := some 9, op := Op.alloc 26, type := 0, pos := "law.go:141", after := #[], guard := none }) rfl (fun wA9 hA9 K hK => ?_) AllReadyU.nil
            go_simp
            obtain ⟨gx, hgx⟩ : ∃ gx, gx = wA9.heap.size := ⟨_, rfl⟩
            have HGX : Hid (wr.heap.size ≤ gx) := by show _ ≤ _; have := Below.size hA9.1; omega
            have HAP : Hid (∀ q, ((Value.slice aM2 nM2 cM2).ownBlock = some q ∨ (Value.slice aI2 nI2 cI2).ownBlock = some q ∨ (Value.slice aA2 nA2 cA2).ownBlock = some q) → q ≠ gx) := fun q hq => by
              rcases hq with hq | hq | hq
              · have := OwnR.lt hA9.2.1 q hq; omega
              · have := OwnR.lt hA9.2.2.1 q hq; omega
              · have := OwnR.lt hA9.2.2.2 q hq; omega
            have hbx : Below wA9.heap.size wA9 (wA9.alloc (.cells #[.slice none 0 0, .slice none 0 0, .slice none 0 0] 26)) := (Below.refl _ _).alloc (Nat.le_refl _) _
            have hnew : HT (wA9.alloc (.cells #[.slice none 0 0, .slice none 0 0, .slice none 0 0] 26)) gx 26 [.slice none 0 0, .slice none 0 0, .slice none 0 0] := by rw [hgx]; exact HT.new (w := wA9)
            rw [← hgx]
            clear hgx
            refine hK.out _ _ (fun x => (fun x => (BL wr) x ∧ OwnRoll x wr.heap.size (.slice aM2 nM2 cM2) (.slice aI2 nI2 cI2) (.slice aA2 nA2 cA2) X.2) x ∧ HT x gx 26 [.slice none 0 0, .slice none 0 0, .slice none 0 0]) (Cls.and (Cls.and (BL.cls wr) (fun _ _ h hb => OwnRoll.below h hb)) (fun _ _ h hb => HT.below h hb)) ⟨⟨Below.next hA9.1 hbx, OwnRoll.below hA9.2 hbx⟩, hnew⟩ ?_
            clear hK K
            try simp only
            refine wpAnyU_ready (rs := [10]) (by kernel_rfl) (by simp) ?_
            refine AllReadyU.cons (o := { dst := none, op := Op.store 26 (Operand.tmp 9) (Operand.tmp 39), type := 0, pos := "law.go:141", after := #[{ on := 9, ground := Ground.data }, { on := 7, ground := Ground.data }, { on := 5, ground := Ground.chain }, { on := 0, ground := Ground.phase }, { on := 1, ground := Ground.phase }, { on := 2, ground := Ground.phase }, { on := 3, ground := Ground.phase }, { on := 4, ground := Ground.phase }, { on := 5, ground := Ground.phase }, { on := 6, ground := Ground.phase }, { on := 7, ground := Ground.phase }, { on := 8, ground := Ground.textOnly Departure.lateStores }, { on := 9, ground := Ground.phase }], guard := none }) rfl (fun wA10 hA10 K hK => ?_) AllReadyU.nil
            have hg1 := hA10.2
            refine step_store_mid rfl 26 (.tmp 9) (.tmp 39) rfl gx 0 [.slice aM2 nM2 cM2, .slice aI2 nI2 cI2, .slice aA2 nA2 cA2] rfl rfl (fun j hj => ⟨hg1.isSome (by simpa using hj), hg1.frozen _⟩) (by rw [rol_sz]; rfl) (by simp [Value.oneCell']) ?_
            have hput := hg1.puts (o := 0) (vs := [.slice aM2 nM2 cM2, .slice aI2 nI2 cI2, .slice aA2 nA2 cA2]) (by simp)
            rw [splice_all (by simp)] at hput
            have hk9 := setCells_kept gx [.slice aM2 nM2 cM2, .slice aI2 nI2 cI2, .slice aA2 nA2 cA2] 0 wA10
            have hbl : BL wr (wA10.setCells gx 0 [.slice aM2 nM2 cM2, .slice aI2 nI2 cI2, .slice aA2 nA2 cA2]) := Below.puts hA10.1.1 HGX.out _ _
            have hown : OwnRoll (wA10.setCells gx 0 [.slice aM2 nM2 cM2, .slice aI2 nI2 cI2, .slice aA2 nA2 cA2]) wr.heap.size (.slice aM2 nM2 cM2) (.slice aI2 nI2 cI2) (.slice aA2 nA2 cA2) X.2 := OwnRoll.keptQ hA10.1.2 hk9 (fun q hq (e : q = gx) => HAP.out q hq e)
            refine hK.out _ _ (fun x => (BL wr x ∧ OwnRoll x wr.heap.size (.slice aM2 nM2 cM2) (.slice aI2 nI2 cI2) (.slice aA2 nA2 cA2) X.2) ∧ HT x gx 26 [.slice aM2 nM2 cM2, .slice aI2 nI2 cI2, .slice aA2 nA2 cA2]) (Cls.and (Cls.and (BL.cls wr) (fun _ _ h hb => OwnRoll.below h hb)) (fun _ _ h hb => HT.below h hb)) ⟨⟨hbl, hown⟩, hput⟩ ?_
            clear hput hk9 hbl hown hg1
            clear hK K
            try simp only [Act.put]
            refine wpAnyU_take (i := 11) (oi := { dst := some 10, op := Op.assign (Operand.tmp 40), type := 30, pos := "law.go:141", after := #[{ on := 8, ground := Ground.data }, { on := 10, ground := Ground.chain }, { on := 0, ground := Ground.phase }, { on := 1, ground := Ground.phase }, { on := 2, ground := Ground.phase }, { on := 3, ground := Ground.phase }, { on := 4, ground := Ground.phase }, { on := 5, ground := Ground.phase }, { on := 6, ground := Ground.phase }, { on := 7, ground := Ground.phase }, { on := 8, ground := Ground.phase }, { on := 9, ground := Ground.phase }, { on := 10, ground := Ground.phase }], guard := none }) (v := (.int .i64 X.1)) rfl (by kernel_rfl) (by kernel_rfl) (by kernel_rfl) (by kernel_rfl) (by kernel_rfl) (fun _ _ _ h => h) (Cls.and (Cls.and (BL.cls wr) (fun _ _ h hb => OwnRoll.below h hb)) (fun _ _ h hb => HT.below h hb)) ?_ ?_
            · refine Or.inl ⟨rfl, fun w hSw => ?_⟩
              exact EffR.same (by go_simp)
            try simp only [Act.put, List.setIfInBounds_toArray, List.set_cons_zero, List.set_cons_succ]
            refine wpAnyU_done (by kernel_rfl) (fun w1 hb1 => ?_) _
            have HB9 : Hid (Below wr.heap.size wr w1) := hb1.1.1
            have HOT := Lib.hid hb1.1.2
            have HTB := Lib.hid hb1.2
            clear hb1
            by_cases h0 : X.1 = 0
            · obtain ⟨_, hst⟩ := HAN.out.resolve_right (fun h => h.1 h0)
              have HGD2 := Lib.hid hst.ok
              clear hst
              have HSZs : Hid ((Try.prog.info? 26).map (·.size) = some (#[.slice aM2 nM2 cM2, .slice aI2 nI2 cI2, .slice aA2 nA2 cA2] : Array Value).size) := by show _ = _; rw [rol_sz]; rfl
              have HONs : Hid ((#[.slice aM2 nM2 cM2, .slice aI2 nI2 cI2, .slice aA2 nA2 cA2] : Array Value).all (·.oneCell') = true) := by show _ = true; simp [Value.oneCell']
              have HTBx : Hid (w1.heap[gx]? = some (.cells #[.slice aM2 nM2 cM2, .slice aI2 nI2 cI2, .slice aA2 nA2 cA2] 26 (0, 0))) := HTB.out
              have HRBx : Hid (w1.heap[gr]? = some (.cells #[.slice aM nM cM, .slice aI nI cI, .slice aA nA cA] 26 (0, 0))) := HRB.out.below HB9.out
              have hz : (X.1 == 0) = true := by simpa using h0
              clear h0
              go_wp2_with (first
                | (refine wpList_load_row rfl 26 (.tmp 9) rfl gx rfl 26 #[.slice aM2 nM2 cM2, .slice aI2 nI2 cI2, .slice aA2 nA2 cA2] (0, 0) _ HTBx.out Try.underlying26 rfl HSZs.out ?_)
                | (refine wpList_store_row rfl 26 (.tmp 7) (.tmp 43) rfl gr #[.slice aM2 nM2 cM2, .slice aI2 nI2 cI2, .slice aA2 nA2 cA2] rfl rfl 26 #[.slice aM nM cM, .slice aI nI cI, .slice aA nA cA] HRBx.out HSZs.out rfl HONs.out ?_)
                | fail)
              have hro := HOT.out.keptQ (setRow_kept w1 gr #[.slice aM2 nM2 cM2, .slice aI2 nI2 cI2, .slice aA2 nA2 cA2]) (fun q hq (e : q = gr) => by have h1 := HRB.out.lt; rcases hq with hq | hq | hq; (have := OwnR.ge HOT.out.1 q hq; omega); (have := OwnR.ge HOT.out.2.1 q hq; omega); (have := OwnR.ge HOT.out.2.2 q hq; omega))
              exact ⟨⟨k + 1, X.2, aM2, nM2, cM2, aI2, nI2, cI2, aA2, nA2, cA2, by omega, by push_cast; rfl, HT.row HRBx.out rfl, hro.in, HGD2.out, (bgoS HBL.out HB9.out).trans (setRow_below HGR.out _)⟩, by simp [intOf]; omega⟩
            · have hz : (X.1 == 0) = false := by simpa using h0
              clear h0
              go_wp2_with fail
              exact ⟨⟨k + 1, R, aM, nM, cM, aI, nI, cI, aA, nA, cA, by omega, by push_cast; rfl, HRB.out.below HB9.out, HRW.out.mono HB9.out, HGD.out, bgoS HBL.out HB9.out⟩, by simp [intOf]; omega⟩
          · go_simp
            obtain ⟨gx, hgx⟩ : ∃ gx, gx = wA9.heap.size := ⟨_, rfl⟩
            have HGX : Hid (wr.heap.size ≤ gx) := by show _ ≤ _; have := Below.size hA9; omega
            have hbx : Below wA9.heap.size wA9 (wA9.alloc (.cells #[.slice none 0 0, .slice none 0 0, .slice none 0 0] 26)) := (Below.refl _ _).alloc (Nat.le_refl _) _
            have hnew : HT (wA9.alloc (.cells #[.slice none 0 0, .slice none 0 0, .slice none 0 0] 26)) gx 26 [.slice none 0 0, .slice none 0 0, .slice none 0 0] := by rw [hgx]; exact HT.new (w := wA9)
            rw [← hgx]
            clear hgx
            refine hK.out _ _ (fun x => (BL wr) x ∧ HT x gx 26 [.slice none 0 0, .slice none 0 0, .slice none 0 0]) (Cls.and (BL.cls wr) (fun _ _ h hb => HT.below h hb)) ⟨Below.next hA9 hbx, hnew⟩ ?_
            clear hK K
            try simp only [Act.put, List.setIfInBounds_toArray, List.set_cons_zero, List.set_cons_succ]
            refine wpAnyU_ready (rs := [5]) (by kernel_rfl) (by simp) ?_
            refine AllReadyU.cons (o := { dst := some 38, op := Op.call { callee := Callee.value (Operand.func 41), args := #[Operand.tmp 33, Operand.tmp 37], argTypes := #[26, 64] }, type := 56, pos := "law.go:141", after := #[{ on := 0, ground := Ground.data }, { on := 4, ground := Ground.data }], guard := none }) rfl (fun wA5 hA5 K hK => ?_) AllReadyU.nil
            go_simp
            refine (do_any wA5 _ _ _ R c (HRW.out.mono hA5.1) HFEW.out).mono ?_
            rw [← HX.out]
            rintro e wn5 ⟨aM2, nM2, cM2, aI2, nI2, cI2, aA2, nA2, cA2, rfl, ho, hbn⟩
            have HAP : Hid (∀ q, ((Value.slice aM2 nM2 cM2).ownBlock = some q ∨ (Value.slice aI2 nI2 cI2).ownBlock = some q ∨ (Value.slice aA2 nA2 cA2).ownBlock = some q) → q ≠ gx) := fun q hq => by
              have h1 := HT.lt hA5.2
              rcases hq with hq | hq | hq
              · have := OwnR.ge ho.1 q hq; omega
              · have := OwnR.ge ho.2.1 q hq; omega
              · have := OwnR.ge ho.2.2 q hq; omega
            refine hK.out _ _ (fun x => (fun x => (BL wr) x ∧ HT x gx 26 [.slice none 0 0, .slice none 0 0, .slice none 0 0]) x ∧ OwnRoll x wr.heap.size (.slice aM2 nM2 cM2) (.slice aI2 nI2 cI2) (.slice aA2 nA2 cA2) X.2) (Cls.and (Cls.and (BL.cls wr) (fun _ _ h hb => HT.below h hb)) (fun _ _ h hb => OwnRoll.below h hb)) ⟨⟨Below.next hA5.1 hbn, HT.below hA5.2 hbn⟩, ho.base (Below.size hA5.1)⟩ ?_
            clear hK K
            try simp only
            refine wpAnyU_take (i := 6) (oi := { dst := some 32, op := Op.move (Operand.tmp 38), type := 56, pos := "law.go:141", after := #[{ on := 5, ground := Ground.data }], guard := none }) (v := (.tuple #[.agg #[.slice aM2 nM2 cM2, .slice aI2 nI2 cI2, .slice aA2 nA2 cA2], .int .i64 X.1])) rfl (by kernel_rfl) (by kernel_rfl) (by kernel_rfl) (by kernel_rfl) (by kernel_rfl) (fun _ _ _ h => h) (Cls.and (Cls.and (BL.cls wr) (fun _ _ h hb => HT.below h hb)) (fun _ _ h hb => OwnRoll.below h hb)) ?_ ?_
            · refine Or.inl ⟨rfl, fun w hSw => ?_⟩
              exact EffR.same (by go_simp)
            try simp only [Act.put, List.setIfInBounds_toArray, List.set_cons_zero, List.set_cons_succ]
            refine wpAnyU_take (i := 7) (oi := { dst := some 39, op := Op.extract (Operand.tmp 32) 0, type := 26, pos := "law.go:141", after := #[{ on := 6, ground := Ground.data }], guard := none }) (v := (.agg #[.slice aM2 nM2 cM2, .slice aI2 nI2 cI2, .slice aA2 nA2 cA2])) rfl (by kernel_rfl) (by kernel_rfl) (by kernel_rfl) (by kernel_rfl) (by kernel_rfl) (fun _ _ _ h => h) (Cls.and (Cls.and (BL.cls wr) (fun _ _ h hb => HT.below h hb)) (fun _ _ h hb => OwnRoll.below h hb)) ?_ ?_
            · refine Or.inl ⟨rfl, fun w hSw => ?_⟩
              exact EffR.same (by go_simp)
            try simp only [Act.put, List.setIfInBounds_toArray, List.set_cons_zero, List.set_cons_succ]
            refine wpAnyU_take (i := 8) (oi := { dst := some 40, op := Op.extract (Operand.tmp 32) 1, type := 30, pos := "law.go:141", after := #[{ on := 6, ground := Ground.data }, { on := 10, ground := Ground.gcOnly Departure.lateStores }], guard := none }) (v := (.int .i64 X.1)) rfl (by kernel_rfl) (by kernel_rfl) (by kernel_rfl) (by kernel_rfl) (by kernel_rfl) (fun _ _ _ h => h) (Cls.and (Cls.and (BL.cls wr) (fun _ _ h hb => HT.below h hb)) (fun _ _ h hb => OwnRoll.below h hb)) ?_ ?_
            · refine Or.inl ⟨rfl, fun w hSw => ?_⟩
              exact EffR.same (by go_simp)
            try simp only [Act.put, List.setIfInBounds_toArray, List.set_cons_zero, List.set_cons_succ]
            refine wpAnyU_ready (rs := [10]) (by kernel_rfl) (by simp) ?_
            refine AllReadyU.cons (o := { dst := none, op := Op.store 26 (Operand.tmp 9) (Operand.tmp 39), type := 0, pos := "law.go:141", after := #[{ on := 9, ground := Ground.data }, { on := 7, ground := Ground.data }, { on := 5, ground := Ground.chain }, { on := 0, ground := Ground.phase }, { on := 1, ground := Ground.phase }, { on := 2, ground := Ground.phase }, { on := 3, ground := Ground.phase }, { on := 4, ground := Ground.phase }, { on := 5, ground := Ground.phase }, { on := 6, ground := Ground.phase }, { on := 7, ground := Ground.phase }, { on := 8, ground := Ground.textOnly Departure.lateStores }, { on := 9, ground := Ground.phase }], guard := none }) rfl (fun wA10 hA10 K hK => ?_) AllReadyU.nil
            have hg1 := hA10.1.2
            refine step_store_mid rfl 26 (.tmp 9) (.tmp 39) rfl gx 0 [.slice aM2 nM2 cM2, .slice aI2 nI2 cI2, .slice aA2 nA2 cA2] rfl rfl (fun j hj => ⟨hg1.isSome (by simpa using hj), hg1.frozen _⟩) (by rw [rol_sz]; rfl) (by simp [Value.oneCell']) ?_
            have hput := hg1.puts (o := 0) (vs := [.slice aM2 nM2 cM2, .slice aI2 nI2 cI2, .slice aA2 nA2 cA2]) (by simp)
            rw [splice_all (by simp)] at hput
            have hk9 := setCells_kept gx [.slice aM2 nM2 cM2, .slice aI2 nI2 cI2, .slice aA2 nA2 cA2] 0 wA10
            have hbl : BL wr (wA10.setCells gx 0 [.slice aM2 nM2 cM2, .slice aI2 nI2 cI2, .slice aA2 nA2 cA2]) := Below.puts hA10.1.1 HGX.out _ _
            have hown : OwnRoll (wA10.setCells gx 0 [.slice aM2 nM2 cM2, .slice aI2 nI2 cI2, .slice aA2 nA2 cA2]) wr.heap.size (.slice aM2 nM2 cM2) (.slice aI2 nI2 cI2) (.slice aA2 nA2 cA2) X.2 := OwnRoll.keptQ hA10.2 hk9 (fun q hq (e : q = gx) => HAP.out q hq e)
            refine hK.out _ _ (fun x => (BL wr x ∧ OwnRoll x wr.heap.size (.slice aM2 nM2 cM2) (.slice aI2 nI2 cI2) (.slice aA2 nA2 cA2) X.2) ∧ HT x gx 26 [.slice aM2 nM2 cM2, .slice aI2 nI2 cI2, .slice aA2 nA2 cA2]) (Cls.and (Cls.and (BL.cls wr) (fun _ _ h hb => OwnRoll.below h hb)) (fun _ _ h hb => HT.below h hb)) ⟨⟨hbl, hown⟩, hput⟩ ?_
            clear hput hk9 hbl hown hg1
            clear hK K
            try simp only [Act.put]
            refine wpAnyU_take (i := 11) (oi := { dst := some 10, op := Op.assign (Operand.tmp 40), type := 30, pos := "law.go:141", after := #[{ on := 8, ground := Ground.data }, { on := 10, ground := Ground.chain }, { on := 0, ground := Ground.phase }, { on := 1, ground := Ground.phase }, { on := 2, ground := Ground.phase }, { on := 3, ground := Ground.phase }, { on := 4, ground := Ground.phase }, { on := 5, ground := Ground.phase }, { on := 6, ground := Ground.phase }, { on := 7, ground := Ground.phase }, { on := 8, ground := Ground.phase }, { on := 9, ground := Ground.phase }, { on := 10, ground := Ground.phase }], guard := none }) (v := (.int .i64 X.1)) rfl (by kernel_rfl) (by kernel_rfl) (by kernel_rfl) (by kernel_rfl) (by kernel_rfl) (fun _ _ _ h => h) (Cls.and (Cls.and (BL.cls wr) (fun _ _ h hb => OwnRoll.below h hb)) (fun _ _ h hb => HT.below h hb)) ?_ ?_
            · refine Or.inl ⟨rfl, fun w hSw => ?_⟩
              exact EffR.same (by go_simp)
            try simp only [Act.put, List.setIfInBounds_toArray, List.set_cons_zero, List.set_cons_succ]
            refine wpAnyU_done (by kernel_rfl) (fun w1 hb1 => ?_) _
            have HB9 : Hid (Below wr.heap.size wr w1) := hb1.1.1
            have HOT := Lib.hid hb1.1.2
            have HTB := Lib.hid hb1.2
            clear hb1
            by_cases h0 : X.1 = 0
            · obtain ⟨_, hst⟩ := HAN.out.resolve_right (fun h => h.1 h0)
              have HGD2 := Lib.hid hst.ok
              clear hst
              have HSZs : Hid ((Try.prog.info? 26).map (·.size) = some (#[.slice aM2 nM2 cM2, .slice aI2 nI2 cI2, .slice aA2 nA2 cA2] : Array Value).size) := by show _ = _; rw [rol_sz]; rfl
              have HONs : Hid ((#[.slice aM2 nM2 cM2, .slice aI2 nI2 cI2, .slice aA2 nA2 cA2] : Array Value).all (·.oneCell') = true) := by show _ = true; simp [Value.oneCell']
              have HTBx : Hid (w1.heap[gx]? = some (.cells #[.slice aM2 nM2 cM2, .slice aI2 nI2 cI2, .slice aA2 nA2 cA2] 26 (0, 0))) := HTB.out
              have HRBx : Hid (w1.heap[gr]? = some (.cells #[.slice aM nM cM, .slice aI nI cI, .slice aA nA cA] 26 (0, 0))) := HRB.out.below HB9.out
              have hz : (X.1 == 0) = true := by simpa using h0
              clear h0
              go_wp2_with (first
                | (refine wpList_load_row rfl 26 (.tmp 9) rfl gx rfl 26 #[.slice aM2 nM2 cM2, .slice aI2 nI2 cI2, .slice aA2 nA2 cA2] (0, 0) _ HTBx.out Try.underlying26 rfl HSZs.out ?_)
                | (refine wpList_store_row rfl 26 (.tmp 7) (.tmp 43) rfl gr #[.slice aM2 nM2 cM2, .slice aI2 nI2 cI2, .slice aA2 nA2 cA2] rfl rfl 26 #[.slice aM nM cM, .slice aI nI cI, .slice aA nA cA] HRBx.out HSZs.out rfl HONs.out ?_)
                | fail)
              have hro := HOT.out.keptQ (setRow_kept w1 gr #[.slice aM2 nM2 cM2, .slice aI2 nI2 cI2, .slice aA2 nA2 cA2]) (fun q hq (e : q = gr) => by have h1 := HRB.out.lt; rcases hq with hq | hq | hq; (have := OwnR.ge HOT.out.1 q hq; omega); (have := OwnR.ge HOT.out.2.1 q hq; omega); (have := OwnR.ge HOT.out.2.2 q hq; omega))
              exact ⟨⟨k + 1, X.2, aM2, nM2, cM2, aI2, nI2, cI2, aA2, nA2, cA2, by omega, by push_cast; rfl, HT.row HRBx.out rfl, hro.in, HGD2.out, (bgoS HBL.out HB9.out).trans (setRow_below HGR.out _)⟩, by simp [intOf]; omega⟩
            · have hz : (X.1 == 0) = false := by simpa using h0
              clear h0
              go_wp2_with fail
              exact ⟨⟨k + 1, R, aM, nM, cM, aI, nI, cI, aA, nA, cA, by omega, by push_cast; rfl, HRB.out.below HB9.out, HRW.out.mono HB9.out, HGD.out, bgoS HBL.out HB9.out⟩, by simp [intOf]; omega⟩
        · have hor : (k < n ∧ ¬ k < 100) ∨ ¬ k < n := by omega
          clear hlt
          rcases hor with ⟨h1, h2⟩ | h1
          all_goals
            go_wp2_with fail
            go_meet
            exact ⟨R, aM, nM, cM, aI, nI, cI, aA, nA, cA, HRB.out, HRW.out, HGD.out, HBL.out⟩
    case rest =>
      obtain ⟨R, aM, nM, cM, aI, nI, cI, aA, nA, cA, hrb, hri, HGD, hbel⟩ := hcut
      have HRB := Lib.hid hrb
      have HRW := Lib.hid hri
      have HBL := Lib.hid hbel
      clear hrb hri hbel hm
      by_cases hbt : hasB InT.no no R.I = true
      · by_cases hp1 : 1 ≤ price
        · by_cases hp2 : price ≤ 1073741824
          · have HWB : Hid (wB price 1 1073741824 = true) := by show _ = _; unfold wB; exact decide_eq_true ⟨hp1, hp2⟩
            have HB := HBL
            clear HBL
            obtain ⟨X, hX⟩ : ∃ X, X = tellR R no price := ⟨_, rfl⟩
            have tl := Tell_any wc _ _ _ R no price HRW.out (chkR_few HGD.out)
            rw [← hX] at tl
            have hx1 : X = (0, { R with I := putL InT.no { fdX InT.no iZ no R.I with set := price } R.I }) := by rw [hX]; unfold tellR; rw [if_neg (by rw [HGD.out]; decide), if_neg (by rw [hbt]; decide), if_neg (by rw [HWB.out]; decide)]
            have htt := tell_turn HGD.out hbt HWB.out
            obtain ⟨R2, hR2⟩ : ∃ z, z = ({ R with I := putL InT.no { fdX InT.no iZ no R.I with set := price } R.I } : RollT) := ⟨_, rfl⟩
            rw [← hR2] at hx1 htt
            obtain ⟨xo, hxo⟩ : ∃ x, x = fdX InT.no iZ no R.I := ⟨_, rfl⟩
            rw [← hxo] at htt
            have HGD2 : Hid (chkR R2 = true) := by have h9 := tellR_ans HGD.out no price; rw [← hX, hx1] at h9; exact (h9.resolve_right (fun h => h.1 rfl)).2.ok
            subst hx1
            clear hX hR2
            have HXO := Lib.hid hxo
            clear hxo
            have HBB : Hid (true = hasB InT.no no R.I) := hbt.symm
            have HSZr : Hid ((Try.prog.info? 26).map (·.size) = some (#[.slice aM nM cM, .slice aI nI cI, .slice aA nA cA] : Array Value).size) := by show _ = _; rw [rol_sz]; rfl
            have HONr : Hid ((#[.slice aM nM cM, .slice aI nI cI, .slice aA nA cA] : Array Value).all (·.oneCell') = true) := by show _ = true; simp [Value.oneCell']
            have HRBx : Hid (wc.heap[gr]? = some (.cells #[.slice aM nM cM, .slice aI nI cI, .slice aA nA cA] 26 (0, 0))) := HRB.out
            go_wp2_with (first
              | (refine wpList_load_row rfl 26 (.tmp 7) rfl gr rfl 26 #[.slice aM nM cM, .slice aI nI cI, .slice aA nA cA] (0, 0) _ HRBx.out Try.underlying26 rfl HSZr.out ?_)
              | fail)
            refine tl.mono ?_
            clear tl HRBx
            rintro e w3 ⟨aM2, nM2, cM2, aI2, nI2, cI2, aA2, nA2, cA2, rfl, ho, hb⟩
            have HOT := Lib.hid ho
            clear ho
            have HRBn := Lib.hid (HRB.out.below hb)
            clear HRB
            have HRB := HRBn
            clear HRBn
            have HRWn := Lib.hid (HRW.out.mono hb)
            clear HRW
            have HRW := HRWn
            clear HRWn
            have HBn := Lib.hid (bgo HB.out hb HB.out.size)
            clear HB
            have HB := HBn
            clear HBn
            clear hb
            have HSZk1 : Hid ((Try.prog.info? 26).map (·.size) = some (#[.slice aM2 nM2 cM2, .slice aI2 nI2 cI2, .slice aA2 nA2 cA2] : Array Value).size) := by show _ = _; rw [rol_sz]; rfl
            have HONk1 : Hid ((#[.slice aM2 nM2 cM2, .slice aI2 nI2 cI2, .slice aA2 nA2 cA2] : Array Value).all (·.oneCell') = true) := by show _ = true; simp [Value.oneCell']
            go_upto_region 11 with (first
              | (refine wpList_store_row rfl 26 (.tmp 11) (.tmp 49) rfl w3.heap.size #[.slice aM2 nM2 cM2, .slice aI2 nI2 cI2, .slice aA2 nA2 cA2] rfl rfl 26 #[.slice none 0 0, .slice none 0 0, .slice none 0 0] (heap_alloc_new _ _) HSZk1.out rfl HONk1.out ?_)
              | fail)
            have hbsk1 : Below w3.heap.size w3 ((w3.alloc (.cells #[.slice none 0 0, .slice none 0 0, .slice none 0 0] 26)).setRow w3.heap.size #[.slice aM2 nM2 cM2, .slice aI2 nI2 cI2, .slice aA2 nA2 cA2]) := ((Below.refl _ _).alloc (Nat.le_refl _) _).trans (setRow_below (Nat.le_refl _) _)
            have hxk1 : HT ((w3.alloc (.cells #[.slice none 0 0, .slice none 0 0, .slice none 0 0] 26)).setRow w3.heap.size #[.slice aM2 nM2 cM2, .slice aI2 nI2 cI2, .slice aA2 nA2 cA2]) w3.heap.size 26 [.slice aM2 nM2 cM2, .slice aI2 nI2 cI2, .slice aA2 nA2 cA2] := setRow_heap _ _ _ _ _ _ (heap_alloc_new _ _)
            have hbwk1 := bgo HB.out hbsk1 (Below.size HB.out)
            obtain ⟨Wk1, hWk1⟩ : ∃ zz, zz = ((w3.alloc (.cells #[.slice none 0 0, .slice none 0 0, .slice none 0 0] 26)).setRow w3.heap.size #[.slice aM2 nM2 cM2, .slice aI2 nI2 cI2, .slice aA2 nA2 cA2]) := ⟨_, rfl⟩
            rw [← hWk1] at hbsk1 hxk1 hbwk1 ⊢
            obtain ⟨gxk1, hgk1⟩ : ∃ zz, zz = w3.heap.size := ⟨_, rfl⟩
            rw [← hgk1] at hxk1 ⊢
            have HGEk1 : Hid (∀ m, m ≤ w3.heap.size → m ≤ gxk1) := fun m h => by omega
            have HXk1 := Lib.hid hxk1
            have HBWk1 := Lib.hid hbwk1
            have HBSk1 := Lib.hid hbsk1
            clear hWk1 hxk1 hbwk1 hbsk1 hgk1 HONk1
            obtain ⟨gt, hgq⟩ : ∃ g, g = gxk1 := ⟨_, rfl⟩
            rw [← hgq] at HXk1 HGEk1 ⊢
            have HGgt : Hid (W.heap.size ≤ gt) := HGEk1.out _ HB.out.size
            clear hgq HBWk1 HGEk1
            have HRBn := Lib.hid (HRB.out.below HBSk1.out)
            clear HRB
            have HRB := HRBn
            clear HRBn
            have HRWn := Lib.hid (HRW.out.mono HBSk1.out)
            clear HRW
            have HRW := HRWn
            clear HRWn
            have HOTn := Lib.hid (HOT.out.below HBSk1.out)
            clear HOT
            have HOT := HOTn
            clear HOTn
            have HBn := Lib.hid (bgo HB.out HBSk1.out HB.out.size)
            clear HB
            have HB := HBn
            clear HBn
            clear HBSk1
            have HTB := HXk1
            clear HXk1 HSZk1
            have HRBx : Hid (Wk1.heap[gr]? = some (.cells #[.slice aM nM cM, .slice aI nI cI, .slice aA nA cA] 26 (0, 0))) := HRB.out
            go_wp2_with (first
              | (refine wpList_load_row rfl 26 (.tmp 7) rfl gr rfl 26 #[.slice aM nM cM, .slice aI nI cI, .slice aA nA cA] (0, 0) _ HRBx.out Try.underlying26 rfl HSZr.out ?_)
              | fail)
            refine (Inst_any _ _ _ _ R.I no xo true HRW.out.2.1 HXO.out HBB.out).mono ?_
            clear HRBx
            rintro e w4 ⟨rfl, hb⟩
            have HRBn := Lib.hid (HRB.out.below hb)
            clear HRB
            have HRB := HRBn
            clear HRBn
            have HRWn := Lib.hid (HRW.out.mono hb)
            clear HRW
            have HRW := HRWn
            clear HRWn
            have HOTn := Lib.hid (HOT.out.below hb)
            clear HOT
            have HOT := HOTn
            clear HOTn
            have HTBn := Lib.hid (HTB.out.below hb)
            clear HTB
            have HTB := HTBn
            clear HTBn
            have HBn := Lib.hid (bgo HB.out hb HB.out.size)
            clear HB
            have HB := HBn
            clear HBn
            clear hb
            have HSZk2 : Hid ((Try.prog.info? 38).map (·.size) = some (#[.int .i64 xo.no, .int .i64 xo.cur, .int .i64 xo.mult, .int .i64 xo.add, .int .i64 xo.set, .int .i64 xo.price, .int .i64 xo.h0, .int .i64 xo.h1, .int .i64 xo.h2, .int .i64 xo.h3, .int .i64 xo.h4, .int .i64 xo.h5] : Array Value).size) := by show _ = _; rw [ins_sz]; rfl
            have HONk2 : Hid ((#[.int .i64 xo.no, .int .i64 xo.cur, .int .i64 xo.mult, .int .i64 xo.add, .int .i64 xo.set, .int .i64 xo.price, .int .i64 xo.h0, .int .i64 xo.h1, .int .i64 xo.h2, .int .i64 xo.h3, .int .i64 xo.h4, .int .i64 xo.h5] : Array Value).all (·.oneCell') = true) := by show _ = true; simp [Value.oneCell']
            go_upto_region 12 with (first
              | (refine wpList_store_row rfl 38 (.tmp 13) (.tmp 55) rfl w4.heap.size #[.int .i64 xo.no, .int .i64 xo.cur, .int .i64 xo.mult, .int .i64 xo.add, .int .i64 xo.set, .int .i64 xo.price, .int .i64 xo.h0, .int .i64 xo.h1, .int .i64 xo.h2, .int .i64 xo.h3, .int .i64 xo.h4, .int .i64 xo.h5] rfl rfl 38 #[.int .i64 0, .int .i64 0, .int .i64 0, .int .i64 0, .int .i64 0, .int .i64 0, .int .i64 0, .int .i64 0, .int .i64 0, .int .i64 0, .int .i64 0, .int .i64 0] (heap_alloc_new _ _) HSZk2.out rfl HONk2.out ?_)
              | fail)
            have hbsk2 : Below w4.heap.size w4 ((w4.alloc (.cells #[.int .i64 0, .int .i64 0, .int .i64 0, .int .i64 0, .int .i64 0, .int .i64 0, .int .i64 0, .int .i64 0, .int .i64 0, .int .i64 0, .int .i64 0, .int .i64 0] 38)).setRow w4.heap.size #[.int .i64 xo.no, .int .i64 xo.cur, .int .i64 xo.mult, .int .i64 xo.add, .int .i64 xo.set, .int .i64 xo.price, .int .i64 xo.h0, .int .i64 xo.h1, .int .i64 xo.h2, .int .i64 xo.h3, .int .i64 xo.h4, .int .i64 xo.h5]) := ((Below.refl _ _).alloc (Nat.le_refl _) _).trans (setRow_below (Nat.le_refl _) _)
            have hxk2 : HT ((w4.alloc (.cells #[.int .i64 0, .int .i64 0, .int .i64 0, .int .i64 0, .int .i64 0, .int .i64 0, .int .i64 0, .int .i64 0, .int .i64 0, .int .i64 0, .int .i64 0, .int .i64 0] 38)).setRow w4.heap.size #[.int .i64 xo.no, .int .i64 xo.cur, .int .i64 xo.mult, .int .i64 xo.add, .int .i64 xo.set, .int .i64 xo.price, .int .i64 xo.h0, .int .i64 xo.h1, .int .i64 xo.h2, .int .i64 xo.h3, .int .i64 xo.h4, .int .i64 xo.h5]) w4.heap.size 38 [.int .i64 xo.no, .int .i64 xo.cur, .int .i64 xo.mult, .int .i64 xo.add, .int .i64 xo.set, .int .i64 xo.price, .int .i64 xo.h0, .int .i64 xo.h1, .int .i64 xo.h2, .int .i64 xo.h3, .int .i64 xo.h4, .int .i64 xo.h5] := setRow_heap _ _ _ _ _ _ (heap_alloc_new _ _)
            have hbwk2 := bgo HB.out hbsk2 (Below.size HB.out)
            obtain ⟨Wk2, hWk2⟩ : ∃ zz, zz = ((w4.alloc (.cells #[.int .i64 0, .int .i64 0, .int .i64 0, .int .i64 0, .int .i64 0, .int .i64 0, .int .i64 0, .int .i64 0, .int .i64 0, .int .i64 0, .int .i64 0, .int .i64 0] 38)).setRow w4.heap.size #[.int .i64 xo.no, .int .i64 xo.cur, .int .i64 xo.mult, .int .i64 xo.add, .int .i64 xo.set, .int .i64 xo.price, .int .i64 xo.h0, .int .i64 xo.h1, .int .i64 xo.h2, .int .i64 xo.h3, .int .i64 xo.h4, .int .i64 xo.h5]) := ⟨_, rfl⟩
            rw [← hWk2] at hbsk2 hxk2 hbwk2 ⊢
            obtain ⟨gxk2, hgk2⟩ : ∃ zz, zz = w4.heap.size := ⟨_, rfl⟩
            rw [← hgk2] at hxk2 ⊢
            have HGEk2 : Hid (∀ m, m ≤ w4.heap.size → m ≤ gxk2) := fun m h => by omega
            have HXk2 := Lib.hid hxk2
            have HBWk2 := Lib.hid hbwk2
            have HBSk2 := Lib.hid hbsk2
            clear hWk2 hxk2 hbwk2 hbsk2 hgk2 HONk2
            obtain ⟨gi, hgq⟩ : ∃ g, g = gxk2 := ⟨_, rfl⟩
            rw [← hgq] at HXk2 HGEk2 ⊢
            have HGgi : Hid (W.heap.size ≤ gi) := HGEk2.out _ HB.out.size
            clear hgq HBWk2 HGEk2
            have HRBn := Lib.hid (HRB.out.below HBSk2.out)
            clear HRB
            have HRB := HRBn
            clear HRBn
            have HRWn := Lib.hid (HRW.out.mono HBSk2.out)
            clear HRW
            have HRW := HRWn
            clear HRWn
            have HOTn := Lib.hid (HOT.out.below HBSk2.out)
            clear HOT
            have HOT := HOTn
            clear HOTn
            have HTBn := Lib.hid (HTB.out.below HBSk2.out)
            clear HTB
            have HTB := HTBn
            clear HTBn
            have HBn := Lib.hid (bgo HB.out HBSk2.out HB.out.size)
            clear HB
            have HB := HBn
            clear HBn
            clear HBSk2
            have HIB := HXk2
            clear HXk2 HSZk2
            have HSZt : Hid ((Try.prog.info? 26).map (·.size) = some (#[.slice aM2 nM2 cM2, .slice aI2 nI2 cI2, .slice aA2 nA2 cA2] : Array Value).size) := by show _ = _; rw [rol_sz]; rfl
            have HONt : Hid ((#[.slice aM2 nM2 cM2, .slice aI2 nI2 cI2, .slice aA2 nA2 cA2] : Array Value).all (·.oneCell') = true) := by show _ = true; simp [Value.oneCell']
            have HTBx : Hid (Wk2.heap[gt]? = some (.cells #[.slice aM2 nM2 cM2, .slice aI2 nI2 cI2, .slice aA2 nA2 cA2] 26 (0, 0))) := HTB.out
            have tw := Turn_any Wk2 _ _ _ R2 HOT.out.in (chkR_few HGD2.out)
            go_wp2_with (first
              | (refine wpList_load_row rfl 26 (.tmp 11) rfl gt rfl 26 #[.slice aM2 nM2 cM2, .slice aI2 nI2 cI2, .slice aA2 nA2 cA2] (0, 0) _ HTBx.out Try.underlying26 rfl HSZt.out ?_)
              | fail)
            refine tw.mono ?_
            clear tw HTBx
            rintro e w5 ⟨aM3, nM3, cM3, aI3, nI3, cI3, aA3, nA3, cA3, rfl, ho, hap, hb⟩
            have HOU := Lib.hid ho
            have HNO : Hid (∀ q, ((Value.slice aM3 nM3 cM3).ownBlock = some q ∨ (Value.slice aI3 nI3 cI3).ownBlock = some q ∨ (Value.slice aA3 nA3 cA3).ownBlock = some q) → gi < q) := fun q hq => by
              have h1 := HIB.out.lt
              rcases hq with hq | hq | hq
              · have := OwnR.ge ho.1 q hq; omega
              · have := OwnR.ge ho.2.1 q hq; omega
              · have := OwnR.ge ho.2.2 q hq; omega
            clear ho hap
            have HRBn := Lib.hid (HRB.out.below hb)
            clear HRB
            have HRB := HRBn
            clear HRBn
            have HRWn := Lib.hid (HRW.out.mono hb)
            clear HRW
            have HRW := HRWn
            clear HRWn
            have HOTn := Lib.hid (HOT.out.below hb)
            clear HOT
            have HOT := HOTn
            clear HOTn
            have HTBn := Lib.hid (HTB.out.below hb)
            clear HTB
            have HTB := HTBn
            clear HTBn
            have HIBn := Lib.hid (HIB.out.below hb)
            clear HIB
            have HIB := HIBn
            clear HIBn
            have HBn := Lib.hid (bgo HB.out hb HB.out.size)
            clear HB
            have HB := HBn
            clear HBn
            clear hb
            have HSZk3 : Hid ((Try.prog.info? 26).map (·.size) = some (#[.slice aM3 nM3 cM3, .slice aI3 nI3 cI3, .slice aA3 nA3 cA3] : Array Value).size) := by show _ = _; rw [rol_sz]; rfl
            have HONk3 : Hid ((#[.slice aM3 nM3 cM3, .slice aI3 nI3 cI3, .slice aA3 nA3 cA3] : Array Value).all (·.oneCell') = true) := by show _ = true; simp [Value.oneCell']
            go_upto_region 17 with (first
              | (refine wpList_store_row rfl 26 (.tmp 15) (.tmp 73) rfl w5.heap.size #[.slice aM3 nM3 cM3, .slice aI3 nI3 cI3, .slice aA3 nA3 cA3] rfl rfl 26 #[.slice none 0 0, .slice none 0 0, .slice none 0 0] (heap_alloc_new _ _) HSZk3.out rfl HONk3.out ?_)
              | fail)
            have hbsk3 : Below w5.heap.size w5 ((w5.alloc (.cells #[.slice none 0 0, .slice none 0 0, .slice none 0 0] 26)).setRow w5.heap.size #[.slice aM3 nM3 cM3, .slice aI3 nI3 cI3, .slice aA3 nA3 cA3]) := ((Below.refl _ _).alloc (Nat.le_refl _) _).trans (setRow_below (Nat.le_refl _) _)
            have hxk3 : HT ((w5.alloc (.cells #[.slice none 0 0, .slice none 0 0, .slice none 0 0] 26)).setRow w5.heap.size #[.slice aM3 nM3 cM3, .slice aI3 nI3 cI3, .slice aA3 nA3 cA3]) w5.heap.size 26 [.slice aM3 nM3 cM3, .slice aI3 nI3 cI3, .slice aA3 nA3 cA3] := setRow_heap _ _ _ _ _ _ (heap_alloc_new _ _)
            have hbwk3 := bgo HB.out hbsk3 (Below.size HB.out)
            obtain ⟨Wk3, hWk3⟩ : ∃ zz, zz = ((w5.alloc (.cells #[.slice none 0 0, .slice none 0 0, .slice none 0 0] 26)).setRow w5.heap.size #[.slice aM3 nM3 cM3, .slice aI3 nI3 cI3, .slice aA3 nA3 cA3]) := ⟨_, rfl⟩
            rw [← hWk3] at hbsk3 hxk3 hbwk3 ⊢
            obtain ⟨gxk3, hgk3⟩ : ∃ zz, zz = w5.heap.size := ⟨_, rfl⟩
            rw [← hgk3] at hxk3 ⊢
            have HGEk3 : Hid (∀ m, m ≤ w5.heap.size → m ≤ gxk3) := fun m h => by omega
            have HXk3 := Lib.hid hxk3
            have HBWk3 := Lib.hid hbwk3
            have HBSk3 := Lib.hid hbsk3
            clear hWk3 hxk3 hbwk3 hbsk3 hgk3 HONk3
            obtain ⟨gu, hgq⟩ : ∃ g, g = gxk3 := ⟨_, rfl⟩
            rw [← hgq] at HXk3 HGEk3 ⊢
            have HGgu : Hid (W.heap.size ≤ gu) := HGEk3.out _ HB.out.size
            have HLgigu : Hid (gi < gu) := HGEk3.out (gi + 1) HIB.out.lt
            clear hgq HBWk3 HGEk3
            have HRBn := Lib.hid (HRB.out.below HBSk3.out)
            clear HRB
            have HRB := HRBn
            clear HRBn
            have HRWn := Lib.hid (HRW.out.mono HBSk3.out)
            clear HRW
            have HRW := HRWn
            clear HRWn
            have HOTn := Lib.hid (HOT.out.below HBSk3.out)
            clear HOT
            have HOT := HOTn
            clear HOTn
            have HTBn := Lib.hid (HTB.out.below HBSk3.out)
            clear HTB
            have HTB := HTBn
            clear HTBn
            have HIBn := Lib.hid (HIB.out.below HBSk3.out)
            clear HIB
            have HIB := HIBn
            clear HIBn
            have HOUn := Lib.hid (HOU.out.below HBSk3.out)
            clear HOU
            have HOU := HOUn
            clear HOUn
            have HBn := Lib.hid (bgo HB.out HBSk3.out HB.out.size)
            clear HB
            have HB := HBn
            clear HBn
            clear HBSk3
            have HUB := HXk3
            clear HXk3 HSZk3
            have HSZu : Hid ((Try.prog.info? 26).map (·.size) = some (#[.slice aM3 nM3 cM3, .slice aI3 nI3 cI3, .slice aA3 nA3 cA3] : Array Value).size) := by show _ = _; rw [rol_sz]; rfl
            have HONu : Hid ((#[.slice aM3 nM3 cM3, .slice aI3 nI3 cI3, .slice aA3 nA3 cA3] : Array Value).all (·.oneCell') = true) := by show _ = true; simp [Value.oneCell']
            have HUBx : Hid (Wk3.heap[gu]? = some (.cells #[.slice aM3 nM3 cM3, .slice aI3 nI3 cI3, .slice aA3 nA3 cA3] 26 (0, 0))) := HUB.out
            obtain ⟨x9, hx9⟩ : ∃ x : InT, x = { xo with set := 0, price := price } := ⟨_, rfl⟩
            have HX9 := Lib.hid hx9
            have h19 : x9 = fdX InT.no iZ no (turnR R2).I := by rw [hx9]; exact htt.2.symm
            have h29 := htt.1.symm
            have H19 := Lib.hid h19
            have H29 := Lib.hid h29
            clear htt h19 h29 hx9
            go_wp2_with (first
              | (refine wpList_load_row rfl 26 (.tmp 15) rfl gu rfl 26 #[.slice aM3 nM3 cM3, .slice aI3 nI3 cI3, .slice aA3 nA3 cA3] (0, 0) _ HUBx.out Try.underlying26 rfl HSZu.out ?_)
              | fail)
            refine (Inst_any _ _ _ _ (turnR R2).I no x9 true HOU.out.in.2.1 H19.out H29.out).mono ?_
            clear HUBx
            rintro e w6 ⟨rfl, hb⟩
            have HRBn := Lib.hid (HRB.out.below hb)
            clear HRB
            have HRB := HRBn
            clear HRBn
            have HRWn := Lib.hid (HRW.out.mono hb)
            clear HRW
            have HRW := HRWn
            clear HRWn
            have HOTn := Lib.hid (HOT.out.below hb)
            clear HOT
            have HOT := HOTn
            clear HOTn
            have HTBn := Lib.hid (HTB.out.below hb)
            clear HTB
            have HTB := HTBn
            clear HTBn
            have HIBn := Lib.hid (HIB.out.below hb)
            clear HIB
            have HIB := HIBn
            clear HIBn
            have HOUn := Lib.hid (HOU.out.below hb)
            clear HOU
            have HOU := HOUn
            clear HOUn
            have HUBn := Lib.hid (HUB.out.below hb)
            clear HUB
            have HUB := HUBn
            clear HUBn
            have HBn := Lib.hid (bgo HB.out hb HB.out.size)
            clear HB
            have HB := HBn
            clear HBn
            clear hb
            have HSZk4 : Hid ((Try.prog.info? 38).map (·.size) = some (#[.int .i64 x9.no, .int .i64 x9.cur, .int .i64 x9.mult, .int .i64 x9.add, .int .i64 x9.set, .int .i64 x9.price, .int .i64 x9.h0, .int .i64 x9.h1, .int .i64 x9.h2, .int .i64 x9.h3, .int .i64 x9.h4, .int .i64 x9.h5] : Array Value).size) := by show _ = _; rw [ins_sz]; rfl
            have HONk4 : Hid ((#[.int .i64 x9.no, .int .i64 x9.cur, .int .i64 x9.mult, .int .i64 x9.add, .int .i64 x9.set, .int .i64 x9.price, .int .i64 x9.h0, .int .i64 x9.h1, .int .i64 x9.h2, .int .i64 x9.h3, .int .i64 x9.h4, .int .i64 x9.h5] : Array Value).all (·.oneCell') = true) := by show _ = true; simp [Value.oneCell']
            go_upto_region 18 with (first
              | (refine wpList_store_row rfl 38 (.tmp 16) (.tmp 78) rfl w6.heap.size #[.int .i64 x9.no, .int .i64 x9.cur, .int .i64 x9.mult, .int .i64 x9.add, .int .i64 x9.set, .int .i64 x9.price, .int .i64 x9.h0, .int .i64 x9.h1, .int .i64 x9.h2, .int .i64 x9.h3, .int .i64 x9.h4, .int .i64 x9.h5] rfl rfl 38 #[.int .i64 0, .int .i64 0, .int .i64 0, .int .i64 0, .int .i64 0, .int .i64 0, .int .i64 0, .int .i64 0, .int .i64 0, .int .i64 0, .int .i64 0, .int .i64 0] (heap_alloc_new _ _) HSZk4.out rfl HONk4.out ?_)
              | fail)
            have hbsk4 : Below w6.heap.size w6 ((w6.alloc (.cells #[.int .i64 0, .int .i64 0, .int .i64 0, .int .i64 0, .int .i64 0, .int .i64 0, .int .i64 0, .int .i64 0, .int .i64 0, .int .i64 0, .int .i64 0, .int .i64 0] 38)).setRow w6.heap.size #[.int .i64 x9.no, .int .i64 x9.cur, .int .i64 x9.mult, .int .i64 x9.add, .int .i64 x9.set, .int .i64 x9.price, .int .i64 x9.h0, .int .i64 x9.h1, .int .i64 x9.h2, .int .i64 x9.h3, .int .i64 x9.h4, .int .i64 x9.h5]) := ((Below.refl _ _).alloc (Nat.le_refl _) _).trans (setRow_below (Nat.le_refl _) _)
            have hxk4 : HT ((w6.alloc (.cells #[.int .i64 0, .int .i64 0, .int .i64 0, .int .i64 0, .int .i64 0, .int .i64 0, .int .i64 0, .int .i64 0, .int .i64 0, .int .i64 0, .int .i64 0, .int .i64 0] 38)).setRow w6.heap.size #[.int .i64 x9.no, .int .i64 x9.cur, .int .i64 x9.mult, .int .i64 x9.add, .int .i64 x9.set, .int .i64 x9.price, .int .i64 x9.h0, .int .i64 x9.h1, .int .i64 x9.h2, .int .i64 x9.h3, .int .i64 x9.h4, .int .i64 x9.h5]) w6.heap.size 38 [.int .i64 x9.no, .int .i64 x9.cur, .int .i64 x9.mult, .int .i64 x9.add, .int .i64 x9.set, .int .i64 x9.price, .int .i64 x9.h0, .int .i64 x9.h1, .int .i64 x9.h2, .int .i64 x9.h3, .int .i64 x9.h4, .int .i64 x9.h5] := setRow_heap _ _ _ _ _ _ (heap_alloc_new _ _)
            have hbwk4 := bgo HB.out hbsk4 (Below.size HB.out)
            obtain ⟨Wk4, hWk4⟩ : ∃ zz, zz = ((w6.alloc (.cells #[.int .i64 0, .int .i64 0, .int .i64 0, .int .i64 0, .int .i64 0, .int .i64 0, .int .i64 0, .int .i64 0, .int .i64 0, .int .i64 0, .int .i64 0, .int .i64 0] 38)).setRow w6.heap.size #[.int .i64 x9.no, .int .i64 x9.cur, .int .i64 x9.mult, .int .i64 x9.add, .int .i64 x9.set, .int .i64 x9.price, .int .i64 x9.h0, .int .i64 x9.h1, .int .i64 x9.h2, .int .i64 x9.h3, .int .i64 x9.h4, .int .i64 x9.h5]) := ⟨_, rfl⟩
            rw [← hWk4] at hbsk4 hxk4 hbwk4 ⊢
            obtain ⟨gxk4, hgk4⟩ : ∃ zz, zz = w6.heap.size := ⟨_, rfl⟩
            rw [← hgk4] at hxk4 ⊢
            have HGEk4 : Hid (∀ m, m ≤ w6.heap.size → m ≤ gxk4) := fun m h => by omega
            have HXk4 := Lib.hid hxk4
            have HBWk4 := Lib.hid hbwk4
            have HBSk4 := Lib.hid hbsk4
            clear hWk4 hxk4 hbwk4 hbsk4 hgk4 HONk4
            obtain ⟨gx, hgq⟩ : ∃ g, g = gxk4 := ⟨_, rfl⟩
            rw [← hgq] at HXk4 HGEk4 ⊢
            have HGgx : Hid (W.heap.size ≤ gx) := HGEk4.out _ HB.out.size
            have HLgigx : Hid (gi < gx) := HGEk4.out (gi + 1) HIB.out.lt
            clear hgq HBWk4 HGEk4
            have HRBn := Lib.hid (HRB.out.below HBSk4.out)
            clear HRB
            have HRB := HRBn
            clear HRBn
            have HRWn := Lib.hid (HRW.out.mono HBSk4.out)
            clear HRW
            have HRW := HRWn
            clear HRWn
            have HOTn := Lib.hid (HOT.out.below HBSk4.out)
            clear HOT
            have HOT := HOTn
            clear HOTn
            have HTBn := Lib.hid (HTB.out.below HBSk4.out)
            clear HTB
            have HTB := HTBn
            clear HTBn
            have HIBn := Lib.hid (HIB.out.below HBSk4.out)
            clear HIB
            have HIB := HIBn
            clear HIBn
            have HOUn := Lib.hid (HOU.out.below HBSk4.out)
            clear HOU
            have HOU := HOUn
            clear HOUn
            have HUBn := Lib.hid (HUB.out.below HBSk4.out)
            clear HUB
            have HUB := HUBn
            clear HUBn
            have HBn := Lib.hid (bgo HB.out HBSk4.out HB.out.size)
            clear HB
            have HB := HBn
            clear HBn
            clear HBSk4
            have HXB := HXk4
            clear HXk4 HSZk4
            have hc4 := HIB.out.cell (j := 4) rfl
            have hc5 := HIB.out.cell (j := 5) rfl
            have hf4 := HIB.out.frozen 4
            have hf5 := HIB.out.frozen 5
            go_upto_region 19 with fail
            clear hc4 hc5 hf4 hf5
            have hk : Kept (fun k => k = gi) Wk4 ((Wk4.setCell ⟨gi, 4, none⟩ (.int .i64 0)).setCell ⟨gi, 5, none⟩ (.int .i64 price)) := ((Kept.refl (fun k => k = gi) Wk4).setCell ⟨gi, 4, none⟩ _ rfl).setCell ⟨gi, 5, none⟩ _ rfl
            have hi : Hid (HT ((Wk4.setCell ⟨gi, 4, none⟩ (.int .i64 0)).setCell ⟨gi, 5, none⟩ (.int .i64 price)) gi 38 [.int .i64 x9.no, .int .i64 x9.cur, .int .i64 x9.mult, .int .i64 x9.add, .int .i64 x9.set, .int .i64 x9.price, .int .i64 x9.h0, .int .i64 x9.h1, .int .i64 x9.h2, .int .i64 x9.h3, .int .i64 x9.h4, .int .i64 x9.h5]) := by rw [HX9.out]; exact (HIB.out.put 4 (.int .i64 0)).put 5 (.int .i64 price)
            have hx : Hid (HT ((Wk4.setCell ⟨gi, 4, none⟩ (.int .i64 0)).setCell ⟨gi, 5, none⟩ (.int .i64 price)) gx 38 [.int .i64 x9.no, .int .i64 x9.cur, .int .i64 x9.mult, .int .i64 x9.add, .int .i64 x9.set, .int .i64 x9.price, .int .i64 x9.h0, .int .i64 x9.h1, .int .i64 x9.h2, .int .i64 x9.h3, .int .i64 x9.h4, .int .i64 x9.h5]) := HXB.out.keptS hk (fun (e : gx = gi) => by have h1 := HLgigx.out; omega)
            have hu : Hid (HT ((Wk4.setCell ⟨gi, 4, none⟩ (.int .i64 0)).setCell ⟨gi, 5, none⟩ (.int .i64 price)) gu 26 [.slice aM3 nM3 cM3, .slice aI3 nI3 cI3, .slice aA3 nA3 cA3]) := HUB.out.keptS hk (fun (e : gu = gi) => by have h1 := HLgigu.out; omega)
            have hou := Lib.hid (HOU.out.keptQ hk (fun q hq (e : q = gi) => by have h1 := HNO.out q hq; omega))
            have hB : Hid (Below W.heap.size W ((Wk4.setCell ⟨gi, 4, none⟩ (.int .i64 0)).setCell ⟨gi, 5, none⟩ (.int .i64 price))) := HB.out.trans (Kept.below hk (fun k h (e : k = gi) => by have := HGgi.out; omega) HB.out.size)
            clear HB hk HIB HXB HUB HOU HRB HRW HTB HOT
            have HIB := hi
            clear hi
            have HXB := hx
            clear hx
            have HUB := hu
            clear hu
            have HOU := hou
            clear hou
            have HB := hB
            clear hB
            generalize hW : ((Wk4.setCell ⟨gi, 4, none⟩ (.int .i64 0)).setCell ⟨gi, 5, none⟩ (.int .i64 price)) = Wv at *
            clear hW
            have HSZi : Hid ((Try.prog.info? 38).map (·.size) = some (([.int .i64 x9.no, .int .i64 x9.cur, .int .i64 x9.mult, .int .i64 x9.add, .int .i64 x9.set, .int .i64 x9.price, .int .i64 x9.h0, .int .i64 x9.h1, .int .i64 x9.h2, .int .i64 x9.h3, .int .i64 x9.h4, .int .i64 x9.h5] : List Value).length)) := by show _ = _; rw [ins_sz]; rfl
            refine wp_region_bl 16 (by kernel_rfl) ?_
            refine wpAnyU_take (i := 0) (oi := { dst := some 83, op := Op.move (Operand.tmp 17), type := 4, pos := "law.go:157", after := #[], guard := none }) (v := (.bool true)) rfl (by kernel_rfl) (by kernel_rfl) (by kernel_rfl) (by kernel_rfl) (by kernel_rfl) (fun _ _ _ h => h) (BL.cls Wv) ?_ ?_
            · refine Or.inl ⟨rfl, fun w hSw => ?_⟩
              exact EffR.same (by go_simp)
            try simp only [Act.put, List.setIfInBounds_toArray, List.set_cons_zero, List.set_cons_succ]
            refine wpAnyU_take (i := 1) (oi := { dst := some 84, op := Op.move (Operand.tmp 83), type := 4, pos := "law.go:157", after := #[{ on := 0, ground := Ground.data }], guard := none }) (v := (.bool true)) rfl (by kernel_rfl) (by kernel_rfl) (by kernel_rfl) (by kernel_rfl) (by kernel_rfl) (fun _ _ _ h => h) (BL.cls Wv) ?_ ?_
            · refine Or.inl ⟨rfl, fun w hSw => ?_⟩
              exact EffR.same (by go_simp)
            try simp only [Act.put, List.setIfInBounds_toArray, List.set_cons_zero, List.set_cons_succ]
            refine wpAnyU_take (i := 2) (oi := { dst := some 85, op := Op.load 38 (Operand.tmp 16), type := 38, pos := "law.go:157", after := #[{ on := 1, ground := Ground.guard }], guard := some (1, true) }) (v := (.agg #[.int .i64 x9.no, .int .i64 x9.cur, .int .i64 x9.mult, .int .i64 x9.add, .int .i64 x9.set, .int .i64 x9.price, .int .i64 x9.h0, .int .i64 x9.h1, .int .i64 x9.h2, .int .i64 x9.h3, .int .i64 x9.h4, .int .i64 x9.h5])) rfl (by kernel_rfl) (by kernel_rfl) (by kernel_rfl) (by kernel_rfl) (by kernel_rfl) (fun _ _ _ h => h) (BL.cls Wv) ?_ ?_
            · refine Or.inl ⟨rfl, fun w hSw => ?_⟩
              exact eff_load_mid 38 (.tmp 16) rfl gx 0 rfl [.int .i64 x9.no, .int .i64 x9.cur, .int .i64 x9.mult, .int .i64 x9.add, .int .i64 x9.set, .int .i64 x9.price, .int .i64 x9.h0, .int .i64 x9.h1, .int .i64 x9.h2, .int .i64 x9.h3, .int .i64 x9.h4, .int .i64 x9.h5] _ (fun j v h => BL.cell hSw (HXB.out.cell (by rcases j with _ | _ | _ | _ | _ | _ | _ | _ | _ | _ | _ | _ | j; all_goals first | exact h | (simp at h)))) Try.underlying38 rfl HSZi.out
            try simp only [Act.put, List.setIfInBounds_toArray, List.set_cons_zero, List.set_cons_succ]
            refine wpAnyU_take (i := 3) (oi := { dst := some 86, op := Op.load 38 (Operand.tmp 13), type := 38, pos := "law.go:157", after := #[{ on := 1, ground := Ground.guard }], guard := some (1, true) }) (v := (.agg #[.int .i64 x9.no, .int .i64 x9.cur, .int .i64 x9.mult, .int .i64 x9.add, .int .i64 x9.set, .int .i64 x9.price, .int .i64 x9.h0, .int .i64 x9.h1, .int .i64 x9.h2, .int .i64 x9.h3, .int .i64 x9.h4, .int .i64 x9.h5])) rfl (by kernel_rfl) (by kernel_rfl) (by kernel_rfl) (by kernel_rfl) (by kernel_rfl) (fun _ _ _ h => h) (BL.cls Wv) ?_ ?_
            · refine Or.inl ⟨rfl, fun w hSw => ?_⟩
              exact eff_load_mid 38 (.tmp 13) rfl gi 0 rfl [.int .i64 x9.no, .int .i64 x9.cur, .int .i64 x9.mult, .int .i64 x9.add, .int .i64 x9.set, .int .i64 x9.price, .int .i64 x9.h0, .int .i64 x9.h1, .int .i64 x9.h2, .int .i64 x9.h3, .int .i64 x9.h4, .int .i64 x9.h5] _ (fun j v h => BL.cell hSw (HIB.out.cell (by rcases j with _ | _ | _ | _ | _ | _ | _ | _ | _ | _ | _ | _ | j; all_goals first | exact h | (simp at h)))) Try.underlying38 rfl HSZi.out
            try simp only [Act.put, List.setIfInBounds_toArray, List.set_cons_zero, List.set_cons_succ]
            refine wpAnyU_take (i := 4) (oi := { dst := some 87, op := Op.call { callee := Callee.value (Operand.func 20), args := #[Operand.tmp 85, Operand.tmp 86], argTypes := #[38, 38] }, type := 4, pos := "law.go:157", after := #[{ on := 2, ground := Ground.data }, { on := 3, ground := Ground.data }, { on := 1, ground := Ground.chain }, { on := 1, ground := Ground.guard }], guard := some (1, true) }) (v := (.bool true)) rfl (by kernel_rfl) (by kernel_rfl) (by kernel_rfl) (by kernel_rfl) (by kernel_rfl) (fun _ _ _ h => h) (BL.cls Wv) ?_ ?_
            · refine Or.inl ⟨rfl, fun w hSw => ?_⟩
              go_simp
              show Calls _ _ _ _ _
              refine (KInst_same _ _ _ _ _ _ _ _ _ _ _ _ _).mono ?_
              rintro e w1 ⟨rfl, hb⟩
              exact ⟨rfl, hb⟩
            try simp only [Act.put, List.setIfInBounds_toArray, List.set_cons_zero, List.set_cons_succ]
            refine wpAnyU_take (i := 5) (oi := { dst := some 88, op := Op.pick (Operand.tmp 84) (Operand.tmp 87) (Operand.const (Value.bool false)), type := 4, pos := "law.go:157", after := #[{ on := 1, ground := Ground.data }, { on := 4, ground := Ground.data }], guard := none }) (v := (.bool true)) rfl (by kernel_rfl) (by kernel_rfl) (by kernel_rfl) (by kernel_rfl) (by kernel_rfl) (fun _ _ _ h => h) (BL.cls Wv) ?_ ?_
            · refine Or.inl ⟨rfl, fun w hSw => ?_⟩
              exact EffR.same (by go_simp)
            try simp only [Act.put, List.setIfInBounds_toArray, List.set_cons_zero, List.set_cons_succ]
            refine wpAnyU_take (i := 6) (oi := { dst := some 89, op := Op.move (Operand.tmp 88), type := 4, pos := "law.go:157", after := #[{ on := 5, ground := Ground.data }, { on := 4, ground := Ground.chain }], guard := none }) (v := (.bool true)) rfl (by kernel_rfl) (by kernel_rfl) (by kernel_rfl) (by kernel_rfl) (by kernel_rfl) (fun _ _ _ h => h) (BL.cls Wv) ?_ ?_
            · refine Or.inl ⟨rfl, fun w hSw => ?_⟩
              exact EffR.same (by go_simp)
            try simp only [Act.put, List.setIfInBounds_toArray, List.set_cons_zero, List.set_cons_succ]
            refine wpAnyU_take (i := 7) (oi := { dst := some 90, op := Op.load 26 (Operand.tmp 15), type := 26, pos := "law.go:157", after := #[{ on := 6, ground := Ground.guard }], guard := some (6, true) }) (v := (.agg #[.slice aM3 nM3 cM3, .slice aI3 nI3 cI3, .slice aA3 nA3 cA3])) rfl (by kernel_rfl) (by kernel_rfl) (by kernel_rfl) (by kernel_rfl) (by kernel_rfl) (fun _ _ _ h => h) (BL.cls Wv) ?_ ?_
            · refine Or.inl ⟨rfl, fun w hSw => ?_⟩
              exact eff_load_mid 26 (.tmp 15) rfl gu 0 rfl [.slice aM3 nM3 cM3, .slice aI3 nI3 cI3, .slice aA3 nA3 cA3] _ (fun j v h => BL.cell hSw (HUB.out.cell (by rcases j with _ | _ | _ | j; all_goals first | exact h | (simp at h)))) Try.underlying26 rfl HSZu.out
            try simp only [Act.put, List.setIfInBounds_toArray, List.set_cons_zero, List.set_cons_succ]
            refine wpAnyU_take (i := 9) (oi := { dst := some 92, op := Op.load 26 (Operand.tmp 15), type := 26, pos := "law.go:157", after := #[{ on := 6, ground := Ground.guard }], guard := some (6, true) }) (v := (.agg #[.slice aM3 nM3 cM3, .slice aI3 nI3 cI3, .slice aA3 nA3 cA3])) rfl (by kernel_rfl) (by kernel_rfl) (by kernel_rfl) (by kernel_rfl) (by kernel_rfl) (fun _ _ _ h => h) (BL.cls Wv) ?_ ?_
            · refine Or.inl ⟨rfl, fun w hSw => ?_⟩
              exact eff_load_mid 26 (.tmp 15) rfl gu 0 rfl [.slice aM3 nM3 cM3, .slice aI3 nI3 cI3, .slice aA3 nA3 cA3] _ (fun j v h => BL.cell (hSw) (HUB.out.cell (by rcases j with _ | _ | _ | j; all_goals first | exact h | (simp at h)))) Try.underlying26 rfl HSZu.out
            try simp only [Act.put, List.setIfInBounds_toArray, List.set_cons_zero, List.set_cons_succ]
            refine wpAnyU_ready (rs := [8]) (by kernel_rfl) (by simp) ?_
            refine AllReadyU.cons (o := { dst := some 91, op := Op.call { callee := Callee.value (Operand.func 22), args := #[Operand.tmp 90], argTypes := #[26] }, type := 26, pos := "law.go:157", after := #[{ on := 7, ground := Ground.data }, { on := 6, ground := Ground.chain }, { on := 6, ground := Ground.guard }], guard := some (6, true) }) rfl (fun wA8 hA8 K hK => ?_) AllReadyU.nil
            go_simp
            refine (Turn_any wA8 _ _ _ (turnR R2) (HOU.out.in.mono hA8) (chkR_few (turnR_ok HGD2.out))).mono ?_
            rw [turnR_turnR]
            rintro e wn8 ⟨aM4, nM4, cM4, aI4, nI4, cI4, aA4, nA4, cA4, rfl, ho, hap, hbn⟩
            clear hap
            refine hK.out _ _ (fun x => BL Wv x ∧ OwnRoll x Wv.heap.size (.slice aM4 nM4 cM4) (.slice aI4 nI4 cI4) (.slice aA4 nA4 cA4) (turnR R2)) (Cls.and (BL.cls Wv) (fun _ _ h hb => OwnRoll.below h hb)) ⟨Below.next hA8 hbn, ho.base (Below.size hA8)⟩ ?_
            clear hK K
            try simp only [Act.put, List.setIfInBounds_toArray, List.set_cons_zero, List.set_cons_succ]
            refine wpAnyU_ready (rs := [10]) (by kernel_rfl) (by simp) ?_
            refine AllReadyU.cons (o := { dst := some 93, op := Op.call { callee := Callee.value (Operand.func 23), args := #[Operand.tmp 91, Operand.tmp 92], argTypes := #[26, 26] }, type := 4, pos := "law.go:157", after := #[{ on := 8, ground := Ground.data }, { on := 9, ground := Ground.data }, { on := 8, ground := Ground.chain }, { on := 6, ground := Ground.guard }], guard := some (6, true) }) rfl (fun wA10 hA10 K hK => ?_) AllReadyU.nil
            go_simp
            refine (KRoll_same _ _ _ _ _ _ _ (turnR R2).M (turnR R2).I (turnR R2).A hA10.2.in.1 (HOU.out.in.mono hA10.1).1 hA10.2.in.2.1 (HOU.out.in.mono hA10.1).2.1 hA10.2.in.2.2 (HOU.out.in.mono hA10.1).2.2).mono ?_
            rintro e wn10 ⟨rfl, hbn⟩
            refine hK.out _ _ (BL Wv) (BL.cls Wv) (Below.next hA10.1 hbn) ?_
            clear hK K
            try simp only [Act.put, List.setIfInBounds_toArray, List.set_cons_zero, List.set_cons_succ]
            refine wpAnyU_take (i := 11) (oi := { dst := some 94, op := Op.pick (Operand.tmp 89) (Operand.tmp 93) (Operand.const (Value.bool false)), type := 4, pos := "law.go:157", after := #[{ on := 6, ground := Ground.data }, { on := 10, ground := Ground.data }], guard := none }) (v := (.bool true)) rfl (by kernel_rfl) (by kernel_rfl) (by kernel_rfl) (by kernel_rfl) (by kernel_rfl) (fun _ _ _ h => h) (BL.cls Wv) ?_ ?_
            · refine Or.inl ⟨rfl, fun w hSw => ?_⟩
              exact EffR.same (by go_simp)
            try simp only [Act.put, List.setIfInBounds_toArray, List.set_cons_zero, List.set_cons_succ]
            refine wpAnyU_take (i := 12) (oi := { dst := some 95, op := Op.move (Operand.tmp 94), type := 4, pos := "law.go:157", after := #[{ on := 11, ground := Ground.data }, { on := 10, ground := Ground.chain }], guard := none }) (v := (.bool true)) rfl (by kernel_rfl) (by kernel_rfl) (by kernel_rfl) (by kernel_rfl) (by kernel_rfl) (fun _ _ _ h => h) (BL.cls Wv) ?_ ?_
            · refine Or.inl ⟨rfl, fun w hSw => ?_⟩
              exact EffR.same (by go_simp)
            try simp only [Act.put, List.setIfInBounds_toArray, List.set_cons_zero, List.set_cons_succ]
            refine wpAnyU_take (i := 13) (oi := { dst := some 96, op := Op.call { callee := Callee.value (Operand.func 30), args := #[], argTypes := #[] }, type := 4, pos := "law.go:157", after := #[{ on := 12, ground := Ground.chain }, { on := 12, ground := Ground.guard }], guard := some (12, true) }) (v := (.bool true)) rfl (by kernel_rfl) (by kernel_rfl) (by kernel_rfl) (by kernel_rfl) (by kernel_rfl) (fun _ _ _ h => h) (BL.cls Wv) ?_ ?_
            · refine Or.inl ⟨rfl, fun w hSw => ?_⟩
              go_simp
              show Calls _ _ _ _ _
              refine (wakes11_any _).mono ?_
              rintro e w1 ⟨rfl, hb⟩
              exact ⟨rfl, hb⟩
            try simp only [Act.put, List.setIfInBounds_toArray, List.set_cons_zero, List.set_cons_succ]
            refine wpAnyU_take (i := 14) (oi := { dst := some 97, op := Op.pick (Operand.tmp 95) (Operand.tmp 96) (Operand.const (Value.bool false)), type := 4, pos := "law.go:157", after := #[{ on := 12, ground := Ground.data }, { on := 13, ground := Ground.data }], guard := none }) (v := (.bool true)) rfl (by kernel_rfl) (by kernel_rfl) (by kernel_rfl) (by kernel_rfl) (by kernel_rfl) (fun _ _ _ h => h) (BL.cls Wv) ?_ ?_
            · refine Or.inl ⟨rfl, fun w hSw => ?_⟩
              exact EffR.same (by go_simp)
            try simp only [Act.put, List.setIfInBounds_toArray, List.set_cons_zero, List.set_cons_succ]
            refine wpAnyU_take (i := 15) (oi := { dst := some 6, op := Op.assign (Operand.tmp 97), type := 4, pos := "law.go:157", after := #[{ on := 14, ground := Ground.data }, { on := 13, ground := Ground.chain }, { on := 0, ground := Ground.phase }, { on := 1, ground := Ground.phase }, { on := 2, ground := Ground.phase }, { on := 3, ground := Ground.phase }, { on := 4, ground := Ground.phase }, { on := 5, ground := Ground.phase }, { on := 6, ground := Ground.phase }, { on := 7, ground := Ground.phase }, { on := 8, ground := Ground.phase }, { on := 9, ground := Ground.phase }, { on := 10, ground := Ground.phase }, { on := 11, ground := Ground.phase }, { on := 12, ground := Ground.phase }, { on := 13, ground := Ground.phase }, { on := 14, ground := Ground.phase }], guard := none }) (v := (.bool true)) rfl (by kernel_rfl) (by kernel_rfl) (by kernel_rfl) (by kernel_rfl) (by kernel_rfl) (fun _ _ _ h => h) (BL.cls Wv) ?_ ?_
            · refine Or.inl ⟨rfl, fun w hSw => ?_⟩
              exact EffR.same (by go_simp)
            try simp only [Act.put, List.setIfInBounds_toArray, List.set_cons_zero, List.set_cons_succ]
            refine wpAnyU_done (by kernel_rfl) (fun w1 hb1 => ?_) _
            go_wp2_with fail
            go_ret
            exact ⟨rfl, bgo HB.out hb1 HB.out.size⟩
          · have HWB : Hid (wB price 1 1073741824 = false) := by show _ = _; unfold wB; exact decide_eq_false (fun h => hp2 h.2)
            have HB := HBL
            clear HBL
            obtain ⟨X, hX⟩ : ∃ X, X = tellR R no price := ⟨_, rfl⟩
            have tl := Tell_any wc _ _ _ R no price HRW.out (chkR_few HGD.out)
            rw [← hX] at tl
            have hx1 : X = (3, .nil) := by rw [hX]; unfold tellR; rw [if_neg (by rw [HGD.out]; decide), if_neg (by rw [hbt]; decide), if_pos HWB.out]
            obtain ⟨xo, hxo⟩ : ∃ x, x = fdX InT.no iZ no R.I := ⟨_, rfl⟩
            subst hx1
            clear hX
            have HXO := Lib.hid hxo
            clear hxo
            have HBB : Hid (true = hasB InT.no no R.I) := hbt.symm
            have HSZr : Hid ((Try.prog.info? 26).map (·.size) = some (#[.slice aM nM cM, .slice aI nI cI, .slice aA nA cA] : Array Value).size) := by show _ = _; rw [rol_sz]; rfl
            have HONr : Hid ((#[.slice aM nM cM, .slice aI nI cI, .slice aA nA cA] : Array Value).all (·.oneCell') = true) := by show _ = true; simp [Value.oneCell']
            have HRBx : Hid (wc.heap[gr]? = some (.cells #[.slice aM nM cM, .slice aI nI cI, .slice aA nA cA] 26 (0, 0))) := HRB.out
            go_wp2_with (first
              | (refine wpList_load_row rfl 26 (.tmp 7) rfl gr rfl 26 #[.slice aM nM cM, .slice aI nI cI, .slice aA nA cA] (0, 0) _ HRBx.out Try.underlying26 rfl HSZr.out ?_)
              | fail)
            refine tl.mono ?_
            clear tl HRBx
            rintro e w3 ⟨aM2, nM2, cM2, aI2, nI2, cI2, aA2, nA2, cA2, rfl, ho, hb⟩
            have HOT := Lib.hid ho
            clear ho
            have HRBn := Lib.hid (HRB.out.below hb)
            clear HRB
            have HRB := HRBn
            clear HRBn
            have HRWn := Lib.hid (HRW.out.mono hb)
            clear HRW
            have HRW := HRWn
            clear HRWn
            have HBn := Lib.hid (bgo HB.out hb HB.out.size)
            clear HB
            have HB := HBn
            clear HBn
            clear hb
            have HSZk1 : Hid ((Try.prog.info? 26).map (·.size) = some (#[.slice aM2 nM2 cM2, .slice aI2 nI2 cI2, .slice aA2 nA2 cA2] : Array Value).size) := by show _ = _; rw [rol_sz]; rfl
            have HONk1 : Hid ((#[.slice aM2 nM2 cM2, .slice aI2 nI2 cI2, .slice aA2 nA2 cA2] : Array Value).all (·.oneCell') = true) := by show _ = true; simp [Value.oneCell']
            go_upto_region 11 with (first
              | (refine wpList_store_row rfl 26 (.tmp 11) (.tmp 49) rfl w3.heap.size #[.slice aM2 nM2 cM2, .slice aI2 nI2 cI2, .slice aA2 nA2 cA2] rfl rfl 26 #[.slice none 0 0, .slice none 0 0, .slice none 0 0] (heap_alloc_new _ _) HSZk1.out rfl HONk1.out ?_)
              | fail)
            have hbsk1 : Below w3.heap.size w3 ((w3.alloc (.cells #[.slice none 0 0, .slice none 0 0, .slice none 0 0] 26)).setRow w3.heap.size #[.slice aM2 nM2 cM2, .slice aI2 nI2 cI2, .slice aA2 nA2 cA2]) := ((Below.refl _ _).alloc (Nat.le_refl _) _).trans (setRow_below (Nat.le_refl _) _)
            have hxk1 : HT ((w3.alloc (.cells #[.slice none 0 0, .slice none 0 0, .slice none 0 0] 26)).setRow w3.heap.size #[.slice aM2 nM2 cM2, .slice aI2 nI2 cI2, .slice aA2 nA2 cA2]) w3.heap.size 26 [.slice aM2 nM2 cM2, .slice aI2 nI2 cI2, .slice aA2 nA2 cA2] := setRow_heap _ _ _ _ _ _ (heap_alloc_new _ _)
            have hbwk1 := bgo HB.out hbsk1 (Below.size HB.out)
            obtain ⟨Wk1, hWk1⟩ : ∃ zz, zz = ((w3.alloc (.cells #[.slice none 0 0, .slice none 0 0, .slice none 0 0] 26)).setRow w3.heap.size #[.slice aM2 nM2 cM2, .slice aI2 nI2 cI2, .slice aA2 nA2 cA2]) := ⟨_, rfl⟩
            rw [← hWk1] at hbsk1 hxk1 hbwk1 ⊢
            obtain ⟨gxk1, hgk1⟩ : ∃ zz, zz = w3.heap.size := ⟨_, rfl⟩
            rw [← hgk1] at hxk1 ⊢
            have HGEk1 : Hid (∀ m, m ≤ w3.heap.size → m ≤ gxk1) := fun m h => by omega
            have HXk1 := Lib.hid hxk1
            have HBWk1 := Lib.hid hbwk1
            have HBSk1 := Lib.hid hbsk1
            clear hWk1 hxk1 hbwk1 hbsk1 hgk1 HONk1
            obtain ⟨gt, hgq⟩ : ∃ g, g = gxk1 := ⟨_, rfl⟩
            rw [← hgq] at HXk1 HGEk1 ⊢
            have HGgt : Hid (W.heap.size ≤ gt) := HGEk1.out _ HB.out.size
            clear hgq HBWk1 HGEk1
            have HRBn := Lib.hid (HRB.out.below HBSk1.out)
            clear HRB
            have HRB := HRBn
            clear HRBn
            have HRWn := Lib.hid (HRW.out.mono HBSk1.out)
            clear HRW
            have HRW := HRWn
            clear HRWn
            have HOTn := Lib.hid (HOT.out.below HBSk1.out)
            clear HOT
            have HOT := HOTn
            clear HOTn
            have HBn := Lib.hid (bgo HB.out HBSk1.out HB.out.size)
            clear HB
            have HB := HBn
            clear HBn
            clear HBSk1
            have HTB := HXk1
            clear HXk1 HSZk1
            have HRBx : Hid (Wk1.heap[gr]? = some (.cells #[.slice aM nM cM, .slice aI nI cI, .slice aA nA cA] 26 (0, 0))) := HRB.out
            go_wp2_with (first
              | (refine wpList_load_row rfl 26 (.tmp 7) rfl gr rfl 26 #[.slice aM nM cM, .slice aI nI cI, .slice aA nA cA] (0, 0) _ HRBx.out Try.underlying26 rfl HSZr.out ?_)
              | fail)
            refine (Inst_any _ _ _ _ R.I no xo true HRW.out.2.1 HXO.out HBB.out).mono ?_
            clear HRBx
            rintro e w4 ⟨rfl, hb⟩
            have HRBn := Lib.hid (HRB.out.below hb)
            clear HRB
            have HRB := HRBn
            clear HRBn
            have HRWn := Lib.hid (HRW.out.mono hb)
            clear HRW
            have HRW := HRWn
            clear HRWn
            have HOTn := Lib.hid (HOT.out.below hb)
            clear HOT
            have HOT := HOTn
            clear HOTn
            have HTBn := Lib.hid (HTB.out.below hb)
            clear HTB
            have HTB := HTBn
            clear HTBn
            have HBn := Lib.hid (bgo HB.out hb HB.out.size)
            clear HB
            have HB := HBn
            clear HBn
            clear hb
            have HSZk2 : Hid ((Try.prog.info? 38).map (·.size) = some (#[.int .i64 xo.no, .int .i64 xo.cur, .int .i64 xo.mult, .int .i64 xo.add, .int .i64 xo.set, .int .i64 xo.price, .int .i64 xo.h0, .int .i64 xo.h1, .int .i64 xo.h2, .int .i64 xo.h3, .int .i64 xo.h4, .int .i64 xo.h5] : Array Value).size) := by show _ = _; rw [ins_sz]; rfl
            have HONk2 : Hid ((#[.int .i64 xo.no, .int .i64 xo.cur, .int .i64 xo.mult, .int .i64 xo.add, .int .i64 xo.set, .int .i64 xo.price, .int .i64 xo.h0, .int .i64 xo.h1, .int .i64 xo.h2, .int .i64 xo.h3, .int .i64 xo.h4, .int .i64 xo.h5] : Array Value).all (·.oneCell') = true) := by show _ = true; simp [Value.oneCell']
            go_upto_region 12 with (first
              | (refine wpList_store_row rfl 38 (.tmp 13) (.tmp 55) rfl w4.heap.size #[.int .i64 xo.no, .int .i64 xo.cur, .int .i64 xo.mult, .int .i64 xo.add, .int .i64 xo.set, .int .i64 xo.price, .int .i64 xo.h0, .int .i64 xo.h1, .int .i64 xo.h2, .int .i64 xo.h3, .int .i64 xo.h4, .int .i64 xo.h5] rfl rfl 38 #[.int .i64 0, .int .i64 0, .int .i64 0, .int .i64 0, .int .i64 0, .int .i64 0, .int .i64 0, .int .i64 0, .int .i64 0, .int .i64 0, .int .i64 0, .int .i64 0] (heap_alloc_new _ _) HSZk2.out rfl HONk2.out ?_)
              | fail)
            have hbsk2 : Below w4.heap.size w4 ((w4.alloc (.cells #[.int .i64 0, .int .i64 0, .int .i64 0, .int .i64 0, .int .i64 0, .int .i64 0, .int .i64 0, .int .i64 0, .int .i64 0, .int .i64 0, .int .i64 0, .int .i64 0] 38)).setRow w4.heap.size #[.int .i64 xo.no, .int .i64 xo.cur, .int .i64 xo.mult, .int .i64 xo.add, .int .i64 xo.set, .int .i64 xo.price, .int .i64 xo.h0, .int .i64 xo.h1, .int .i64 xo.h2, .int .i64 xo.h3, .int .i64 xo.h4, .int .i64 xo.h5]) := ((Below.refl _ _).alloc (Nat.le_refl _) _).trans (setRow_below (Nat.le_refl _) _)
            have hxk2 : HT ((w4.alloc (.cells #[.int .i64 0, .int .i64 0, .int .i64 0, .int .i64 0, .int .i64 0, .int .i64 0, .int .i64 0, .int .i64 0, .int .i64 0, .int .i64 0, .int .i64 0, .int .i64 0] 38)).setRow w4.heap.size #[.int .i64 xo.no, .int .i64 xo.cur, .int .i64 xo.mult, .int .i64 xo.add, .int .i64 xo.set, .int .i64 xo.price, .int .i64 xo.h0, .int .i64 xo.h1, .int .i64 xo.h2, .int .i64 xo.h3, .int .i64 xo.h4, .int .i64 xo.h5]) w4.heap.size 38 [.int .i64 xo.no, .int .i64 xo.cur, .int .i64 xo.mult, .int .i64 xo.add, .int .i64 xo.set, .int .i64 xo.price, .int .i64 xo.h0, .int .i64 xo.h1, .int .i64 xo.h2, .int .i64 xo.h3, .int .i64 xo.h4, .int .i64 xo.h5] := setRow_heap _ _ _ _ _ _ (heap_alloc_new _ _)
            have hbwk2 := bgo HB.out hbsk2 (Below.size HB.out)
            obtain ⟨Wk2, hWk2⟩ : ∃ zz, zz = ((w4.alloc (.cells #[.int .i64 0, .int .i64 0, .int .i64 0, .int .i64 0, .int .i64 0, .int .i64 0, .int .i64 0, .int .i64 0, .int .i64 0, .int .i64 0, .int .i64 0, .int .i64 0] 38)).setRow w4.heap.size #[.int .i64 xo.no, .int .i64 xo.cur, .int .i64 xo.mult, .int .i64 xo.add, .int .i64 xo.set, .int .i64 xo.price, .int .i64 xo.h0, .int .i64 xo.h1, .int .i64 xo.h2, .int .i64 xo.h3, .int .i64 xo.h4, .int .i64 xo.h5]) := ⟨_, rfl⟩
            rw [← hWk2] at hbsk2 hxk2 hbwk2 ⊢
            obtain ⟨gxk2, hgk2⟩ : ∃ zz, zz = w4.heap.size := ⟨_, rfl⟩
            rw [← hgk2] at hxk2 ⊢
            have HGEk2 : Hid (∀ m, m ≤ w4.heap.size → m ≤ gxk2) := fun m h => by omega
            have HXk2 := Lib.hid hxk2
            have HBWk2 := Lib.hid hbwk2
            have HBSk2 := Lib.hid hbsk2
            clear hWk2 hxk2 hbwk2 hbsk2 hgk2 HONk2
            obtain ⟨gi, hgq⟩ : ∃ g, g = gxk2 := ⟨_, rfl⟩
            rw [← hgq] at HXk2 HGEk2 ⊢
            have HGgi : Hid (W.heap.size ≤ gi) := HGEk2.out _ HB.out.size
            clear hgq HBWk2 HGEk2
            have HRBn := Lib.hid (HRB.out.below HBSk2.out)
            clear HRB
            have HRB := HRBn
            clear HRBn
            have HRWn := Lib.hid (HRW.out.mono HBSk2.out)
            clear HRW
            have HRW := HRWn
            clear HRWn
            have HOTn := Lib.hid (HOT.out.below HBSk2.out)
            clear HOT
            have HOT := HOTn
            clear HOTn
            have HTBn := Lib.hid (HTB.out.below HBSk2.out)
            clear HTB
            have HTB := HTBn
            clear HTBn
            have HBn := Lib.hid (bgo HB.out HBSk2.out HB.out.size)
            clear HB
            have HB := HBn
            clear HBn
            clear HBSk2
            have HIB := HXk2
            clear HXk2 HSZk2
            go_wp2_with fail
            refine (wakes11_any Wk2).mono ?_
            rintro e wz ⟨rfl, hb⟩
            go_wp2_with fail
            go_ret
            exact ⟨rfl, bgo HB.out hb HB.out.size⟩
        · have HWB : Hid (wB price 1 1073741824 = false) := by show _ = _; unfold wB; exact decide_eq_false (fun h => hp1 h.1)
          have HB := HBL
          clear HBL
          obtain ⟨X, hX⟩ : ∃ X, X = tellR R no price := ⟨_, rfl⟩
          have tl := Tell_any wc _ _ _ R no price HRW.out (chkR_few HGD.out)
          rw [← hX] at tl
          have hx1 : X = (3, .nil) := by rw [hX]; unfold tellR; rw [if_neg (by rw [HGD.out]; decide), if_neg (by rw [hbt]; decide), if_pos HWB.out]
          obtain ⟨xo, hxo⟩ : ∃ x, x = fdX InT.no iZ no R.I := ⟨_, rfl⟩
          subst hx1
          clear hX
          have HXO := Lib.hid hxo
          clear hxo
          have HBB : Hid (true = hasB InT.no no R.I) := hbt.symm
          have HSZr : Hid ((Try.prog.info? 26).map (·.size) = some (#[.slice aM nM cM, .slice aI nI cI, .slice aA nA cA] : Array Value).size) := by show _ = _; rw [rol_sz]; rfl
          have HONr : Hid ((#[.slice aM nM cM, .slice aI nI cI, .slice aA nA cA] : Array Value).all (·.oneCell') = true) := by show _ = true; simp [Value.oneCell']
          have HRBx : Hid (wc.heap[gr]? = some (.cells #[.slice aM nM cM, .slice aI nI cI, .slice aA nA cA] 26 (0, 0))) := HRB.out
          go_wp2_with (first
            | (refine wpList_load_row rfl 26 (.tmp 7) rfl gr rfl 26 #[.slice aM nM cM, .slice aI nI cI, .slice aA nA cA] (0, 0) _ HRBx.out Try.underlying26 rfl HSZr.out ?_)
            | fail)
          refine tl.mono ?_
          clear tl HRBx
          rintro e w3 ⟨aM2, nM2, cM2, aI2, nI2, cI2, aA2, nA2, cA2, rfl, ho, hb⟩
          have HOT := Lib.hid ho
          clear ho
          have HRBn := Lib.hid (HRB.out.below hb)
          clear HRB
          have HRB := HRBn
          clear HRBn
          have HRWn := Lib.hid (HRW.out.mono hb)
          clear HRW
          have HRW := HRWn
          clear HRWn
          have HBn := Lib.hid (bgo HB.out hb HB.out.size)
          clear HB
          have HB := HBn
          clear HBn
          clear hb
          have HSZk1 : Hid ((Try.prog.info? 26).map (·.size) = some (#[.slice aM2 nM2 cM2, .slice aI2 nI2 cI2, .slice aA2 nA2 cA2] : Array Value).size) := by show _ = _; rw [rol_sz]; rfl
          have HONk1 : Hid ((#[.slice aM2 nM2 cM2, .slice aI2 nI2 cI2, .slice aA2 nA2 cA2] : Array Value).all (·.oneCell') = true) := by show _ = true; simp [Value.oneCell']
          go_upto_region 11 with (first
            | (refine wpList_store_row rfl 26 (.tmp 11) (.tmp 49) rfl w3.heap.size #[.slice aM2 nM2 cM2, .slice aI2 nI2 cI2, .slice aA2 nA2 cA2] rfl rfl 26 #[.slice none 0 0, .slice none 0 0, .slice none 0 0] (heap_alloc_new _ _) HSZk1.out rfl HONk1.out ?_)
            | fail)
          have hbsk1 : Below w3.heap.size w3 ((w3.alloc (.cells #[.slice none 0 0, .slice none 0 0, .slice none 0 0] 26)).setRow w3.heap.size #[.slice aM2 nM2 cM2, .slice aI2 nI2 cI2, .slice aA2 nA2 cA2]) := ((Below.refl _ _).alloc (Nat.le_refl _) _).trans (setRow_below (Nat.le_refl _) _)
          have hxk1 : HT ((w3.alloc (.cells #[.slice none 0 0, .slice none 0 0, .slice none 0 0] 26)).setRow w3.heap.size #[.slice aM2 nM2 cM2, .slice aI2 nI2 cI2, .slice aA2 nA2 cA2]) w3.heap.size 26 [.slice aM2 nM2 cM2, .slice aI2 nI2 cI2, .slice aA2 nA2 cA2] := setRow_heap _ _ _ _ _ _ (heap_alloc_new _ _)
          have hbwk1 := bgo HB.out hbsk1 (Below.size HB.out)
          obtain ⟨Wk1, hWk1⟩ : ∃ zz, zz = ((w3.alloc (.cells #[.slice none 0 0, .slice none 0 0, .slice none 0 0] 26)).setRow w3.heap.size #[.slice aM2 nM2 cM2, .slice aI2 nI2 cI2, .slice aA2 nA2 cA2]) := ⟨_, rfl⟩
          rw [← hWk1] at hbsk1 hxk1 hbwk1 ⊢
          obtain ⟨gxk1, hgk1⟩ : ∃ zz, zz = w3.heap.size := ⟨_, rfl⟩
          rw [← hgk1] at hxk1 ⊢
          have HGEk1 : Hid (∀ m, m ≤ w3.heap.size → m ≤ gxk1) := fun m h => by omega
          have HXk1 := Lib.hid hxk1
          have HBWk1 := Lib.hid hbwk1
          have HBSk1 := Lib.hid hbsk1
          clear hWk1 hxk1 hbwk1 hbsk1 hgk1 HONk1
          obtain ⟨gt, hgq⟩ : ∃ g, g = gxk1 := ⟨_, rfl⟩
          rw [← hgq] at HXk1 HGEk1 ⊢
          have HGgt : Hid (W.heap.size ≤ gt) := HGEk1.out _ HB.out.size
          clear hgq HBWk1 HGEk1
          have HRBn := Lib.hid (HRB.out.below HBSk1.out)
          clear HRB
          have HRB := HRBn
          clear HRBn
          have HRWn := Lib.hid (HRW.out.mono HBSk1.out)
          clear HRW
          have HRW := HRWn
          clear HRWn
          have HOTn := Lib.hid (HOT.out.below HBSk1.out)
          clear HOT
          have HOT := HOTn
          clear HOTn
          have HBn := Lib.hid (bgo HB.out HBSk1.out HB.out.size)
          clear HB
          have HB := HBn
          clear HBn
          clear HBSk1
          have HTB := HXk1
          clear HXk1 HSZk1
          have HRBx : Hid (Wk1.heap[gr]? = some (.cells #[.slice aM nM cM, .slice aI nI cI, .slice aA nA cA] 26 (0, 0))) := HRB.out
          go_wp2_with (first
            | (refine wpList_load_row rfl 26 (.tmp 7) rfl gr rfl 26 #[.slice aM nM cM, .slice aI nI cI, .slice aA nA cA] (0, 0) _ HRBx.out Try.underlying26 rfl HSZr.out ?_)
            | fail)
          refine (Inst_any _ _ _ _ R.I no xo true HRW.out.2.1 HXO.out HBB.out).mono ?_
          clear HRBx
          rintro e w4 ⟨rfl, hb⟩
          have HRBn := Lib.hid (HRB.out.below hb)
          clear HRB
          have HRB := HRBn
          clear HRBn
          have HRWn := Lib.hid (HRW.out.mono hb)
          clear HRW
          have HRW := HRWn
          clear HRWn
          have HOTn := Lib.hid (HOT.out.below hb)
          clear HOT
          have HOT := HOTn
          clear HOTn
          have HTBn := Lib.hid (HTB.out.below hb)
          clear HTB
          have HTB := HTBn
          clear HTBn
          have HBn := Lib.hid (bgo HB.out hb HB.out.size)
          clear HB
          have HB := HBn
          clear HBn
          clear hb
          have HSZk2 : Hid ((Try.prog.info? 38).map (·.size) = some (#[.int .i64 xo.no, .int .i64 xo.cur, .int .i64 xo.mult, .int .i64 xo.add, .int .i64 xo.set, .int .i64 xo.price, .int .i64 xo.h0, .int .i64 xo.h1, .int .i64 xo.h2, .int .i64 xo.h3, .int .i64 xo.h4, .int .i64 xo.h5] : Array Value).size) := by show _ = _; rw [ins_sz]; rfl
          have HONk2 : Hid ((#[.int .i64 xo.no, .int .i64 xo.cur, .int .i64 xo.mult, .int .i64 xo.add, .int .i64 xo.set, .int .i64 xo.price, .int .i64 xo.h0, .int .i64 xo.h1, .int .i64 xo.h2, .int .i64 xo.h3, .int .i64 xo.h4, .int .i64 xo.h5] : Array Value).all (·.oneCell') = true) := by show _ = true; simp [Value.oneCell']
          go_upto_region 12 with (first
            | (refine wpList_store_row rfl 38 (.tmp 13) (.tmp 55) rfl w4.heap.size #[.int .i64 xo.no, .int .i64 xo.cur, .int .i64 xo.mult, .int .i64 xo.add, .int .i64 xo.set, .int .i64 xo.price, .int .i64 xo.h0, .int .i64 xo.h1, .int .i64 xo.h2, .int .i64 xo.h3, .int .i64 xo.h4, .int .i64 xo.h5] rfl rfl 38 #[.int .i64 0, .int .i64 0, .int .i64 0, .int .i64 0, .int .i64 0, .int .i64 0, .int .i64 0, .int .i64 0, .int .i64 0, .int .i64 0, .int .i64 0, .int .i64 0] (heap_alloc_new _ _) HSZk2.out rfl HONk2.out ?_)
            | fail)
          have hbsk2 : Below w4.heap.size w4 ((w4.alloc (.cells #[.int .i64 0, .int .i64 0, .int .i64 0, .int .i64 0, .int .i64 0, .int .i64 0, .int .i64 0, .int .i64 0, .int .i64 0, .int .i64 0, .int .i64 0, .int .i64 0] 38)).setRow w4.heap.size #[.int .i64 xo.no, .int .i64 xo.cur, .int .i64 xo.mult, .int .i64 xo.add, .int .i64 xo.set, .int .i64 xo.price, .int .i64 xo.h0, .int .i64 xo.h1, .int .i64 xo.h2, .int .i64 xo.h3, .int .i64 xo.h4, .int .i64 xo.h5]) := ((Below.refl _ _).alloc (Nat.le_refl _) _).trans (setRow_below (Nat.le_refl _) _)
          have hxk2 : HT ((w4.alloc (.cells #[.int .i64 0, .int .i64 0, .int .i64 0, .int .i64 0, .int .i64 0, .int .i64 0, .int .i64 0, .int .i64 0, .int .i64 0, .int .i64 0, .int .i64 0, .int .i64 0] 38)).setRow w4.heap.size #[.int .i64 xo.no, .int .i64 xo.cur, .int .i64 xo.mult, .int .i64 xo.add, .int .i64 xo.set, .int .i64 xo.price, .int .i64 xo.h0, .int .i64 xo.h1, .int .i64 xo.h2, .int .i64 xo.h3, .int .i64 xo.h4, .int .i64 xo.h5]) w4.heap.size 38 [.int .i64 xo.no, .int .i64 xo.cur, .int .i64 xo.mult, .int .i64 xo.add, .int .i64 xo.set, .int .i64 xo.price, .int .i64 xo.h0, .int .i64 xo.h1, .int .i64 xo.h2, .int .i64 xo.h3, .int .i64 xo.h4, .int .i64 xo.h5] := setRow_heap _ _ _ _ _ _ (heap_alloc_new _ _)
          have hbwk2 := bgo HB.out hbsk2 (Below.size HB.out)
          obtain ⟨Wk2, hWk2⟩ : ∃ zz, zz = ((w4.alloc (.cells #[.int .i64 0, .int .i64 0, .int .i64 0, .int .i64 0, .int .i64 0, .int .i64 0, .int .i64 0, .int .i64 0, .int .i64 0, .int .i64 0, .int .i64 0, .int .i64 0] 38)).setRow w4.heap.size #[.int .i64 xo.no, .int .i64 xo.cur, .int .i64 xo.mult, .int .i64 xo.add, .int .i64 xo.set, .int .i64 xo.price, .int .i64 xo.h0, .int .i64 xo.h1, .int .i64 xo.h2, .int .i64 xo.h3, .int .i64 xo.h4, .int .i64 xo.h5]) := ⟨_, rfl⟩
          rw [← hWk2] at hbsk2 hxk2 hbwk2 ⊢
          obtain ⟨gxk2, hgk2⟩ : ∃ zz, zz = w4.heap.size := ⟨_, rfl⟩
          rw [← hgk2] at hxk2 ⊢
          have HGEk2 : Hid (∀ m, m ≤ w4.heap.size → m ≤ gxk2) := fun m h => by omega
          have HXk2 := Lib.hid hxk2
          have HBWk2 := Lib.hid hbwk2
          have HBSk2 := Lib.hid hbsk2
          clear hWk2 hxk2 hbwk2 hbsk2 hgk2 HONk2
          obtain ⟨gi, hgq⟩ : ∃ g, g = gxk2 := ⟨_, rfl⟩
          rw [← hgq] at HXk2 HGEk2 ⊢
          have HGgi : Hid (W.heap.size ≤ gi) := HGEk2.out _ HB.out.size
          clear hgq HBWk2 HGEk2
          have HRBn := Lib.hid (HRB.out.below HBSk2.out)
          clear HRB
          have HRB := HRBn
          clear HRBn
          have HRWn := Lib.hid (HRW.out.mono HBSk2.out)
          clear HRW
          have HRW := HRWn
          clear HRWn
          have HOTn := Lib.hid (HOT.out.below HBSk2.out)
          clear HOT
          have HOT := HOTn
          clear HOTn
          have HTBn := Lib.hid (HTB.out.below HBSk2.out)
          clear HTB
          have HTB := HTBn
          clear HTBn
          have HBn := Lib.hid (bgo HB.out HBSk2.out HB.out.size)
          clear HB
          have HB := HBn
          clear HBn
          clear HBSk2
          have HIB := HXk2
          clear HXk2 HSZk2
          go_wp2_with fail
          refine (wakes11_any Wk2).mono ?_
          rintro e wz ⟨rfl, hb⟩
          go_wp2_with fail
          go_ret
          exact ⟨rfl, bgo HB.out hb HB.out.size⟩
      · have hbf : hasB InT.no no R.I = false := by simpa using hbt
        have HB := HBL
        clear HBL
        obtain ⟨X, hX⟩ : ∃ X, X = tellR R no price := ⟨_, rfl⟩
        have tl := Tell_any wc _ _ _ R no price HRW.out (chkR_few HGD.out)
        rw [← hX] at tl
        have hx1 : X = (10, .nil) := by rw [hX]; unfold tellR; rw [if_neg (by rw [HGD.out]; decide), if_pos hbf]
        obtain ⟨xo, hxo⟩ : ∃ x, x = fdX InT.no iZ no R.I := ⟨_, rfl⟩
        subst hx1
        clear hX
        have HXO := Lib.hid hxo
        clear hxo
        have HBB : Hid (false = hasB InT.no no R.I) := hbf.symm
        have HSZr : Hid ((Try.prog.info? 26).map (·.size) = some (#[.slice aM nM cM, .slice aI nI cI, .slice aA nA cA] : Array Value).size) := by show _ = _; rw [rol_sz]; rfl
        have HONr : Hid ((#[.slice aM nM cM, .slice aI nI cI, .slice aA nA cA] : Array Value).all (·.oneCell') = true) := by show _ = true; simp [Value.oneCell']
        have HRBx : Hid (wc.heap[gr]? = some (.cells #[.slice aM nM cM, .slice aI nI cI, .slice aA nA cA] 26 (0, 0))) := HRB.out
        go_wp2_with (first
          | (refine wpList_load_row rfl 26 (.tmp 7) rfl gr rfl 26 #[.slice aM nM cM, .slice aI nI cI, .slice aA nA cA] (0, 0) _ HRBx.out Try.underlying26 rfl HSZr.out ?_)
          | fail)
        refine tl.mono ?_
        clear tl HRBx
        rintro e w3 ⟨aM2, nM2, cM2, aI2, nI2, cI2, aA2, nA2, cA2, rfl, ho, hb⟩
        have HOT := Lib.hid ho
        clear ho
        have HRBn := Lib.hid (HRB.out.below hb)
        clear HRB
        have HRB := HRBn
        clear HRBn
        have HRWn := Lib.hid (HRW.out.mono hb)
        clear HRW
        have HRW := HRWn
        clear HRWn
        have HBn := Lib.hid (bgo HB.out hb HB.out.size)
        clear HB
        have HB := HBn
        clear HBn
        clear hb
        have HSZk1 : Hid ((Try.prog.info? 26).map (·.size) = some (#[.slice aM2 nM2 cM2, .slice aI2 nI2 cI2, .slice aA2 nA2 cA2] : Array Value).size) := by show _ = _; rw [rol_sz]; rfl
        have HONk1 : Hid ((#[.slice aM2 nM2 cM2, .slice aI2 nI2 cI2, .slice aA2 nA2 cA2] : Array Value).all (·.oneCell') = true) := by show _ = true; simp [Value.oneCell']
        go_upto_region 11 with (first
          | (refine wpList_store_row rfl 26 (.tmp 11) (.tmp 49) rfl w3.heap.size #[.slice aM2 nM2 cM2, .slice aI2 nI2 cI2, .slice aA2 nA2 cA2] rfl rfl 26 #[.slice none 0 0, .slice none 0 0, .slice none 0 0] (heap_alloc_new _ _) HSZk1.out rfl HONk1.out ?_)
          | fail)
        have hbsk1 : Below w3.heap.size w3 ((w3.alloc (.cells #[.slice none 0 0, .slice none 0 0, .slice none 0 0] 26)).setRow w3.heap.size #[.slice aM2 nM2 cM2, .slice aI2 nI2 cI2, .slice aA2 nA2 cA2]) := ((Below.refl _ _).alloc (Nat.le_refl _) _).trans (setRow_below (Nat.le_refl _) _)
        have hxk1 : HT ((w3.alloc (.cells #[.slice none 0 0, .slice none 0 0, .slice none 0 0] 26)).setRow w3.heap.size #[.slice aM2 nM2 cM2, .slice aI2 nI2 cI2, .slice aA2 nA2 cA2]) w3.heap.size 26 [.slice aM2 nM2 cM2, .slice aI2 nI2 cI2, .slice aA2 nA2 cA2] := setRow_heap _ _ _ _ _ _ (heap_alloc_new _ _)
        have hbwk1 := bgo HB.out hbsk1 (Below.size HB.out)
        obtain ⟨Wk1, hWk1⟩ : ∃ zz, zz = ((w3.alloc (.cells #[.slice none 0 0, .slice none 0 0, .slice none 0 0] 26)).setRow w3.heap.size #[.slice aM2 nM2 cM2, .slice aI2 nI2 cI2, .slice aA2 nA2 cA2]) := ⟨_, rfl⟩
        rw [← hWk1] at hbsk1 hxk1 hbwk1 ⊢
        obtain ⟨gxk1, hgk1⟩ : ∃ zz, zz = w3.heap.size := ⟨_, rfl⟩
        rw [← hgk1] at hxk1 ⊢
        have HGEk1 : Hid (∀ m, m ≤ w3.heap.size → m ≤ gxk1) := fun m h => by omega
        have HXk1 := Lib.hid hxk1
        have HBWk1 := Lib.hid hbwk1
        have HBSk1 := Lib.hid hbsk1
        clear hWk1 hxk1 hbwk1 hbsk1 hgk1 HONk1
        obtain ⟨gt, hgq⟩ : ∃ g, g = gxk1 := ⟨_, rfl⟩
        rw [← hgq] at HXk1 HGEk1 ⊢
        have HGgt : Hid (W.heap.size ≤ gt) := HGEk1.out _ HB.out.size
        clear hgq HBWk1 HGEk1
        have HRBn := Lib.hid (HRB.out.below HBSk1.out)
        clear HRB
        have HRB := HRBn
        clear HRBn
        have HRWn := Lib.hid (HRW.out.mono HBSk1.out)
        clear HRW
        have HRW := HRWn
        clear HRWn
        have HOTn := Lib.hid (HOT.out.below HBSk1.out)
        clear HOT
        have HOT := HOTn
        clear HOTn
        have HBn := Lib.hid (bgo HB.out HBSk1.out HB.out.size)
        clear HB
        have HB := HBn
        clear HBn
        clear HBSk1
        have HTB := HXk1
        clear HXk1 HSZk1
        have HRBx : Hid (Wk1.heap[gr]? = some (.cells #[.slice aM nM cM, .slice aI nI cI, .slice aA nA cA] 26 (0, 0))) := HRB.out
        go_wp2_with (first
          | (refine wpList_load_row rfl 26 (.tmp 7) rfl gr rfl 26 #[.slice aM nM cM, .slice aI nI cI, .slice aA nA cA] (0, 0) _ HRBx.out Try.underlying26 rfl HSZr.out ?_)
          | fail)
        refine (Inst_any _ _ _ _ R.I no xo false HRW.out.2.1 HXO.out HBB.out).mono ?_
        clear HRBx
        rintro e w4 ⟨rfl, hb⟩
        have HRBn := Lib.hid (HRB.out.below hb)
        clear HRB
        have HRB := HRBn
        clear HRBn
        have HRWn := Lib.hid (HRW.out.mono hb)
        clear HRW
        have HRW := HRWn
        clear HRWn
        have HOTn := Lib.hid (HOT.out.below hb)
        clear HOT
        have HOT := HOTn
        clear HOTn
        have HTBn := Lib.hid (HTB.out.below hb)
        clear HTB
        have HTB := HTBn
        clear HTBn
        have HBn := Lib.hid (bgo HB.out hb HB.out.size)
        clear HB
        have HB := HBn
        clear HBn
        clear hb
        have HSZk2 : Hid ((Try.prog.info? 38).map (·.size) = some (#[.int .i64 xo.no, .int .i64 xo.cur, .int .i64 xo.mult, .int .i64 xo.add, .int .i64 xo.set, .int .i64 xo.price, .int .i64 xo.h0, .int .i64 xo.h1, .int .i64 xo.h2, .int .i64 xo.h3, .int .i64 xo.h4, .int .i64 xo.h5] : Array Value).size) := by show _ = _; rw [ins_sz]; rfl
        have HONk2 : Hid ((#[.int .i64 xo.no, .int .i64 xo.cur, .int .i64 xo.mult, .int .i64 xo.add, .int .i64 xo.set, .int .i64 xo.price, .int .i64 xo.h0, .int .i64 xo.h1, .int .i64 xo.h2, .int .i64 xo.h3, .int .i64 xo.h4, .int .i64 xo.h5] : Array Value).all (·.oneCell') = true) := by show _ = true; simp [Value.oneCell']
        go_upto_region 12 with (first
          | (refine wpList_store_row rfl 38 (.tmp 13) (.tmp 55) rfl w4.heap.size #[.int .i64 xo.no, .int .i64 xo.cur, .int .i64 xo.mult, .int .i64 xo.add, .int .i64 xo.set, .int .i64 xo.price, .int .i64 xo.h0, .int .i64 xo.h1, .int .i64 xo.h2, .int .i64 xo.h3, .int .i64 xo.h4, .int .i64 xo.h5] rfl rfl 38 #[.int .i64 0, .int .i64 0, .int .i64 0, .int .i64 0, .int .i64 0, .int .i64 0, .int .i64 0, .int .i64 0, .int .i64 0, .int .i64 0, .int .i64 0, .int .i64 0] (heap_alloc_new _ _) HSZk2.out rfl HONk2.out ?_)
          | fail)
        have hbsk2 : Below w4.heap.size w4 ((w4.alloc (.cells #[.int .i64 0, .int .i64 0, .int .i64 0, .int .i64 0, .int .i64 0, .int .i64 0, .int .i64 0, .int .i64 0, .int .i64 0, .int .i64 0, .int .i64 0, .int .i64 0] 38)).setRow w4.heap.size #[.int .i64 xo.no, .int .i64 xo.cur, .int .i64 xo.mult, .int .i64 xo.add, .int .i64 xo.set, .int .i64 xo.price, .int .i64 xo.h0, .int .i64 xo.h1, .int .i64 xo.h2, .int .i64 xo.h3, .int .i64 xo.h4, .int .i64 xo.h5]) := ((Below.refl _ _).alloc (Nat.le_refl _) _).trans (setRow_below (Nat.le_refl _) _)
        have hxk2 : HT ((w4.alloc (.cells #[.int .i64 0, .int .i64 0, .int .i64 0, .int .i64 0, .int .i64 0, .int .i64 0, .int .i64 0, .int .i64 0, .int .i64 0, .int .i64 0, .int .i64 0, .int .i64 0] 38)).setRow w4.heap.size #[.int .i64 xo.no, .int .i64 xo.cur, .int .i64 xo.mult, .int .i64 xo.add, .int .i64 xo.set, .int .i64 xo.price, .int .i64 xo.h0, .int .i64 xo.h1, .int .i64 xo.h2, .int .i64 xo.h3, .int .i64 xo.h4, .int .i64 xo.h5]) w4.heap.size 38 [.int .i64 xo.no, .int .i64 xo.cur, .int .i64 xo.mult, .int .i64 xo.add, .int .i64 xo.set, .int .i64 xo.price, .int .i64 xo.h0, .int .i64 xo.h1, .int .i64 xo.h2, .int .i64 xo.h3, .int .i64 xo.h4, .int .i64 xo.h5] := setRow_heap _ _ _ _ _ _ (heap_alloc_new _ _)
        have hbwk2 := bgo HB.out hbsk2 (Below.size HB.out)
        obtain ⟨Wk2, hWk2⟩ : ∃ zz, zz = ((w4.alloc (.cells #[.int .i64 0, .int .i64 0, .int .i64 0, .int .i64 0, .int .i64 0, .int .i64 0, .int .i64 0, .int .i64 0, .int .i64 0, .int .i64 0, .int .i64 0, .int .i64 0] 38)).setRow w4.heap.size #[.int .i64 xo.no, .int .i64 xo.cur, .int .i64 xo.mult, .int .i64 xo.add, .int .i64 xo.set, .int .i64 xo.price, .int .i64 xo.h0, .int .i64 xo.h1, .int .i64 xo.h2, .int .i64 xo.h3, .int .i64 xo.h4, .int .i64 xo.h5]) := ⟨_, rfl⟩
        rw [← hWk2] at hbsk2 hxk2 hbwk2 ⊢
        obtain ⟨gxk2, hgk2⟩ : ∃ zz, zz = w4.heap.size := ⟨_, rfl⟩
        rw [← hgk2] at hxk2 ⊢
        have HGEk2 : Hid (∀ m, m ≤ w4.heap.size → m ≤ gxk2) := fun m h => by omega
        have HXk2 := Lib.hid hxk2
        have HBWk2 := Lib.hid hbwk2
        have HBSk2 := Lib.hid hbsk2
        clear hWk2 hxk2 hbwk2 hbsk2 hgk2 HONk2
        obtain ⟨gi, hgq⟩ : ∃ g, g = gxk2 := ⟨_, rfl⟩
        rw [← hgq] at HXk2 HGEk2 ⊢
        have HGgi : Hid (W.heap.size ≤ gi) := HGEk2.out _ HB.out.size
        clear hgq HBWk2 HGEk2
        have HRBn := Lib.hid (HRB.out.below HBSk2.out)
        clear HRB
        have HRB := HRBn
        clear HRBn
        have HRWn := Lib.hid (HRW.out.mono HBSk2.out)
        clear HRW
        have HRW := HRWn
        clear HRWn
        have HOTn := Lib.hid (HOT.out.below HBSk2.out)
        clear HOT
        have HOT := HOTn
        clear HOTn
        have HTBn := Lib.hid (HTB.out.below HBSk2.out)
        clear HTB
        have HTB := HTBn
        clear HTBn
        have HBn := Lib.hid (bgo HB.out HBSk2.out HB.out.size)
        clear HB
        have HB := HBn
        clear HBn
        clear HBSk2
        have HIB := HXk2
        clear HXk2 HSZk2
        go_wp2_with fail
        refine (wakes11_any Wk2).mono ?_
        rintro e wz ⟨rfl, hb⟩
        go_wp2_with fail
        go_ret
        exact ⟨rfl, bgo HB.out hb HB.out.size⟩

end Cam
