import Derived.Test.YtilbijekmmkiaaaRlPd
import Derived.Test.YtilbijekmmkiaaaRlN
import Derived.Test.YtilbijekmmkiaaaRlK
import Derived.Deep.CutBlock
/- ch. 11: RollPuts: the walk. -/
namespace Cam
open Go Go.RowKit Go.Proofs

theorem flatW_cut1 {α : Type} {f : α → List Value} {K : Nat} : ∀ {L : List α} (_ : ∀ a, (f a).length = K) {i : Nat} (hi : i < L.length), ((flatW f L).drop (i * K)).take K = flatW f [L[i]]
  | [], _, i, hi => by simp at hi
  | a :: L, h, 0, _ => by
    rw [show flatW f (a :: L) = f a ++ flatW f L from rfl, Nat.zero_mul, List.drop_zero, List.take_left' (h a)]
    simp [flatW]
  | a :: L, h, i + 1, hi => by
    have ih := flatW_cut1 (L := L) h (i := i) (by simpa using hi)
    rw [show flatW f (a :: L) = f a ++ flatW f L from rfl, show (i + 1) * K = (f a).length + i * K by rw [h a, Nat.add_mul]; omega, List.drop_append, List.drop_eq_nil_of_le (by omega), List.nil_append, Nat.add_sub_cancel_left, ih]
    rfl
/-- one row of some -/
theorem Rs.cut1 {α : Type} {enc : α → List Value} {K b off n cap : Nat} {w : World} {L : List α} (h : Rs enc K w (.slice (some ⟨b, off, none⟩) n cap) L) {i : Nat} (hi : i < L.length) (hc : i < cap) (hK : 0 < K) : Rs enc K w (.slice (some ⟨b, off + i * K, none⟩) 1 (cap - i)) [L[i]] := by
  have hn := h.n
  have h1 := h.2.cut i (i + 1) (by omega) (by omega)
  rw [if_neg (show ¬ cap = i by omega), Nat.add_sub_cancel_left, Nat.one_mul, flatW_cut1 h.1 hi] at h1
  refine ⟨h.1, ?_⟩
  by_cases e : i = 0
  · subst e
    simpa [Addr.add] using h1
  · have e2 : ¬ i * K = 0 := fun h => by rcases Nat.mul_eq_zero.1 h with h | h <;> omega
    simp only [Option.map_some, Addr.add] at h1
    rw [if_neg e2] at h1
    exact h1
theorem Rs.cap {α : Type} {enc : α → List Value} {K n cap : Nat} {w : World} {a : Option Addr} {L : List α} (h : Rs enc K w (.slice a n cap) L) : n ≤ cap := by
  obtain ⟨a9, c9, e9, h9, _⟩ := h.shape
  simp only [Value.slice.injEq] at e9
  omega

set_option maxRecDepth 100000 in
set_option maxHeartbeats 12800000 in
theorem RollPuts_walk (W : World) (v0 : Value) (l0 : List AcT) (who st : Int) (h : Rs AcT.vs 19 W v0 l0) :
    Calls Try.prog 7 #[v0, .int .i64 who, .int .i64 st] W fun e w' => e = .returned (.bool true) ∧ Below W.heap.size W w' := by
  obtain ⟨av0, cap, rfl, hcap, hm⟩ := h.shape
  obtain ⟨n, hn⟩ : ∃ n, n = l0.length := ⟨_, rfl⟩
  have HN := Lib.hid hn
  rw [← hn] at hcap h ⊢
  have H0 := Lib.hid h
  clear hn h
  by_cases hlong : 500 < n
  · go_enter Try.func7, Try.ntmps7
    go_wp2_with fail
    go_ret
    exact ⟨rfl, Below.refl _ _⟩
  · go_enter Try.func7, Try.ntmps7
    have HSZb : Hid ((Try.prog.info? 26).map (·.size) = some (#[.slice none 0 0, .slice none 0 0, .slice none 0 0] : Array Value).size) := by show _ = _; rw [rol_sz]; rfl
    have HONb : Hid ((#[.slice none 0 0, .slice none 0 0, .slice none 0 0] : Array Value).all (·.oneCell') = true) := by show _ = true; simp [Value.oneCell']
    go_upto_region 4 with (first
      | (refine wpList_store_row rfl 26 (.tmp 7) (.tmp 21) rfl W.heap.size #[.slice none 0 0, .slice none 0 0, .slice none 0 0] rfl rfl 26 #[.slice none 0 0, .slice none 0 0, .slice none 0 0] (heap_alloc_new _ _) HSZb.out rfl HONb.out ?_)
      | fail)
    have hbsb : Below W.heap.size W ((W.alloc (.cells #[.slice none 0 0, .slice none 0 0, .slice none 0 0] 26)).setRow W.heap.size #[.slice none 0 0, .slice none 0 0, .slice none 0 0]) := ((Below.refl _ _).alloc (Nat.le_refl _) _).trans (setRow_below (Nat.le_refl _) _)
    have hxb : HT ((W.alloc (.cells #[.slice none 0 0, .slice none 0 0, .slice none 0 0] 26)).setRow W.heap.size #[.slice none 0 0, .slice none 0 0, .slice none 0 0]) W.heap.size 26 [.slice none 0 0, .slice none 0 0, .slice none 0 0] := setRow_heap _ _ _ _ _ _ (heap_alloc_new _ _)
    have hbwb := bgo (Below.refl W.heap.size W) hbsb (Below.size (Below.refl W.heap.size W))
    obtain ⟨Wb, hWb⟩ : ∃ zz, zz = ((W.alloc (.cells #[.slice none 0 0, .slice none 0 0, .slice none 0 0] 26)).setRow W.heap.size #[.slice none 0 0, .slice none 0 0, .slice none 0 0]) := ⟨_, rfl⟩
    rw [← hWb] at hbsb hxb hbwb ⊢
    obtain ⟨gxb, hgb⟩ : ∃ zz, zz = W.heap.size := ⟨_, rfl⟩
    rw [← hgb] at hxb ⊢
    have HGEb : Hid (∀ m, m ≤ W.heap.size → m ≤ gxb) := fun m h => by omega
    have HXb := Lib.hid hxb
    have HBWb := Lib.hid hbwb
    have HBSb := Lib.hid hbsb
    clear hWb hxb hbwb hbsb hgb HONb
    obtain ⟨gr, hgr⟩ : ∃ g, g = gxb := ⟨_, rfl⟩
    rw [← hgr] at HXb HGEb ⊢
    have HGR : Hid (W.heap.size ≤ gr) := HGEb.out _ (Nat.le_refl _)
    clear hgr HGEb HBSb HSZb
    go_upto_block 0 with fail
    go_cut [] (fun wr => ∃ (R : RollT) (aM : Option Addr) (nM cM : Nat) (aI : Option Addr) (nI cI : Nat) (aA : Option Addr) (nA cA : Nat), HT wr gr 26 [.slice aM nM cM, .slice aI nI cI, .slice aA nA cA] ∧ RollIn wr (.slice aM nM cM) (.slice aI nI cI) (.slice aA nA cA) R ∧ Hid (chkR R = true) ∧ Below W.heap.size W wr)
    case first =>
      go_wp2_with fail
      go_loopw [8] (fun v wr => ∃ (k : Nat) (R : RollT) (aM : Option Addr) (nM cM : Nat) (aI : Option Addr) (nI cI : Nat) (aA : Option Addr) (nA cA : Nat), k ≤ n ∧ v = .int .i64 k ∧ HT wr gr 26 [.slice aM nM cM, .slice aI nI cI, .slice aA nA cA] ∧ RollIn wr (.slice aM nM cM) (.slice aI nI cI) (.slice aA nA cA) R ∧ Hid (chkR R = true) ∧ Below W.heap.size W wr) (fun v _ => n - (intOf v).toNat)
      case atStart => exact ⟨0, RollT.nil, none, 0, 0, none, 0, 0, none, 0, 0, Nat.zero_le _, rfl, HXb.out, ⟨Rs.nil MbT.len _, Rs.nil InT.len _, Rs.nil AsT.len _⟩, chkR_nil, HBWb.out⟩
      case round =>
        obtain ⟨k, R, aM, nM, cM, aI, nI, cI, aA, nA, cA, hk, rfl, hrb, hri, HGD, hbel⟩ := hrel
        have HRB := Lib.hid hrb
        have HRW := Lib.hid hri
        have HBL := Lib.hid hbel
        clear hrb hri hbel
        by_cases hlt : k < n ∧ k < 100
        · obtain ⟨hkn, hk3⟩ := hlt
          have hkl : k < l0.length := by have := HN.out; omega
          obtain ⟨bl, off, rfl, _, hc⟩ := (H0.out.rew HN.out HBL.out).at (by omega) (by decide)
          obtain ⟨c, hcx⟩ : ∃ c, c = l0[k] := ⟨_, rfl⟩
          have HMS : Hid (wr.rangeAt bl (off + k * 19) [.int .i64 c.dv, .int .i64 c.av, .int .i64 c.bv, .int .i64 c.i.no, .int .i64 c.i.cur, .int .i64 c.i.mult, .int .i64 c.i.add, .int .i64 c.i.set, .int .i64 c.i.price, .int .i64 c.i.h0, .int .i64 c.i.h1, .int .i64 c.i.h2, .int .i64 c.i.h3, .int .i64 c.i.h4, .int .i64 c.i.h5, .int .i64 c.h.no, .int .i64 c.h.cur, .int .i64 c.h.price, .int .i64 c.h.cut]) := Lib.hid (fun j v h => hc k hkl j v (by rw [← hcx]; exact h))
          have HFEW := Lib.hid (chkR_few HGD.out)
          obtain ⟨X, hX⟩ : ∃ X, X = doR R c := ⟨_, rfl⟩
          have HAN : Hid (Ans R X) := by rw [hX]; exact doR_ans HGD.out c
          have HX := Lib.hid hX
          have hk0 : (0 : Int) ≤ k := by omega
          have hk1 : (k : Int) < n := by omega
          clear hc hcx hX hm
          go_wp2_with fail
          have HSZr : Hid ((Try.prog.info? 26).map (·.size) = some (#[.slice aM nM cM, .slice aI nI cI, .slice aA nA cA] : Array Value).size) := by show _ = _; rw [rol_sz]; rfl
          have HSZa : Hid ((Try.prog.info? 64).map (·.size) = some (([.int .i64 c.dv, .int .i64 c.av, .int .i64 c.bv, .int .i64 c.i.no, .int .i64 c.i.cur, .int .i64 c.i.mult, .int .i64 c.i.add, .int .i64 c.i.set, .int .i64 c.i.price, .int .i64 c.i.h0, .int .i64 c.i.h1, .int .i64 c.i.h2, .int .i64 c.i.h3, .int .i64 c.i.h4, .int .i64 c.i.h5, .int .i64 c.h.no, .int .i64 c.h.cur, .int .i64 c.h.price, .int .i64 c.h.cut] : List Value).length)) := by show _ = _; rw [act_sz]; rfl
          refine wp_region_bl 12 (by kernel_rfl) ?_
          refine wpAnyU_take (i := 0) (oi := { dst := some 33, op := Op.load 26 (Operand.tmp 7), type := 26, pos := "more.go:16", after := #[], guard := none }) (v := (.agg #[.slice aM nM cM, .slice aI nI cI, .slice aA nA cA])) rfl (by kernel_rfl) (by kernel_rfl) (by kernel_rfl) (by kernel_rfl) (by kernel_rfl) (fun _ _ _ h => h) (BL.cls wr) ?_ ?_
          · refine Or.inl ⟨rfl, fun w hSw => ?_⟩
            exact eff_load_mid 26 (.tmp 7) rfl gr 0 rfl [.slice aM nM cM, .slice aI nI cI, .slice aA nA cA] _ (fun j v h => BL.cell hSw (HRB.out.cell (by rcases j with _ | _ | _ | j; all_goals first | exact h | (simp at h)))) Try.underlying26 rfl HSZr.out
          try simp only [Act.put, List.setIfInBounds_toArray, List.set_cons_zero, List.set_cons_succ]
          refine wpAnyU_take (i := 1) (oi := { dst := some 34, op := Op.move (Operand.tmp 0), type := 61, pos := "more.go:16", after := #[], guard := none }) (v := (.slice (some ⟨bl, off, none⟩) n cap)) rfl (by kernel_rfl) (by kernel_rfl) (by kernel_rfl) (by kernel_rfl) (by kernel_rfl) (fun _ _ _ h => h) (BL.cls wr) ?_ ?_
          · refine Or.inl ⟨rfl, fun w hSw => ?_⟩
            exact EffR.same (by go_simp)
          try simp only [Act.put, List.setIfInBounds_toArray, List.set_cons_zero, List.set_cons_succ]
          refine wpAnyU_take (i := 2) (oi := { dst := some 35, op := Op.move (Operand.tmp 8), type := 3, pos := "more.go:16", after := #[], guard := none }) (v := (.int .i64 (k : Int))) rfl (by kernel_rfl) (by kernel_rfl) (by kernel_rfl) (by kernel_rfl) (by kernel_rfl) (fun _ _ _ h => h) (BL.cls wr) ?_ ?_
          · refine Or.inl ⟨rfl, fun w hSw => ?_⟩
            exact EffR.same (by go_simp)
          try simp only [Act.put, List.setIfInBounds_toArray, List.set_cons_zero, List.set_cons_succ]
          refine wpAnyU_take (i := 3) (oi := { dst := some 36, op := Op.indexAddr 61 (Operand.tmp 34) (Operand.tmp 35), type := 0, pos := "more.go:16", after := #[{ on := 1, ground := Ground.data }, { on := 2, ground := Ground.data }], guard := none }) (v := (.pointer (some ⟨bl, off + k * 19, none⟩))) rfl (by kernel_rfl) (by kernel_rfl) (by kernel_rfl) (by kernel_rfl) (by kernel_rfl) (fun _ _ _ h => h) (BL.cls wr) ?_ ?_
          · refine Or.inl ⟨rfl, fun w hSw => ?_⟩
            exact EffR.same (by go_simp)
          try simp only [Act.put, List.setIfInBounds_toArray, List.set_cons_zero, List.set_cons_succ]
          refine wpAnyU_take (i := 4) (oi := { dst := some 37, op := Op.load 64 (Operand.tmp 36), type := 64, pos := "more.go:16", after := #[{ on := 3, ground := Ground.data }], guard := none }) (v := (.agg #[.int .i64 c.dv, .int .i64 c.av, .int .i64 c.bv, .int .i64 c.i.no, .int .i64 c.i.cur, .int .i64 c.i.mult, .int .i64 c.i.add, .int .i64 c.i.set, .int .i64 c.i.price, .int .i64 c.i.h0, .int .i64 c.i.h1, .int .i64 c.i.h2, .int .i64 c.i.h3, .int .i64 c.i.h4, .int .i64 c.i.h5, .int .i64 c.h.no, .int .i64 c.h.cur, .int .i64 c.h.price, .int .i64 c.h.cut])) rfl (by kernel_rfl) (by kernel_rfl) (by kernel_rfl) (by kernel_rfl) (by kernel_rfl) (fun _ _ _ h => h) (BL.cls wr) ?_ ?_
          · refine Or.inl ⟨rfl, fun w hSw => ?_⟩
            exact eff_load_mid 64 (.tmp 36) rfl bl (off + k * 19) rfl [.int .i64 c.dv, .int .i64 c.av, .int .i64 c.bv, .int .i64 c.i.no, .int .i64 c.i.cur, .int .i64 c.i.mult, .int .i64 c.i.add, .int .i64 c.i.set, .int .i64 c.i.price, .int .i64 c.i.h0, .int .i64 c.i.h1, .int .i64 c.i.h2, .int .i64 c.i.h3, .int .i64 c.i.h4, .int .i64 c.i.h5, .int .i64 c.h.no, .int .i64 c.h.cur, .int .i64 c.h.price, .int .i64 c.h.cut] _ (fun j v h => BL.cell hSw (HMS.out j v h)) Try.underlying64 rfl HSZa.out
          try simp only [Act.put, List.setIfInBounds_toArray, List.set_cons_zero, List.set_cons_succ]
          refine wpAnyU_ready (rs := [5, 9]) (by kernel_rfl) (by simp) ?_
          refine AllReadyU.cons (o := { dst := some 38, op := Op.call { callee := Callee.value (Operand.func 41), args := #[Operand.tmp 33, Operand.tmp 37], argTypes := #[26, 64] }, type := 56, pos := "more.go:16", after := #[{ on := 0, ground := Ground.data }, { on := 4, ground := Ground.data }], guard := none }) rfl (fun wA5 hA5 K hK => ?_) (AllReadyU.cons (o := { dst := some 9, op := Op.alloc 26, type := 0, pos := "more.go:16", after := #[], guard := none }) rfl (fun wA9 hA9 K hK => ?_) AllReadyU.nil)
          · go_simp
            refine (do_any wA5 _ _ _ R c (HRW.out.mono hA5) HFEW.out).mono ?_
            rw [← HX.out]
            rintro e wn5 ⟨aM2, nM2, cM2, aI2, nI2, cI2, aA2, nA2, cA2, rfl, ho, hbn⟩
            refine hK.out _ _ (fun x => (BL wr) x ∧ OwnRoll x wr.heap.size (.slice aM2 nM2 cM2) (.slice aI2 nI2 cI2) (.slice aA2 nA2 cA2) X.2) (Cls.and (BL.cls wr) (fun _ _ h hb => OwnRoll.below h hb)) ⟨Below.next hA5 hbn, ho.base (Below.size hA5)⟩ ?_
            clear hK K
            try simp only [Act.put, List.setIfInBounds_toArray, List.set_cons_zero, List.set_cons_succ]
            refine wpAnyU_take (i := 6) (oi := { dst := some 32, op := Op.move (Operand.tmp 38), type := 56, pos := "more.go:16", after := #[{ on := 5, ground := Ground.data }], guard := none }) (v := (.tuple #[.agg #[.slice aM2 nM2 cM2, .slice aI2 nI2 cI2, .slice aA2 nA2 cA2], .int .i64 X.1])) rfl (by kernel_rfl) (by kernel_rfl) (by kernel_rfl) (by kernel_rfl) (by kernel_rfl) (fun _ _ _ h => h) (Cls.and (BL.cls wr) (fun _ _ h hb => OwnRoll.below h hb)) ?_ ?_
            · refine Or.inl ⟨rfl, fun w hSw => ?_⟩
              exact EffR.same (by go_simp)
            try simp only [Act.put, List.setIfInBounds_toArray, List.set_cons_zero, List.set_cons_succ]
            refine wpAnyU_take (i := 7) (oi := { dst := some 39, op := Op.extract (Operand.tmp 32) 0, type := 26, pos := "more.go:16", after := #[{ on := 6, ground := Ground.data }], guard := none }) (v := (.agg #[.slice aM2 nM2 cM2, .slice aI2 nI2 cI2, .slice aA2 nA2 cA2])) rfl (by kernel_rfl) (by kernel_rfl) (by kernel_rfl) (by kernel_rfl) (by kernel_rfl) (fun _ _ _ h => h) (Cls.and (BL.cls wr) (fun _ _ h hb => OwnRoll.below h hb)) ?_ ?_
            · refine Or.inl ⟨rfl, fun w hSw => ?_⟩
              exact EffR.same (by go_simp)
            try simp only [Act.put, List.setIfInBounds_toArray, List.set_cons_zero, List.set_cons_succ]
            refine wpAnyU_take (i := 8) (oi := { dst := some 40, op := Op.extract (Operand.tmp 32) 1, type := 30, pos := "more.go:16", after := #[{ on := 6, ground := Ground.data }, { on := 10, ground := Ground.gcOnly Departure.lateStores }], guard := none }) (v := (.int .i64 X.1)) rfl (by kernel_rfl) (by kernel_rfl) (by kernel_rfl) (by kernel_rfl) (by kernel_rfl) (fun _ _ _ h => h) (Cls.and (BL.cls wr) (fun _ _ h hb => OwnRoll.below h hb)) ?_ ?_
            · refine Or.inl ⟨rfl, fun w hSw => ?_⟩
              exact EffR.same (by go_simp)
            try simp only [Act.put, List.setIfInBounds_toArray, List.set_cons_zero, List.set_cons_succ]
            refine wpAnyU_ready (rs := [9]) (by kernel_rfl) (by simp) ?_
            refine AllReadyU.cons (o := { dst := some 9, op := Op.alloc 26, type := 0, pos := "more.go:16", after := #[], guard := none }) rfl (fun wA9 hA9 K hK => ?_) AllReadyU.nil
            go_simp
            obtain ⟨gx, hgx⟩ : ∃ gx, gx = wA9.heap.size := ⟨_, rfl⟩
            have HGX : Hid (wr.heap.size ≤ gx) := by show _ ≤ _; have := Below.size hA9.1; omega
            have HAP : Hid (∀ q, ((Value.slice aM2 nM2 cM2).ownBlock = some q ∨ (Value.slice aI2 nI2 cI2).ownBlock = some q ∨ (Value.slice aA2 nA2 cA2).ownBlock = some q) → q ≠ gx) := fun q hq => by
              rcases hq with hq | hq | hq
              · have := OwnR.lt hA9.2.1 q hq; omega
              · have := OwnR.lt hA9.2.2.1 q hq; omega
              · have := OwnR.lt hA9.2.2.2 q hq; omega
            have hbx : Below wA9.heap.size wA9 (wA9.alloc (.cells #[.slice none 0 0, .slice none 0 0, .slice none 0 0] 26)) := (Below.refl _ _).alloc (Nat.le_refl _) _
            have hnew : HT (wA9.alloc (.cells #[.slice none 0 0, .slice none 0 0, .slice none 0 0] 26)) gx 26 [.slice none 0 0, .slice none 0 0, .slice none 0 0] := by rw [hgx]; exact HT.new (w := wA9)
            rw [← hgx]
            clear hgx
            refine hK.out _ _ (fun x => (fun x => (BL wr) x ∧ OwnRoll x wr.heap.size (.slice aM2 nM2 cM2) (.slice aI2 nI2 cI2) (.slice aA2 nA2 cA2) X.2) x ∧ HT x gx 26 [.slice none 0 0, .slice none 0 0, .slice none 0 0]) (Cls.and (Cls.and (BL.cls wr) (fun _ _ h hb => OwnRoll.below h hb)) (fun _ _ h hb => HT.below h hb)) ⟨⟨Below.next hA9.1 hbx, OwnRoll.below hA9.2 hbx⟩, hnew⟩ ?_
            clear hK K
            try simp only
            refine wpAnyU_ready (rs := [10]) (by kernel_rfl) (by simp) ?_
            refine AllReadyU.cons (o := { dst := none, op := Op.store 26 (Operand.tmp 9) (Operand.tmp 39), type := 0, pos := "more.go:16", after := #[{ on := 9, ground := Ground.data }, { on := 7, ground := Ground.data }, { on := 5, ground := Ground.chain }, { on := 0, ground := Ground.phase }, { on := 1, ground := Ground.phase }, { on := 2, ground := Ground.phase }, { on := 3, ground := Ground.phase }, { on := 4, ground := Ground.phase }, { on := 5, ground := Ground.phase }, { on := 6, ground := Ground.phase }, { on := 7, ground := Ground.phase }, { on := 8, ground := Ground.textOnly Departure.lateStores }, { on := 9, ground := Ground.phase }], guard := none }) rfl (fun wA10 hA10 K hK => ?_) AllReadyU.nil
            have hg1 := hA10.2
            refine step_store_mid rfl 26 (.tmp 9) (.tmp 39) rfl gx 0 [.slice aM2 nM2 cM2, .slice aI2 nI2 cI2, .slice aA2 nA2 cA2] rfl rfl (fun j hj => ⟨hg1.isSome (by simpa using hj), hg1.frozen _⟩) (by rw [rol_sz]; rfl) (by simp [Value.oneCell']) ?_
            have hput := hg1.puts (o := 0) (vs := [.slice aM2 nM2 cM2, .slice aI2 nI2 cI2, .slice aA2 nA2 cA2]) (by simp)
            rw [splice_all (by simp)] at hput
            have hk9 := setCells_kept gx [.slice aM2 nM2 cM2, .slice aI2 nI2 cI2, .slice aA2 nA2 cA2] 0 wA10
            have hbl : BL wr (wA10.setCells gx 0 [.slice aM2 nM2 cM2, .slice aI2 nI2 cI2, .slice aA2 nA2 cA2]) := Below.puts hA10.1.1 HGX.out _ _
            have hown : OwnRoll (wA10.setCells gx 0 [.slice aM2 nM2 cM2, .slice aI2 nI2 cI2, .slice aA2 nA2 cA2]) wr.heap.size (.slice aM2 nM2 cM2) (.slice aI2 nI2 cI2) (.slice aA2 nA2 cA2) X.2 := OwnRoll.keptQ hA10.1.2 hk9 (fun q hq (e : q = gx) => HAP.out q hq e)
            refine hK.out _ _ (fun x => (BL wr x ∧ OwnRoll x wr.heap.size (.slice aM2 nM2 cM2) (.slice aI2 nI2 cI2) (.slice aA2 nA2 cA2) X.2) ∧ HT x gx 26 [.slice aM2 nM2 cM2, .slice aI2 nI2 cI2, .slice aA2 nA2 cA2]) (Cls.and (Cls.and (BL.cls wr) (fun _ _ h hb => OwnRoll.below h hb)) (fun _ _ h hb => HT.below h hb)) ⟨⟨hbl, hown⟩, hput⟩ ?_
            clear hput hk9 hbl hown hg1
            clear hK K
            try simp only [Act.put]
            refine wpAnyU_take (i := 11) (oi := { dst := some 10, op := Op.assign (Operand.tmp 40), type := 30, pos := "more.go:16", after := #[{ on := 8, ground := Ground.data }, { on := 10, ground := Ground.chain }, { on := 0, ground := Ground.phase }, { on := 1, ground := Ground.phase }, { on := 2, ground := Ground.phase }, { on := 3, ground := Ground.phase }, { on := 4, ground := Ground.phase }, { on := 5, ground := Ground.phase }, { on := 6, ground := Ground.phase }, { on := 7, ground := Ground.phase }, { on := 8, ground := Ground.phase }, { on := 9, ground := Ground.phase }, { on := 10, ground := Ground.phase }], guard := none }) (v := (.int .i64 X.1)) rfl (by kernel_rfl) (by kernel_rfl) (by kernel_rfl) (by kernel_rfl) (by kernel_rfl) (fun _ _ _ h => h) (Cls.and (Cls.and (BL.cls wr) (fun _ _ h hb => OwnRoll.below h hb)) (fun _ _ h hb => HT.below h hb)) ?_ ?_
            · refine Or.inl ⟨rfl, fun w hSw => ?_⟩
              exact EffR.same (by go_simp)
            try simp only [Act.put, List.setIfInBounds_toArray, List.set_cons_zero, List.set_cons_succ]
            refine wpAnyU_done (by kernel_rfl) (fun w1 hb1 => ?_) _
            have HB9 : Hid (Below wr.heap.size wr w1) := hb1.1.1
            have HOT := Lib.hid hb1.1.2
            have HTB := Lib.hid hb1.2
            clear hb1
            by_cases h0 : X.1 = 0
            · obtain ⟨_, hst⟩ := HAN.out.resolve_right (fun h => h.1 h0)
              have HGD2 := Lib.hid hst.ok
              clear hst
              have HSZs : Hid ((Try.prog.info? 26).map (·.size) = some (#[.slice aM2 nM2 cM2, .slice aI2 nI2 cI2, .slice aA2 nA2 cA2] : Array Value).size) := by show _ = _; rw [rol_sz]; rfl
              have HONs : Hid ((#[.slice aM2 nM2 cM2, .slice aI2 nI2 cI2, .slice aA2 nA2 cA2] : Array Value).all (·.oneCell') = true) := by show _ = true; simp [Value.oneCell']
              have HTBx : Hid (w1.heap[gx]? = some (.cells #[.slice aM2 nM2 cM2, .slice aI2 nI2 cI2, .slice aA2 nA2 cA2] 26 (0, 0))) := HTB.out
              have HRBx : Hid (w1.heap[gr]? = some (.cells #[.slice aM nM cM, .slice aI nI cI, .slice aA nA cA] 26 (0, 0))) := HRB.out.below HB9.out
              have hz : (X.1 == 0) = true := by simpa using h0
              clear h0
              go_wp2_with (first
                | (refine wpList_load_row rfl 26 (.tmp 9) rfl gx rfl 26 #[.slice aM2 nM2 cM2, .slice aI2 nI2 cI2, .slice aA2 nA2 cA2] (0, 0) _ HTBx.out Try.underlying26 rfl HSZs.out ?_)
                | (refine wpList_store_row rfl 26 (.tmp 7) (.tmp 43) rfl gr #[.slice aM2 nM2 cM2, .slice aI2 nI2 cI2, .slice aA2 nA2 cA2] rfl rfl 26 #[.slice aM nM cM, .slice aI nI cI, .slice aA nA cA] HRBx.out HSZs.out rfl HONs.out ?_)
                | fail)
              have hro := HOT.out.keptQ (setRow_kept w1 gr #[.slice aM2 nM2 cM2, .slice aI2 nI2 cI2, .slice aA2 nA2 cA2]) (fun q hq (e : q = gr) => by have h1 := HRB.out.lt; rcases hq with hq | hq | hq; (have := OwnR.ge HOT.out.1 q hq; omega); (have := OwnR.ge HOT.out.2.1 q hq; omega); (have := OwnR.ge HOT.out.2.2 q hq; omega))
              exact ⟨⟨k + 1, X.2, aM2, nM2, cM2, aI2, nI2, cI2, aA2, nA2, cA2, by omega, by push_cast; rfl, HT.row HRBx.out rfl, hro.in, HGD2.out, (bgoS HBL.out HB9.out).trans (setRow_below HGR.out _)⟩, by simp [intOf]; omega⟩
            · have hz : (X.1 == 0) = false := by simpa using h0
              clear h0
              go_wp2_with fail
              exact ⟨⟨k + 1, R, aM, nM, cM, aI, nI, cI, aA, nA, cA, by omega, by push_cast; rfl, HRB.out.below HB9.out, HRW.out.mono HB9.out, HGD.out, bgoS HBL.out HB9.out⟩, by simp [intOf]; omega⟩
          · go_simp
            obtain ⟨gx, hgx⟩ : ∃ gx, gx = wA9.heap.size := ⟨_, rfl⟩
            have HGX : Hid (wr.heap.size ≤ gx) := by show _ ≤ _; have := Below.size hA9; omega
            have hbx : Below wA9.heap.size wA9 (wA9.alloc (.cells #[.slice none 0 0, .slice none 0 0, .slice none 0 0] 26)) := (Below.refl _ _).alloc (Nat.le_refl _) _
            have hnew : HT (wA9.alloc (.cells #[.slice none 0 0, .slice none 0 0, .slice none 0 0] 26)) gx 26 [.slice none 0 0, .slice none 0 0, .slice none 0 0] := by rw [hgx]; exact HT.new (w := wA9)
            rw [← hgx]
            clear hgx
            refine hK.out _ _ (fun x => (BL wr) x ∧ HT x gx 26 [.slice none 0 0, .slice none 0 0, .slice none 0 0]) (Cls.and (BL.cls wr) (fun _ _ h hb => HT.below h hb)) ⟨Below.next hA9 hbx, hnew⟩ ?_
            clear hK K
            try simp only [Act.put, List.setIfInBounds_toArray, List.set_cons_zero, List.set_cons_succ]
            refine wpAnyU_ready (rs := [5]) (by kernel_rfl) (by simp) ?_
            refine AllReadyU.cons (o := { dst := some 38, op := Op.call { callee := Callee.value (Operand.func 41), args := #[Operand.tmp 33, Operand.tmp 37], argTypes := #[26, 64] }, type := 56, pos := "more.go:16", after := #[{ on := 0, ground := Ground.data }, { on := 4, ground := Ground.data }], guard := none }) rfl (fun wA5 hA5 K hK => ?_) AllReadyU.nil
            go_simp
            refine (do_any wA5 _ _ _ R c (HRW.out.mono hA5.1) HFEW.out).mono ?_
            rw [← HX.out]
            rintro e wn5 ⟨aM2, nM2, cM2, aI2, nI2, cI2, aA2, nA2, cA2, rfl, ho, hbn⟩
            have HAP : Hid (∀ q, ((Value.slice aM2 nM2 cM2).ownBlock = some q ∨ (Value.slice aI2 nI2 cI2).ownBlock = some q ∨ (Value.slice aA2 nA2 cA2).ownBlock = some q) → q ≠ gx) := fun q hq => by
              have h1 := HT.lt hA5.2
              rcases hq with hq | hq | hq
              · have := OwnR.ge ho.1 q hq; omega
              · have := OwnR.ge ho.2.1 q hq; omega
              · have := OwnR.ge ho.2.2 q hq; omega
            refine hK.out _ _ (fun x => (fun x => (BL wr) x ∧ HT x gx 26 [.slice none 0 0, .slice none 0 0, .slice none 0 0]) x ∧ OwnRoll x wr.heap.size (.slice aM2 nM2 cM2) (.slice aI2 nI2 cI2) (.slice aA2 nA2 cA2) X.2) (Cls.and (Cls.and (BL.cls wr) (fun _ _ h hb => HT.below h hb)) (fun _ _ h hb => OwnRoll.below h hb)) ⟨⟨Below.next hA5.1 hbn, HT.below hA5.2 hbn⟩, ho.base (Below.size hA5.1)⟩ ?_
            clear hK K
            try simp only
            refine wpAnyU_take (i := 6) (oi := { dst := some 32, op := Op.move (Operand.tmp 38), type := 56, pos := "more.go:16", after := #[{ on := 5, ground := Ground.data }], guard := none }) (v := (.tuple #[.agg #[.slice aM2 nM2 cM2, .slice aI2 nI2 cI2, .slice aA2 nA2 cA2], .int .i64 X.1])) rfl (by kernel_rfl) (by kernel_rfl) (by kernel_rfl) (by kernel_rfl) (by kernel_rfl) (fun _ _ _ h => h) (Cls.and (Cls.and (BL.cls wr) (fun _ _ h hb => HT.below h hb)) (fun _ _ h hb => OwnRoll.below h hb)) ?_ ?_
            · refine Or.inl ⟨rfl, fun w hSw => ?_⟩
              exact EffR.same (by go_simp)
            try simp only [Act.put, List.setIfInBounds_toArray, List.set_cons_zero, List.set_cons_succ]
            refine wpAnyU_take (i := 7) (oi := { dst := some 39, op := Op.extract (Operand.tmp 32) 0, type := 26, pos := "more.go:16", after := #[{ on := 6, ground := Ground.data }], guard := none }) (v := (.agg #[.slice aM2 nM2 cM2, .slice aI2 nI2 cI2, .slice aA2 nA2 cA2])) rfl (by kernel_rfl) (by kernel_rfl) (by kernel_rfl) (by kernel_rfl) (by kernel_rfl) (fun _ _ _ h => h) (Cls.and (Cls.and (BL.cls wr) (fun _ _ h hb => HT.below h hb)) (fun _ _ h hb => OwnRoll.below h hb)) ?_ ?_
            · refine Or.inl ⟨rfl, fun w hSw => ?_⟩
              exact EffR.same (by go_simp)
            try simp only [Act.put, List.setIfInBounds_toArray, List.set_cons_zero, List.set_cons_succ]
            refine wpAnyU_take (i := 8) (oi := { dst := some 40, op := Op.extract (Operand.tmp 32) 1, type := 30, pos := "more.go:16", after := #[{ on := 6, ground := Ground.data }, { on := 10, ground := Ground.gcOnly Departure.lateStores }], guard := none }) (v := (.int .i64 X.1)) rfl (by kernel_rfl) (by kernel_rfl) (by kernel_rfl) (by kernel_rfl) (by kernel_rfl) (fun _ _ _ h => h) (Cls.and (Cls.and (BL.cls wr) (fun _ _ h hb => HT.below h hb)) (fun _ _ h hb => OwnRoll.below h hb)) ?_ ?_
            · refine Or.inl ⟨rfl, fun w hSw => ?_⟩
              exact EffR.same (by go_simp)
            try simp only [Act.put, List.setIfInBounds_toArray, List.set_cons_zero, List.set_cons_succ]
            refine wpAnyU_ready (rs := [10]) (by kernel_rfl) (by simp) ?_
            refine AllReadyU.cons (o := { dst := none, op := Op.store 26 (Operand.tmp 9) (Operand.tmp 39), type := 0, pos := "more.go:16", after := #[{ on := 9, ground := Ground.data }, { on := 7, ground := Ground.data }, { on := 5, ground := Ground.chain }, { on := 0, ground := Ground.phase }, { on := 1, ground := Ground.phase }, { on := 2, ground := Ground.phase }, { on := 3, ground := Ground.phase }, { on := 4, ground := Ground.phase }, { on := 5, ground := Ground.phase }, { on := 6, ground := Ground.phase }, { on := 7, ground := Ground.phase }, { on := 8, ground := Ground.textOnly Departure.lateStores }, { on := 9, ground := Ground.phase }], guard := none }) rfl (fun wA10 hA10 K hK => ?_) AllReadyU.nil
            have hg1 := hA10.1.2
            refine step_store_mid rfl 26 (.tmp 9) (.tmp 39) rfl gx 0 [.slice aM2 nM2 cM2, .slice aI2 nI2 cI2, .slice aA2 nA2 cA2] rfl rfl (fun j hj => ⟨hg1.isSome (by simpa using hj), hg1.frozen _⟩) (by rw [rol_sz]; rfl) (by simp [Value.oneCell']) ?_
            have hput := hg1.puts (o := 0) (vs := [.slice aM2 nM2 cM2, .slice aI2 nI2 cI2, .slice aA2 nA2 cA2]) (by simp)
            rw [splice_all (by simp)] at hput
            have hk9 := setCells_kept gx [.slice aM2 nM2 cM2, .slice aI2 nI2 cI2, .slice aA2 nA2 cA2] 0 wA10
            have hbl : BL wr (wA10.setCells gx 0 [.slice aM2 nM2 cM2, .slice aI2 nI2 cI2, .slice aA2 nA2 cA2]) := Below.puts hA10.1.1 HGX.out _ _
            have hown : OwnRoll (wA10.setCells gx 0 [.slice aM2 nM2 cM2, .slice aI2 nI2 cI2, .slice aA2 nA2 cA2]) wr.heap.size (.slice aM2 nM2 cM2) (.slice aI2 nI2 cI2) (.slice aA2 nA2 cA2) X.2 := OwnRoll.keptQ hA10.2 hk9 (fun q hq (e : q = gx) => HAP.out q hq e)
            refine hK.out _ _ (fun x => (BL wr x ∧ OwnRoll x wr.heap.size (.slice aM2 nM2 cM2) (.slice aI2 nI2 cI2) (.slice aA2 nA2 cA2) X.2) ∧ HT x gx 26 [.slice aM2 nM2 cM2, .slice aI2 nI2 cI2, .slice aA2 nA2 cA2]) (Cls.and (Cls.and (BL.cls wr) (fun _ _ h hb => OwnRoll.below h hb)) (fun _ _ h hb => HT.below h hb)) ⟨⟨hbl, hown⟩, hput⟩ ?_
            clear hput hk9 hbl hown hg1
            clear hK K
            try simp only [Act.put]
            refine wpAnyU_take (i := 11) (oi := { dst := some 10, op := Op.assign (Operand.tmp 40), type := 30, pos := "more.go:16", after := #[{ on := 8, ground := Ground.data }, { on := 10, ground := Ground.chain }, { on := 0, ground := Ground.phase }, { on := 1, ground := Ground.phase }, { on := 2, ground := Ground.phase }, { on := 3, ground := Ground.phase }, { on := 4, ground := Ground.phase }, { on := 5, ground := Ground.phase }, { on := 6, ground := Ground.phase }, { on := 7, ground := Ground.phase }, { on := 8, ground := Ground.phase }, { on := 9, ground := Ground.phase }, { on := 10, ground := Ground.phase }], guard := none }) (v := (.int .i64 X.1)) rfl (by kernel_rfl) (by kernel_rfl) (by kernel_rfl) (by kernel_rfl) (by kernel_rfl) (fun _ _ _ h => h) (Cls.and (Cls.and (BL.cls wr) (fun _ _ h hb => OwnRoll.below h hb)) (fun _ _ h hb => HT.below h hb)) ?_ ?_
            · refine Or.inl ⟨rfl, fun w hSw => ?_⟩
              exact EffR.same (by go_simp)
            try simp only [Act.put, List.setIfInBounds_toArray, List.set_cons_zero, List.set_cons_succ]
            refine wpAnyU_done (by kernel_rfl) (fun w1 hb1 => ?_) _
            have HB9 : Hid (Below wr.heap.size wr w1) := hb1.1.1
            have HOT := Lib.hid hb1.1.2
            have HTB := Lib.hid hb1.2
            clear hb1
            by_cases h0 : X.1 = 0
            · obtain ⟨_, hst⟩ := HAN.out.resolve_right (fun h => h.1 h0)
              have HGD2 := Lib.hid hst.ok
              clear hst
              have HSZs : Hid ((Try.prog.info? 26).map (·.size) = some (#[.slice aM2 nM2 cM2, .slice aI2 nI2 cI2, .slice aA2 nA2 cA2] : Array Value).size) := by show _ = _; rw [rol_sz]; rfl
              have HONs : Hid ((#[.slice aM2 nM2 cM2, .slice aI2 nI2 cI2, .slice aA2 nA2 cA2] : Array Value).all (·.oneCell') = true) := by show _ = true; simp [Value.oneCell']
              have HTBx : Hid (w1.heap[gx]? = some (.cells #[.slice aM2 nM2 cM2, .slice aI2 nI2 cI2, .slice aA2 nA2 cA2] 26 (0, 0))) := HTB.out
              have HRBx : Hid (w1.heap[gr]? = some (.cells #[.slice aM nM cM, .slice aI nI cI, .slice aA nA cA] 26 (0, 0))) := HRB.out.below HB9.out
              have hz : (X.1 == 0) = true := by simpa using h0
              clear h0
              go_wp2_with (first
                | (refine wpList_load_row rfl 26 (.tmp 9) rfl gx rfl 26 #[.slice aM2 nM2 cM2, .slice aI2 nI2 cI2, .slice aA2 nA2 cA2] (0, 0) _ HTBx.out Try.underlying26 rfl HSZs.out ?_)
                | (refine wpList_store_row rfl 26 (.tmp 7) (.tmp 43) rfl gr #[.slice aM2 nM2 cM2, .slice aI2 nI2 cI2, .slice aA2 nA2 cA2] rfl rfl 26 #[.slice aM nM cM, .slice aI nI cI, .slice aA nA cA] HRBx.out HSZs.out rfl HONs.out ?_)
                | fail)
              have hro := HOT.out.keptQ (setRow_kept w1 gr #[.slice aM2 nM2 cM2, .slice aI2 nI2 cI2, .slice aA2 nA2 cA2]) (fun q hq (e : q = gr) => by have h1 := HRB.out.lt; rcases hq with hq | hq | hq; (have := OwnR.ge HOT.out.1 q hq; omega); (have := OwnR.ge HOT.out.2.1 q hq; omega); (have := OwnR.ge HOT.out.2.2 q hq; omega))
              exact ⟨⟨k + 1, X.2, aM2, nM2, cM2, aI2, nI2, cI2, aA2, nA2, cA2, by omega, by push_cast; rfl, HT.row HRBx.out rfl, hro.in, HGD2.out, (bgoS HBL.out HB9.out).trans (setRow_below HGR.out _)⟩, by simp [intOf]; omega⟩
            · have hz : (X.1 == 0) = false := by simpa using h0
              clear h0
              go_wp2_with fail
              exact ⟨⟨k + 1, R, aM, nM, cM, aI, nI, cI, aA, nA, cA, by omega, by push_cast; rfl, HRB.out.below HB9.out, HRW.out.mono HB9.out, HGD.out, bgoS HBL.out HB9.out⟩, by simp [intOf]; omega⟩
        · have hor : (k < n ∧ ¬ k < 100) ∨ ¬ k < n := by omega
          clear hlt
          rcases hor with ⟨h1, h2⟩ | h1
          all_goals
            go_wp2_with fail
            go_meet
            exact ⟨R, aM, nM, cM, aI, nI, cI, aA, nA, cA, HRB.out, HRW.out, HGD.out, HBL.out⟩
    case rest =>
      obtain ⟨R, aM, nM, cM, aI, nI, cI, aA, nA, cA, hrb, hri, HGD, hbel⟩ := hcut
      have HRB := Lib.hid hrb
      have HRW := Lib.hid hri
      have HBL := Lib.hid hbel
      clear hrb hri hbel hm
      by_cases hbt : hasB MbT.no who R.M = true
      · by_cases hp1 : 1 ≤ st
        · by_cases hp2 : st ≤ 3
          · have HWB : Hid (wB st 1 3 = true) := by show _ = _; unfold wB; exact decide_eq_true ⟨hp1, hp2⟩
            have HB := HBL
            clear HBL
            have HRW0 := HRW
            have HBR : Hid (Below wc.heap.size wc wc) := Below.refl _ _
            obtain ⟨X, hX⟩ : ∃ X, X = stateR R who st := ⟨_, rfl⟩
            have tl := Put_any wc _ _ _ R who st HRW.out (chkR_few HGD.out)
            rw [← hX] at tl
            obtain ⟨xo, hxo⟩ : ∃ x, x = fdX MbT.no mZ who R.M := ⟨_, rfl⟩
            have hx1 : X = (0, { R with M := putL MbT.no { fdX MbT.no mZ who R.M with state := st } R.M }) := by rw [hX]; unfold stateR; rw [if_neg (by rw [HGD.out]; decide), if_neg (by rw [hbt]; decide), if_neg (by rw [HWB.out]; decide)]
            obtain ⟨q, hq, hqn, hset, hfd⟩ := state_put HGD.out hbt HWB.out
            have HGD2 : Hid (chkR X.2 = true) := by have h9 := stateR_ans HGD.out who st; rw [← hX, hx1] at h9; rw [hx1]; exact (h9.resolve_right (fun h => h.1 rfl)).2.ok
            obtain ⟨xn, hxn⟩ : ∃ x : MbT, x = { xo with state := st } := ⟨_, rfl⟩
            rw [← hxo, ← hxn] at hset hfd hx1
            rw [hset] at hfd hx1
            obtain ⟨R2, hR2⟩ : ∃ z, z = ({ R with M := R.M.set q xn } : RollT) := ⟨_, rfl⟩
            rw [← hR2] at hx1
            have hM2 : R2.M = R.M.set q xn := by rw [hR2]
            have hI2 : R2.I = R.I := by rw [hR2]
            have hA2 : R2.A = R.A := by rw [hR2]
            rw [← hM2] at hfd
            have h2b : hasB MbT.no who R2.M = true := by rw [hM2, ← hset]; have h8 := (chkR_true.1 HGD.out).1; exact (fd_of_mem (z := mZ) (h8.put (by rw [hxn, hxo]; exact rightM_state (h8.all _ (fd_mem hbt).1) HWB.out)).srt putL_self (by rw [hxn, hxo]; exact (fd_mem hbt).2)).2
            have HSRT := Lib.hid (chkR_true.1 HGD.out).1.srt
            have HXN := Lib.hid hxn
            have HFD := Lib.hid hfd.symm
            have H2B := Lib.hid h2b.symm
            have HM2 := Lib.hid hM2
            have HI2 := Lib.hid hI2
            have HA2 := Lib.hid hA2
            have HQ := Lib.hid hq
            have HQN := Lib.hid hqn
            subst hx1
            clear hX hR2 hxn hset hfd h2b hM2 hI2 hA2 hqn
            have HXO := Lib.hid hxo
            clear hxo
            have HBB : Hid (true = hasB MbT.no who R.M) := hbt.symm
            have HSZr : Hid ((Try.prog.info? 26).map (·.size) = some (#[.slice aM nM cM, .slice aI nI cI, .slice aA nA cA] : Array Value).size) := by show _ = _; rw [rol_sz]; rfl
            have HONr : Hid ((#[.slice aM nM cM, .slice aI nI cI, .slice aA nA cA] : Array Value).all (·.oneCell') = true) := by show _ = true; simp [Value.oneCell']
            have HRBx : Hid (wc.heap[gr]? = some (.cells #[.slice aM nM cM, .slice aI nI cI, .slice aA nA cA] 26 (0, 0))) := HRB.out
            go_wp2_with (first
              | (refine wpList_load_row rfl 26 (.tmp 7) rfl gr rfl 26 #[.slice aM nM cM, .slice aI nI cI, .slice aA nA cA] (0, 0) _ HRBx.out Try.underlying26 rfl HSZr.out ?_)
              | fail)
            refine tl.mono ?_
            clear tl HRBx
            rintro e w3 ⟨aM2, nM2, cM2, aI2, nI2, cI2, aA2, nA2, cA2, rfl, ho, hb⟩
            have HOT := Lib.hid ho
            clear ho
            have HRBn := Lib.hid (HRB.out.below hb)
            clear HRB
            have HRB := HRBn
            clear HRBn
            have HRWn := Lib.hid (HRW.out.mono hb)
            clear HRW
            have HRW := HRWn
            clear HRWn
            have HBn := Lib.hid (bgo HB.out hb HB.out.size)
            clear HB
            have HB := HBn
            clear HBn
            have HBRn := Lib.hid (bgo HBR.out hb HBR.out.size)
            clear HBR
            have HBR := HBRn
            clear HBRn
            clear hb
            have HSZk1 : Hid ((Try.prog.info? 26).map (·.size) = some (#[.slice aM2 nM2 cM2, .slice aI2 nI2 cI2, .slice aA2 nA2 cA2] : Array Value).size) := by show _ = _; rw [rol_sz]; rfl
            have HONk1 : Hid ((#[.slice aM2 nM2 cM2, .slice aI2 nI2 cI2, .slice aA2 nA2 cA2] : Array Value).all (·.oneCell') = true) := by show _ = true; simp [Value.oneCell']
            go_upto_region 11 with (first
              | (refine wpList_store_row rfl 26 (.tmp 11) (.tmp 49) rfl w3.heap.size #[.slice aM2 nM2 cM2, .slice aI2 nI2 cI2, .slice aA2 nA2 cA2] rfl rfl 26 #[.slice none 0 0, .slice none 0 0, .slice none 0 0] (heap_alloc_new _ _) HSZk1.out rfl HONk1.out ?_)
              | fail)
            have hbsk1 : Below w3.heap.size w3 ((w3.alloc (.cells #[.slice none 0 0, .slice none 0 0, .slice none 0 0] 26)).setRow w3.heap.size #[.slice aM2 nM2 cM2, .slice aI2 nI2 cI2, .slice aA2 nA2 cA2]) := ((Below.refl _ _).alloc (Nat.le_refl _) _).trans (setRow_below (Nat.le_refl _) _)
            have hxk1 : HT ((w3.alloc (.cells #[.slice none 0 0, .slice none 0 0, .slice none 0 0] 26)).setRow w3.heap.size #[.slice aM2 nM2 cM2, .slice aI2 nI2 cI2, .slice aA2 nA2 cA2]) w3.heap.size 26 [.slice aM2 nM2 cM2, .slice aI2 nI2 cI2, .slice aA2 nA2 cA2] := setRow_heap _ _ _ _ _ _ (heap_alloc_new _ _)
            have hbwk1 := bgo HB.out hbsk1 (Below.size HB.out)
            obtain ⟨Wk1, hWk1⟩ : ∃ zz, zz = ((w3.alloc (.cells #[.slice none 0 0, .slice none 0 0, .slice none 0 0] 26)).setRow w3.heap.size #[.slice aM2 nM2 cM2, .slice aI2 nI2 cI2, .slice aA2 nA2 cA2]) := ⟨_, rfl⟩
            rw [← hWk1] at hbsk1 hxk1 hbwk1 ⊢
            obtain ⟨gxk1, hgk1⟩ : ∃ zz, zz = w3.heap.size := ⟨_, rfl⟩
            rw [← hgk1] at hxk1 ⊢
            have HGEk1 : Hid (∀ m, m ≤ w3.heap.size → m ≤ gxk1) := fun m h => by omega
            have HXk1 := Lib.hid hxk1
            have HBWk1 := Lib.hid hbwk1
            have HBSk1 := Lib.hid hbsk1
            clear hWk1 hxk1 hbwk1 hbsk1 hgk1 HONk1
            obtain ⟨gt, hgq⟩ : ∃ g, g = gxk1 := ⟨_, rfl⟩
            rw [← hgq] at HXk1 HGEk1 ⊢
            have HGgt : Hid (W.heap.size ≤ gt) := HGEk1.out _ HB.out.size
            clear hgq HBWk1 HGEk1
            have HRBn := Lib.hid (HRB.out.below HBSk1.out)
            clear HRB
            have HRB := HRBn
            clear HRBn
            have HRWn := Lib.hid (HRW.out.mono HBSk1.out)
            clear HRW
            have HRW := HRWn
            clear HRWn
            have HOTn := Lib.hid (HOT.out.below HBSk1.out)
            clear HOT
            have HOT := HOTn
            clear HOTn
            have HBn := Lib.hid (bgo HB.out HBSk1.out HB.out.size)
            clear HB
            have HB := HBn
            clear HBn
            have HBRn := Lib.hid (bgo HBR.out HBSk1.out HBR.out.size)
            clear HBR
            have HBR := HBRn
            clear HBRn
            clear HBSk1
            have HTB := HXk1
            clear HXk1 HSZk1
            have HRBx : Hid (Wk1.heap[gr]? = some (.cells #[.slice aM nM cM, .slice aI nI cI, .slice aA nA cA] 26 (0, 0))) := HRB.out
            go_wp2_with (first
              | (refine wpList_load_row rfl 26 (.tmp 7) rfl gr rfl 26 #[.slice aM nM cM, .slice aI nI cI, .slice aA nA cA] (0, 0) _ HRBx.out Try.underlying26 rfl HSZr.out ?_)
              | fail)
            refine (Member_any _ _ _ _ R.M who xo true HRW.out.1 HXO.out HBB.out).mono ?_
            clear HRBx
            rintro e w4 ⟨rfl, hb⟩
            have HRBn := Lib.hid (HRB.out.below hb)
            clear HRB
            have HRB := HRBn
            clear HRBn
            have HRWn := Lib.hid (HRW.out.mono hb)
            clear HRW
            have HRW := HRWn
            clear HRWn
            have HOTn := Lib.hid (HOT.out.below hb)
            clear HOT
            have HOT := HOTn
            clear HOTn
            have HTBn := Lib.hid (HTB.out.below hb)
            clear HTB
            have HTB := HTBn
            clear HTBn
            have HBn := Lib.hid (bgo HB.out hb HB.out.size)
            clear HB
            have HB := HBn
            clear HBn
            have HBRn := Lib.hid (bgo HBR.out hb HBR.out.size)
            clear HBR
            have HBR := HBRn
            clear HBRn
            clear hb
            have HSZk2 : Hid ((Try.prog.info? 33).map (·.size) = some (#[.int .i64 xo.no, .int .i64 xo.state, .int .i64 xo.need] : Array Value).size) := by show _ = _; rw [mem_sz]; rfl
            have HONk2 : Hid ((#[.int .i64 xo.no, .int .i64 xo.state, .int .i64 xo.need] : Array Value).all (·.oneCell') = true) := by show _ = true; simp [Value.oneCell']
            go_upto_region 12 with (first
              | (refine wpList_store_row rfl 33 (.tmp 13) (.tmp 55) rfl w4.heap.size #[.int .i64 xo.no, .int .i64 xo.state, .int .i64 xo.need] rfl rfl 33 #[.int .i64 0, .int .i64 0, .int .i64 0] (heap_alloc_new _ _) HSZk2.out rfl HONk2.out ?_)
              | fail)
            have hbsk2 : Below w4.heap.size w4 ((w4.alloc (.cells #[.int .i64 0, .int .i64 0, .int .i64 0] 33)).setRow w4.heap.size #[.int .i64 xo.no, .int .i64 xo.state, .int .i64 xo.need]) := ((Below.refl _ _).alloc (Nat.le_refl _) _).trans (setRow_below (Nat.le_refl _) _)
            have hxk2 : HT ((w4.alloc (.cells #[.int .i64 0, .int .i64 0, .int .i64 0] 33)).setRow w4.heap.size #[.int .i64 xo.no, .int .i64 xo.state, .int .i64 xo.need]) w4.heap.size 33 [.int .i64 xo.no, .int .i64 xo.state, .int .i64 xo.need] := setRow_heap _ _ _ _ _ _ (heap_alloc_new _ _)
            have hbwk2 := bgo HB.out hbsk2 (Below.size HB.out)
            obtain ⟨Wk2, hWk2⟩ : ∃ zz, zz = ((w4.alloc (.cells #[.int .i64 0, .int .i64 0, .int .i64 0] 33)).setRow w4.heap.size #[.int .i64 xo.no, .int .i64 xo.state, .int .i64 xo.need]) := ⟨_, rfl⟩
            rw [← hWk2] at hbsk2 hxk2 hbwk2 ⊢
            obtain ⟨gxk2, hgk2⟩ : ∃ zz, zz = w4.heap.size := ⟨_, rfl⟩
            rw [← hgk2] at hxk2 ⊢
            have HGEk2 : Hid (∀ m, m ≤ w4.heap.size → m ≤ gxk2) := fun m h => by omega
            have HXk2 := Lib.hid hxk2
            have HBWk2 := Lib.hid hbwk2
            have HBSk2 := Lib.hid hbsk2
            clear hWk2 hxk2 hbwk2 hbsk2 hgk2 HONk2
            obtain ⟨gm, hgq⟩ : ∃ g, g = gxk2 := ⟨_, rfl⟩
            rw [← hgq] at HXk2 HGEk2 ⊢
            have HGgm : Hid (W.heap.size ≤ gm) := HGEk2.out _ HB.out.size
            have HLgtgm : Hid (gt < gm) := HGEk2.out (gt + 1) HTB.out.lt
            have HLgrgm : Hid (gr < gm) := HGEk2.out (gr + 1) HRB.out.lt
            have HNOT : Hid (∀ q, ((Value.slice aM2 nM2 cM2).ownBlock = some q ∨ (Value.slice aI2 nI2 cI2).ownBlock = some q ∨ (Value.slice aA2 nA2 cA2).ownBlock = some q) → q < gm) := fun q hq => HGEk2.out (q + 1) (by rcases hq with hq | hq | hq; (have := OwnR.lt HOT.out.1 q hq; omega); (have := OwnR.lt HOT.out.2.1 q hq; omega); (have := OwnR.lt HOT.out.2.2 q hq; omega))
            have HWG : Hid (wc.heap.size ≤ gm) := HGEk2.out _ HBR.out.size
            clear hgq HBWk2 HGEk2
            have HRBn := Lib.hid (HRB.out.below HBSk2.out)
            clear HRB
            have HRB := HRBn
            clear HRBn
            have HRWn := Lib.hid (HRW.out.mono HBSk2.out)
            clear HRW
            have HRW := HRWn
            clear HRWn
            have HOTn := Lib.hid (HOT.out.below HBSk2.out)
            clear HOT
            have HOT := HOTn
            clear HOTn
            have HTBn := Lib.hid (HTB.out.below HBSk2.out)
            clear HTB
            have HTB := HTBn
            clear HTBn
            have HBn := Lib.hid (bgo HB.out HBSk2.out HB.out.size)
            clear HB
            have HB := HBn
            clear HBn
            have HBRn := Lib.hid (bgo HBR.out HBSk2.out HBR.out.size)
            clear HBR
            have HBR := HBRn
            clear HBRn
            clear HBSk2
            have HMB := HXk2
            clear HXk2 HSZk2
            have HSZt : Hid ((Try.prog.info? 26).map (·.size) = some (#[.slice aM2 nM2 cM2, .slice aI2 nI2 cI2, .slice aA2 nA2 cA2] : Array Value).size) := by show _ = _; rw [rol_sz]; rfl
            have HONt : Hid ((#[.slice aM2 nM2 cM2, .slice aI2 nI2 cI2, .slice aA2 nA2 cA2] : Array Value).all (·.oneCell') = true) := by show _ = true; simp [Value.oneCell']
            have HTBx : Hid (Wk2.heap[gt]? = some (.cells #[.slice aM2 nM2 cM2, .slice aI2 nI2 cI2, .slice aA2 nA2 cA2] 26 (0, 0))) := HTB.out
            go_wp2_with (first
              | (refine wpList_load_row rfl 26 (.tmp 11) rfl gt rfl 26 #[.slice aM2 nM2 cM2, .slice aI2 nI2 cI2, .slice aA2 nA2 cA2] (0, 0) _ HTBx.out Try.underlying26 rfl HSZt.out ?_)
              | fail)
            refine (Member_any _ _ _ _ R2.M who xn true HOT.out.in.1 HFD.out H2B.out).mono ?_
            clear HTBx
            rintro e w5 ⟨rfl, hb⟩
            have HRBn := Lib.hid (HRB.out.below hb)
            clear HRB
            have HRB := HRBn
            clear HRBn
            have HRWn := Lib.hid (HRW.out.mono hb)
            clear HRW
            have HRW := HRWn
            clear HRWn
            have HOTn := Lib.hid (HOT.out.below hb)
            clear HOT
            have HOT := HOTn
            clear HOTn
            have HTBn := Lib.hid (HTB.out.below hb)
            clear HTB
            have HTB := HTBn
            clear HTBn
            have HMBn := Lib.hid (HMB.out.below hb)
            clear HMB
            have HMB := HMBn
            clear HMBn
            have HBn := Lib.hid (bgo HB.out hb HB.out.size)
            clear HB
            have HB := HBn
            clear HBn
            have HBRn := Lib.hid (bgo HBR.out hb HBR.out.size)
            clear HBR
            have HBR := HBRn
            clear HBRn
            clear hb
            have HSZk3 : Hid ((Try.prog.info? 33).map (·.size) = some (#[.int .i64 xn.no, .int .i64 xn.state, .int .i64 xn.need] : Array Value).size) := by show _ = _; rw [mem_sz]; rfl
            have HONk3 : Hid ((#[.int .i64 xn.no, .int .i64 xn.state, .int .i64 xn.need] : Array Value).all (·.oneCell') = true) := by show _ = true; simp [Value.oneCell']
            go_upto_region 15 with (first
              | (refine wpList_store_row rfl 33 (.tmp 15) (.tmp 83) rfl w5.heap.size #[.int .i64 xn.no, .int .i64 xn.state, .int .i64 xn.need] rfl rfl 33 #[.int .i64 0, .int .i64 0, .int .i64 0] (heap_alloc_new _ _) HSZk3.out rfl HONk3.out ?_)
              | fail)
            have hbsk3 : Below w5.heap.size w5 ((w5.alloc (.cells #[.int .i64 0, .int .i64 0, .int .i64 0] 33)).setRow w5.heap.size #[.int .i64 xn.no, .int .i64 xn.state, .int .i64 xn.need]) := ((Below.refl _ _).alloc (Nat.le_refl _) _).trans (setRow_below (Nat.le_refl _) _)
            have hxk3 : HT ((w5.alloc (.cells #[.int .i64 0, .int .i64 0, .int .i64 0] 33)).setRow w5.heap.size #[.int .i64 xn.no, .int .i64 xn.state, .int .i64 xn.need]) w5.heap.size 33 [.int .i64 xn.no, .int .i64 xn.state, .int .i64 xn.need] := setRow_heap _ _ _ _ _ _ (heap_alloc_new _ _)
            have hbwk3 := bgo HB.out hbsk3 (Below.size HB.out)
            obtain ⟨Wk3, hWk3⟩ : ∃ zz, zz = ((w5.alloc (.cells #[.int .i64 0, .int .i64 0, .int .i64 0] 33)).setRow w5.heap.size #[.int .i64 xn.no, .int .i64 xn.state, .int .i64 xn.need]) := ⟨_, rfl⟩
            rw [← hWk3] at hbsk3 hxk3 hbwk3 ⊢
            obtain ⟨gxk3, hgk3⟩ : ∃ zz, zz = w5.heap.size := ⟨_, rfl⟩
            rw [← hgk3] at hxk3 ⊢
            have HGEk3 : Hid (∀ m, m ≤ w5.heap.size → m ≤ gxk3) := fun m h => by omega
            have HXk3 := Lib.hid hxk3
            have HBWk3 := Lib.hid hbwk3
            have HBSk3 := Lib.hid hbsk3
            clear hWk3 hxk3 hbwk3 hbsk3 hgk3 HONk3
            obtain ⟨gn, hgq⟩ : ∃ g, g = gxk3 := ⟨_, rfl⟩
            rw [← hgq] at HXk3 HGEk3 ⊢
            have HGgn : Hid (W.heap.size ≤ gn) := HGEk3.out _ HB.out.size
            have HLgmgn : Hid (gm < gn) := HGEk3.out (gm + 1) HMB.out.lt
            clear hgq HBWk3 HGEk3
            have HRBn := Lib.hid (HRB.out.below HBSk3.out)
            clear HRB
            have HRB := HRBn
            clear HRBn
            have HRWn := Lib.hid (HRW.out.mono HBSk3.out)
            clear HRW
            have HRW := HRWn
            clear HRWn
            have HOTn := Lib.hid (HOT.out.below HBSk3.out)
            clear HOT
            have HOT := HOTn
            clear HOTn
            have HTBn := Lib.hid (HTB.out.below HBSk3.out)
            clear HTB
            have HTB := HTBn
            clear HTBn
            have HMBn := Lib.hid (HMB.out.below HBSk3.out)
            clear HMB
            have HMB := HMBn
            clear HMBn
            have HBn := Lib.hid (bgo HB.out HBSk3.out HB.out.size)
            clear HB
            have HB := HBn
            clear HBn
            have HBRn := Lib.hid (bgo HBR.out HBSk3.out HBR.out.size)
            clear HBR
            have HBR := HBRn
            clear HBRn
            clear HBSk3
            have HNB := HXk3
            clear HXk3 HSZk3
            have hc1 := HMB.out.cell (j := 1) rfl
            have hf1 := HMB.out.frozen 1
            go_upto_region 16 with fail
            clear hc1 hf1
            have hk : Kept (fun k => k = gm) Wk3 (Wk3.setCell ⟨gm, 1, none⟩ (.int .i64 st)) := (Kept.refl (fun k => k = gm) Wk3).setCell ⟨gm, 1, none⟩ _ rfl
            have hm : Hid (HT (Wk3.setCell ⟨gm, 1, none⟩ (.int .i64 st)) gm 33 [.int .i64 xn.no, .int .i64 xn.state, .int .i64 xn.need]) := by rw [HXN.out]; exact (HMB.out.put 1 (.int .i64 st))
            have hn : Hid (HT (Wk3.setCell ⟨gm, 1, none⟩ (.int .i64 st)) gn 33 [.int .i64 xn.no, .int .i64 xn.state, .int .i64 xn.need]) := HNB.out.keptS hk (fun (e : gn = gm) => by have h1 := HLgmgn.out; omega)
            have ht : Hid (HT (Wk3.setCell ⟨gm, 1, none⟩ (.int .i64 st)) gt 26 [.slice aM2 nM2 cM2, .slice aI2 nI2 cI2, .slice aA2 nA2 cA2]) := HTB.out.keptS hk (fun (e : gt = gm) => by have h1 := HLgtgm.out; omega)
            have hr : Hid (HT (Wk3.setCell ⟨gm, 1, none⟩ (.int .i64 st)) gr 26 [.slice aM nM cM, .slice aI nI cI, .slice aA nA cA]) := HRB.out.keptS hk (fun (e : gr = gm) => by have h1 := HLgrgm.out; omega)
            have hot := Lib.hid (HOT.out.keptQ hk (fun q hq (e : q = gm) => by have h1 := HNOT.out q hq; omega))
            have hrw := Lib.hid (HRW0.out.mono (HBR.out.trans (Kept.below hk (fun k h (e : k = gm) => by have h1 := HWG.out; omega) HBR.out.size)))
            have hB : Hid (Below W.heap.size W (Wk3.setCell ⟨gm, 1, none⟩ (.int .i64 st))) := HB.out.trans (Kept.below hk (fun k h (e : k = gm) => by have := HGgm.out; omega) HB.out.size)
            clear HB hk HMB HNB HTB HRB HRW HOT HBR
            have HMB := hm
            clear hm
            have HNB := hn
            clear hn
            have HTB := ht
            clear ht
            have HRB := hr
            clear hr
            have HOT := hot
            clear hot
            have HRW := hrw
            clear hrw
            have HB := hB
            clear hB
            generalize hW : (Wk3.setCell ⟨gm, 1, none⟩ (.int .i64 st)) = Wv at *
            clear hW
            obtain rfl : nM = nM2 := by rw [HOT.out.in.1.n, HRW.out.1.n, HM2.out, List.length_set]
            have hb1 : Below Wv.heap.size Wv (Wv.alloc (.cells #[.int .i64 xn.no, .int .i64 xn.state, .int .i64 xn.need] 33)) := (Below.refl _ _).alloc (Nat.le_refl _) _
            have hb2 : Below Wv.heap.size Wv ((Wv.alloc (.cells #[.int .i64 xn.no, .int .i64 xn.state, .int .i64 xn.need] 33)).alloc (.cells #[.int .i64 xn.no, .int .i64 xn.state, .int .i64 xn.need] 33)) := hb1.alloc hb1.size _
            have HL1 : Hid (Rs MbT.vs 3 ((Wv.alloc (.cells #[.int .i64 xn.no, .int .i64 xn.state, .int .i64 xn.need] 33)).alloc (.cells #[.int .i64 xn.no, .int .i64 xn.state, .int .i64 xn.need] 33)) (.slice (some ⟨Wv.heap.size, 0, none⟩) 1 1) [xn]) := (Rs.one MbT.len Wv xn 33).alloc _
            have HL2 : Hid (Rs MbT.vs 3 ((Wv.alloc (.cells #[.int .i64 xn.no, .int .i64 xn.state, .int .i64 xn.need] 33)).alloc (.cells #[.int .i64 xn.no, .int .i64 xn.state, .int .i64 xn.need] 33)) (.slice (some ⟨Wv.heap.size + 1, 0, none⟩) 1 1) [xn]) := by
              have h9 := Rs.one MbT.len (Wv.alloc (.cells #[.int .i64 xn.no, .int .i64 xn.state, .int .i64 xn.need] 33)) xn 33
              rw [show (Wv.alloc (.cells #[.int .i64 xn.no, .int .i64 xn.state, .int .i64 xn.need] 33)).heap.size = Wv.heap.size + 1 by simp] at h9
              exact h9
            have km := KMembers_same ((Wv.alloc (.cells #[.int .i64 xn.no, .int .i64 xn.state, .int .i64 xn.need] 33)).alloc (.cells #[.int .i64 xn.no, .int .i64 xn.state, .int .i64 xn.need] 33)) _ _ [xn] HL1.out HL2.out
            have HNBx : Hid (Wv.heap[gn]? = some (.cells #[.int .i64 xn.no, .int .i64 xn.state, .int .i64 xn.need] 33 (0, 0))) := HNB.out
            have HMBx : Hid ((Wv.alloc (.cells #[.int .i64 xn.no, .int .i64 xn.state, .int .i64 xn.need] 33)).heap[gm]? = some (.cells #[.int .i64 xn.no, .int .i64 xn.state, .int .i64 xn.need] 33 (0, 0))) := HMB.out.below hb1
            have HB12 := Lib.hid hb2
            clear hb1 hb2
            have HSZm : Hid ((Try.prog.info? 33).map (·.size) = some (#[.int .i64 xn.no, .int .i64 xn.state, .int .i64 xn.need] : Array Value).size) := by show _ = _; rw [mem_sz]; rfl
            have HONm : Hid ((#[.int .i64 xn.no, .int .i64 xn.state, .int .i64 xn.need] : Array Value).all (·.oneCell') = true) := by show _ = true; simp [Value.oneCell']
            go_wp2_with (first
              | (refine wpList_load_row_w (by first | rfl | simp [Region.wanted, yielded]) 33 (.tmp 15) rfl gn rfl 33 #[.int .i64 xn.no, .int .i64 xn.state, .int .i64 xn.need] (0, 0) _ HNBx.out Try.underlying33 rfl HSZm.out ?_)
              | (refine wpList_load_row_w (by first | rfl | simp [Region.wanted, yielded]) 33 (.tmp 13) rfl gm rfl 33 #[.int .i64 xn.no, .int .i64 xn.state, .int .i64 xn.need] (0, 0) _ HMBx.out Try.underlying33 rfl HSZm.out ?_)
              | fail)
            (with_reducible refine km.mono ?_)
            clear km
            rintro e w6 ⟨rfl, hb⟩
            have HB6 := Lib.hid (HB12.out.next hb)
            clear hb
            have HMBn := Lib.hid (HMB.out.below HB6.out)
            clear HMB
            have HMB := HMBn
            clear HMBn
            have HNBn := Lib.hid (HNB.out.below HB6.out)
            clear HNB
            have HNB := HNBn
            clear HNBn
            have HTBn := Lib.hid (HTB.out.below HB6.out)
            clear HTB
            have HTB := HTBn
            clear HTBn
            have HRBn := Lib.hid (HRB.out.below HB6.out)
            clear HRB
            have HRB := HRBn
            clear HRBn
            have HRWn := Lib.hid (HRW.out.mono HB6.out)
            clear HRW
            have HRW := HRWn
            clear HRWn
            have HOTn := Lib.hid (HOT.out.below HB6.out)
            clear HOT
            have HOT := HOTn
            clear HOTn
            have HBn := Lib.hid (bgo HB.out HB6.out HB.out.size)
            clear HB
            have HB := HBn
            clear HBn
            clear HB6
            have hc := HTB.out.cell (j := 1) rfl
            have hd := HRB.out.cell (j := 1) rfl
            have kk := KInsts_same w6 _ _ R.I (by have h9 := HOT.out.in.2.1; rw [HI2.out] at h9; exact h9) HRW.out.2.1
            go_wp2_with fail
            (with_reducible refine kk.mono ?_)
            clear kk hc hd
            rintro e wI ⟨rfl, hb⟩
            have HMBn := Lib.hid (HMB.out.below hb)
            clear HMB
            have HMB := HMBn
            clear HMBn
            have HNBn := Lib.hid (HNB.out.below hb)
            clear HNB
            have HNB := HNBn
            clear HNBn
            have HTBn := Lib.hid (HTB.out.below hb)
            clear HTB
            have HTB := HTBn
            clear HTBn
            have HRBn := Lib.hid (HRB.out.below hb)
            clear HRB
            have HRB := HRBn
            clear HRBn
            have HRWn := Lib.hid (HRW.out.mono hb)
            clear HRW
            have HRW := HRWn
            clear HRWn
            have HOTn := Lib.hid (HOT.out.below hb)
            clear HOT
            have HOT := HOTn
            clear HOTn
            have HBn := Lib.hid (bgo HB.out hb HB.out.size)
            clear HB
            have HB := HBn
            clear HBn
            clear hb
            have hc := HTB.out.cell (j := 2) rfl
            have hd := HRB.out.cell (j := 2) rfl
            have kk := KAssets_same wI _ _ R.A (by have h9 := HOT.out.in.2.2; rw [HA2.out] at h9; exact h9) HRW.out.2.2
            go_wp2_with fail
            (with_reducible refine kk.mono ?_)
            clear kk hc hd
            rintro e wA ⟨rfl, hb⟩
            have HMBn := Lib.hid (HMB.out.below hb)
            clear HMB
            have HMB := HMBn
            clear HMBn
            have HNBn := Lib.hid (HNB.out.below hb)
            clear HNB
            have HNB := HNBn
            clear HNBn
            have HTBn := Lib.hid (HTB.out.below hb)
            clear HTB
            have HTB := HTBn
            clear HTBn
            have HRBn := Lib.hid (HRB.out.below hb)
            clear HRB
            have HRB := HRBn
            clear HRBn
            have HRWn := Lib.hid (HRW.out.mono hb)
            clear HRW
            have HRW := HRWn
            clear HRWn
            have HOTn := Lib.hid (HOT.out.below hb)
            clear HOT
            have HOT := HOTn
            clear HOTn
            have HBn := Lib.hid (bgo HB.out hb HB.out.size)
            clear HB
            have HB := HBn
            clear HBn
            clear hb
            have hc := HTB.out.cell (j := 0) rfl
            have hd := HRB.out.cell (j := 0) rfl
            go_wp2_with fail
            clear hc hd
            have HIM := Lib.hid HOT.out.in.1
            have HNL := Lib.hid HRW.out.1.n
            have HQQ := Lib.hid HRW.out.1
            clear HOT HRW0
            go_loopw [17] (fun v wr => ∃ i : Nat, i ≤ nM ∧ v = .int .i64 i ∧ HT wr gt 26 [.slice aM2 nM cM2, .slice aI2 nI2 cI2, .slice aA2 nA2 cA2] ∧ HT wr gr 26 [.slice aM nM cM, .slice aI nI cI, .slice aA nA cA] ∧ Rs MbT.vs 3 wr (.slice aM2 nM cM2) R2.M ∧ Rs MbT.vs 3 wr (.slice aM nM cM) R.M ∧ Below W.heap.size W wr) (fun v _ => nM - (intOf v).toNat)
            case atStart => exact ⟨0, Nat.zero_le _, rfl, HTB.out, HRB.out, HIM.out, HQQ.out, HB.out⟩
            case round =>
              obtain ⟨i, hi, rfl, ht, hr, h2, h1, hbel⟩ := hrel
              have HTi := Lib.hid ht
              have HRi := Lib.hid hr
              have HBi := Lib.hid hbel
              have H2i := Lib.hid h2
              have H1i := Lib.hid h1
              clear ht hr hbel h2 h1
              by_cases hlt : i < nM
              · have hbd : nM ≤ 1000 := by rw [HNL.out]; have := chkR_few HGD.out; unfold few at this; omega
                have hiR : i < R.M.length := by rw [← HNL.out]; exact hlt
                have hiR2 : i < R2.M.length := by rw [HM2.out, List.length_set]; exact hiR
                obtain ⟨ga, oa, rfl, _, hca⟩ := H2i.out.at (by omega) (by decide)
                obtain ⟨gb, ob, rfl, _, hcb⟩ := H1i.out.at (by omega) (by decide)
                have hcapA := H2i.out.cap
                have hcapB := H1i.out.cap
                obtain ⟨c, hc⟩ : ∃ c, c = R.M[i] := ⟨_, rfl⟩
                have HCB : Hid (∀ j v, [.int .i64 c.no, .int .i64 c.state, .int .i64 c.need][j]? = some v → wr.cell? ⟨gb, ob + i * 3 + j, none⟩ = some v) := fun j v h => hcb i hiR j v (by rw [← hc]; exact h)
                have hd0 := HRi.out.cell (j := 0) rfl
                have hi0 : (0 : Int) ≤ i := by omega
                have hi1 : (i : Int) < nM := by omega
                by_cases hiq : i = q
                · subst hiq
                  have hcn : (c.no != who) = false := by rw [hc, HQN.out]; simp
                  clear hca hcb hc
                  go_wp2_with fail
                  clear hd0
                  refine wp_region_bl 24 (by kernel_rfl) ?_
                  refine wpAnyU_take (i := 0) (oi := { dst := some 129, op := Op.fieldAddr 26 (Operand.tmp 7) 0, type := 0, pos := "more.go:32", after := #[], guard := none }) (v := (.pointer (some ⟨gr, 0, none⟩))) rfl (by kernel_rfl) (by kernel_rfl) (by kernel_rfl) (by kernel_rfl) (by kernel_rfl) (fun _ _ _ h => h) (BL.cls wr) ?_ ?_
                  · refine Or.inl ⟨rfl, fun w hSw => ?_⟩
                    exact EffR.same (by go_simp)
                  try simp only [Act.put, List.setIfInBounds_toArray, List.set_cons_zero, List.set_cons_succ]
                  refine wpAnyU_take (i := 1) (oi := { dst := some 130, op := Op.load 22 (Operand.tmp 129), type := 22, pos := "more.go:32", after := #[{ on := 0, ground := Ground.data }], guard := none }) (v := (.slice (some ⟨gb, ob, none⟩) nM cM)) rfl (by kernel_rfl) (by kernel_rfl) (by kernel_rfl) (by kernel_rfl) (by kernel_rfl) (fun _ _ _ h => h) (BL.cls wr) ?_ ?_
                  · refine Or.inl ⟨rfl, fun w hSw => ?_⟩
                    have e0 : w.cell? ⟨gr, 0, none⟩ = some (.slice (some ⟨gb, ob, none⟩) nM cM) := BL.cell hSw (HRi.out.cell (j := 0) rfl)
                    exact EffR.same (by go_simp)
                  try simp only [Act.put, List.setIfInBounds_toArray, List.set_cons_zero, List.set_cons_succ]
                  refine wpAnyU_take (i := 2) (oi := { dst := some 131, op := Op.move (Operand.tmp 17), type := 3, pos := "more.go:32", after := #[], guard := none }) (v := (.int .i64 (i : Int))) rfl (by kernel_rfl) (by kernel_rfl) (by kernel_rfl) (by kernel_rfl) (by kernel_rfl) (fun _ _ _ h => h) (BL.cls wr) ?_ ?_
                  · refine Or.inl ⟨rfl, fun w hSw => ?_⟩
                    exact EffR.same (by go_simp)
                  try simp only [Act.put, List.setIfInBounds_toArray, List.set_cons_zero, List.set_cons_succ]
                  refine wpAnyU_take (i := 3) (oi := { dst := some 132, op := Op.indexAddr 22 (Operand.tmp 130) (Operand.tmp 131), type := 0, pos := "more.go:32", after := #[{ on := 1, ground := Ground.data }, { on := 2, ground := Ground.data }], guard := none }) (v := (.pointer (some ⟨gb, ob + i * 3, none⟩))) rfl (by kernel_rfl) (by kernel_rfl) (by kernel_rfl) (by kernel_rfl) (by kernel_rfl) (fun _ _ _ h => h) (BL.cls wr) ?_ ?_
                  · refine Or.inl ⟨rfl, fun w hSw => ?_⟩
                    exact EffR.same (by go_simp)
                  try simp only [Act.put, List.setIfInBounds_toArray, List.set_cons_zero, List.set_cons_succ]
                  refine wpAnyU_take (i := 4) (oi := { dst := some 133, op := Op.fieldAddr 33 (Operand.tmp 132) 0, type := 0, pos := "more.go:32", after := #[{ on := 3, ground := Ground.data }], guard := none }) (v := (.pointer (some ⟨gb, ob + i * 3, none⟩))) rfl (by kernel_rfl) (by kernel_rfl) (by kernel_rfl) (by kernel_rfl) (by kernel_rfl) (fun _ _ _ h => h) (BL.cls wr) ?_ ?_
                  · refine Or.inl ⟨rfl, fun w hSw => ?_⟩
                    exact EffR.same (by go_simp)
                  try simp only [Act.put, List.setIfInBounds_toArray, List.set_cons_zero, List.set_cons_succ]
                  refine wpAnyU_take (i := 5) (oi := { dst := some 134, op := Op.load 3 (Operand.tmp 133), type := 3, pos := "more.go:32", after := #[{ on := 4, ground := Ground.data }], guard := none }) (v := (.int .i64 c.no)) rfl (by kernel_rfl) (by kernel_rfl) (by kernel_rfl) (by kernel_rfl) (by kernel_rfl) (fun _ _ _ h => h) (BL.cls wr) ?_ ?_
                  · refine Or.inl ⟨rfl, fun w hSw => ?_⟩
                    have e0 : w.cell? ⟨gb, ob + i * 3, none⟩ = some (.int .i64 c.no) := BL.cell hSw (HCB.out 0 _ rfl)
                    exact EffR.same (by go_simp)
                  try simp only [Act.put, List.setIfInBounds_toArray, List.set_cons_zero, List.set_cons_succ]
                  refine wpAnyU_take (i := 6) (oi := { dst := some 135, op := Op.move (Operand.tmp 1), type := 3, pos := "more.go:32", after := #[], guard := none }) (v := (.int .i64 who)) rfl (by kernel_rfl) (by kernel_rfl) (by kernel_rfl) (by kernel_rfl) (by kernel_rfl) (fun _ _ _ h => h) (BL.cls wr) ?_ ?_
                  · refine Or.inl ⟨rfl, fun w hSw => ?_⟩
                    exact EffR.same (by go_simp)
                  try simp only [Act.put, List.setIfInBounds_toArray, List.set_cons_zero, List.set_cons_succ]
                  refine wpAnyU_take (i := 7) (oi := { dst := some 136, op := Op.binOp BinOp.neq 3 (Operand.tmp 134) (Operand.tmp 135) 3, type := 4, pos := "more.go:32", after := #[{ on := 5, ground := Ground.data }, { on := 6, ground := Ground.data }], guard := none }) (v := (.bool false)) rfl (by kernel_rfl) (by kernel_rfl) (by kernel_rfl) (by kernel_rfl) (by kernel_rfl) (fun _ _ _ h => h) (BL.cls wr) ?_ ?_
                  · refine Or.inl ⟨rfl, fun w hSw => ?_⟩
                    exact EffR.same (by go_simp)
                  try simp only [Act.put, List.setIfInBounds_toArray, List.set_cons_zero, List.set_cons_succ]
                  refine wpAnyU_take (i := 8) (oi := { dst := some 137, op := Op.move (Operand.tmp 136), type := 4, pos := "more.go:32", after := #[{ on := 7, ground := Ground.data }], guard := none }) (v := (.bool false)) rfl (by kernel_rfl) (by kernel_rfl) (by kernel_rfl) (by kernel_rfl) (by kernel_rfl) (fun _ _ _ h => h) (BL.cls wr) ?_ ?_
                  · refine Or.inl ⟨rfl, fun w hSw => ?_⟩
                    exact EffR.same (by go_simp)
                  try simp only [Act.put, List.setIfInBounds_toArray, List.set_cons_zero, List.set_cons_succ]
                  refine wpAnyU_take (i := 9) (oi := { dst := some 138, op := Op.fieldAddr 26 (Operand.tmp 11) 0, type := 0, pos := "more.go:32", after := #[{ on := 8, ground := Ground.guard }], guard := some (8, true) }) (v := undef) rfl (by kernel_rfl) (by kernel_rfl) (by kernel_rfl) (by kernel_rfl) (by kernel_rfl) (fun _ _ _ h => h) (BL.cls wr) ?_ ?_
                  · exact Or.inr ⟨rfl, rfl⟩
                  try simp only [Act.put, List.setIfInBounds_toArray, List.set_cons_zero, List.set_cons_succ]
                  refine wpAnyU_take (i := 10) (oi := { dst := some 139, op := Op.load 22 (Operand.tmp 138), type := 22, pos := "more.go:32", after := #[{ on := 9, ground := Ground.data }, { on := 8, ground := Ground.guard }], guard := some (8, true) }) (v := undef) rfl (by kernel_rfl) (by kernel_rfl) (by kernel_rfl) (by kernel_rfl) (by kernel_rfl) (fun _ _ _ h => h) (BL.cls wr) ?_ ?_
                  · exact Or.inr ⟨rfl, rfl⟩
                  try simp only [Act.put, List.setIfInBounds_toArray, List.set_cons_zero, List.set_cons_succ]
                  refine wpAnyU_take (i := 11) (oi := { dst := some 140, op := Op.move (Operand.tmp 17), type := 3, pos := "more.go:32", after := #[{ on := 8, ground := Ground.guard }], guard := some (8, true) }) (v := undef) rfl (by kernel_rfl) (by kernel_rfl) (by kernel_rfl) (by kernel_rfl) (by kernel_rfl) (fun _ _ _ h => h) (BL.cls wr) ?_ ?_
                  · exact Or.inr ⟨rfl, rfl⟩
                  try simp only [Act.put, List.setIfInBounds_toArray, List.set_cons_zero, List.set_cons_succ]
                  refine wpAnyU_take (i := 12) (oi := { dst := some 141, op := Op.move (Operand.tmp 17), type := 3, pos := "more.go:32", after := #[{ on := 8, ground := Ground.guard }], guard := some (8, true) }) (v := undef) rfl (by kernel_rfl) (by kernel_rfl) (by kernel_rfl) (by kernel_rfl) (by kernel_rfl) (fun _ _ _ h => h) (BL.cls wr) ?_ ?_
                  · exact Or.inr ⟨rfl, rfl⟩
                  try simp only [Act.put, List.setIfInBounds_toArray, List.set_cons_zero, List.set_cons_succ]
                  refine wpAnyU_take (i := 13) (oi := { dst := some 142, op := Op.binOp BinOp.add 3 (Operand.tmp 141) (Operand.const (Value.int IntKind.i64 1)) 3, type := 3, pos := "more.go:32", after := #[{ on := 12, ground := Ground.data }, { on := 8, ground := Ground.guard }], guard := some (8, true) }) (v := undef) rfl (by kernel_rfl) (by kernel_rfl) (by kernel_rfl) (by kernel_rfl) (by kernel_rfl) (fun _ _ _ h => h) (BL.cls wr) ?_ ?_
                  · exact Or.inr ⟨rfl, rfl⟩
                  try simp only [Act.put, List.setIfInBounds_toArray, List.set_cons_zero, List.set_cons_succ]
                  refine wpAnyU_take (i := 14) (oi := { dst := some 143, op := Op.slice 22 (Operand.tmp 139) (some (Operand.tmp 140)) (some (Operand.tmp 142)) none, type := 22, pos := "more.go:32", after := #[{ on := 10, ground := Ground.data }, { on := 11, ground := Ground.data }, { on := 13, ground := Ground.data }, { on := 8, ground := Ground.guard }], guard := some (8, true) }) (v := undef) rfl (by kernel_rfl) (by kernel_rfl) (by kernel_rfl) (by kernel_rfl) (by kernel_rfl) (fun _ _ _ h => h) (BL.cls wr) ?_ ?_
                  · exact Or.inr ⟨rfl, rfl⟩
                  try simp only [Act.put, List.setIfInBounds_toArray, List.set_cons_zero, List.set_cons_succ]
                  refine wpAnyU_take (i := 15) (oi := { dst := some 144, op := Op.fieldAddr 26 (Operand.tmp 7) 0, type := 0, pos := "more.go:32", after := #[{ on := 8, ground := Ground.guard }], guard := some (8, true) }) (v := undef) rfl (by kernel_rfl) (by kernel_rfl) (by kernel_rfl) (by kernel_rfl) (by kernel_rfl) (fun _ _ _ h => h) (BL.cls wr) ?_ ?_
                  · exact Or.inr ⟨rfl, rfl⟩
                  try simp only [Act.put, List.setIfInBounds_toArray, List.set_cons_zero, List.set_cons_succ]
                  refine wpAnyU_take (i := 16) (oi := { dst := some 145, op := Op.load 22 (Operand.tmp 144), type := 22, pos := "more.go:32", after := #[{ on := 15, ground := Ground.data }, { on := 8, ground := Ground.guard }], guard := some (8, true) }) (v := undef) rfl (by kernel_rfl) (by kernel_rfl) (by kernel_rfl) (by kernel_rfl) (by kernel_rfl) (fun _ _ _ h => h) (BL.cls wr) ?_ ?_
                  · exact Or.inr ⟨rfl, rfl⟩
                  try simp only [Act.put, List.setIfInBounds_toArray, List.set_cons_zero, List.set_cons_succ]
                  refine wpAnyU_take (i := 17) (oi := { dst := some 146, op := Op.move (Operand.tmp 17), type := 3, pos := "more.go:32", after := #[{ on := 8, ground := Ground.guard }], guard := some (8, true) }) (v := undef) rfl (by kernel_rfl) (by kernel_rfl) (by kernel_rfl) (by kernel_rfl) (by kernel_rfl) (fun _ _ _ h => h) (BL.cls wr) ?_ ?_
                  · exact Or.inr ⟨rfl, rfl⟩
                  try simp only [Act.put, List.setIfInBounds_toArray, List.set_cons_zero, List.set_cons_succ]
                  refine wpAnyU_take (i := 18) (oi := { dst := some 147, op := Op.move (Operand.tmp 17), type := 3, pos := "more.go:32", after := #[{ on := 8, ground := Ground.guard }], guard := some (8, true) }) (v := undef) rfl (by kernel_rfl) (by kernel_rfl) (by kernel_rfl) (by kernel_rfl) (by kernel_rfl) (fun _ _ _ h => h) (BL.cls wr) ?_ ?_
                  · exact Or.inr ⟨rfl, rfl⟩
                  try simp only [Act.put, List.setIfInBounds_toArray, List.set_cons_zero, List.set_cons_succ]
                  refine wpAnyU_take (i := 19) (oi := { dst := some 148, op := Op.binOp BinOp.add 3 (Operand.tmp 147) (Operand.const (Value.int IntKind.i64 1)) 3, type := 3, pos := "more.go:32", after := #[{ on := 18, ground := Ground.data }, { on := 8, ground := Ground.guard }], guard := some (8, true) }) (v := undef) rfl (by kernel_rfl) (by kernel_rfl) (by kernel_rfl) (by kernel_rfl) (by kernel_rfl) (fun _ _ _ h => h) (BL.cls wr) ?_ ?_
                  · exact Or.inr ⟨rfl, rfl⟩
                  try simp only [Act.put, List.setIfInBounds_toArray, List.set_cons_zero, List.set_cons_succ]
                  refine wpAnyU_take (i := 20) (oi := { dst := some 149, op := Op.slice 22 (Operand.tmp 145) (some (Operand.tmp 146)) (some (Operand.tmp 148)) none, type := 22, pos := "more.go:32", after := #[{ on := 16, ground := Ground.data }, { on := 17, ground := Ground.data }, { on := 19, ground := Ground.data }, { on := 8, ground := Ground.guard }], guard := some (8, true) }) (v := undef) rfl (by kernel_rfl) (by kernel_rfl) (by kernel_rfl) (by kernel_rfl) (by kernel_rfl) (fun _ _ _ h => h) (BL.cls wr) ?_ ?_
                  · exact Or.inr ⟨rfl, rfl⟩
                  try simp only [Act.put, List.setIfInBounds_toArray, List.set_cons_zero, List.set_cons_succ]
                  refine wpAnyU_take (i := 21) (oi := { dst := some 150, op := Op.call { callee := Callee.value (Operand.func 19), args := #[Operand.tmp 143, Operand.tmp 149], argTypes := #[22, 22] }, type := 4, pos := "more.go:32", after := #[{ on := 14, ground := Ground.data }, { on := 20, ground := Ground.data }, { on := 8, ground := Ground.chain }, { on := 8, ground := Ground.guard }], guard := some (8, true) }) (v := undef) rfl (by kernel_rfl) (by kernel_rfl) (by kernel_rfl) (by kernel_rfl) (by kernel_rfl) (fun _ _ _ h => h) (BL.cls wr) ?_ ?_
                  · exact Or.inr ⟨rfl, rfl⟩
                  try simp only [Act.put, List.setIfInBounds_toArray, List.set_cons_zero, List.set_cons_succ]
                  refine wpAnyU_take (i := 22) (oi := { dst := some 151, op := Op.unOp UnOp.not 4 (Operand.tmp 150), type := 4, pos := "more.go:32", after := #[{ on := 21, ground := Ground.data }, { on := 8, ground := Ground.guard }], guard := some (8, true) }) (v := undef) rfl (by kernel_rfl) (by kernel_rfl) (by kernel_rfl) (by kernel_rfl) (by kernel_rfl) (fun _ _ _ h => h) (BL.cls wr) ?_ ?_
                  · exact Or.inr ⟨rfl, rfl⟩
                  try simp only [Act.put, List.setIfInBounds_toArray, List.set_cons_zero, List.set_cons_succ]
                  refine wpAnyU_take (i := 23) (oi := { dst := some 152, op := Op.pick (Operand.tmp 137) (Operand.tmp 151) (Operand.const (Value.bool false)), type := 4, pos := "more.go:32", after := #[{ on := 8, ground := Ground.data }, { on := 22, ground := Ground.data }], guard := none }) (v := (.bool false)) rfl (by kernel_rfl) (by kernel_rfl) (by kernel_rfl) (by kernel_rfl) (by kernel_rfl) (fun _ _ _ h => h) (BL.cls wr) ?_ ?_
                  · refine Or.inl ⟨rfl, fun w hSw => ?_⟩
                    exact EffR.same (by go_simp)
                  try simp only [Act.put, List.setIfInBounds_toArray, List.set_cons_zero, List.set_cons_succ]
                  refine wpAnyU_done (by kernel_rfl) (fun w1 hb1 => ?_) _
                  have HTn := Lib.hid (HTi.out.below hb1)
                  have HRn := Lib.hid (HRi.out.below hb1)
                  have H2n := Lib.hid (H2i.out.mono hb1)
                  have H1n := Lib.hid (H1i.out.mono hb1)
                  have HBn := Lib.hid (bgoS HBi.out hb1)
                  clear hb1
                  go_wp2_with fail
                  exact ⟨⟨i + 1, by omega, by push_cast; rfl, HTn.out, HRn.out, H2n.out, H1n.out, HBn.out⟩, by simp [intOf]; omega⟩
                · have hcne : c.no ≠ who := by
                    intro e
                    have hp := HSRT.out
                    unfold Srt at hp
                    rw [List.pairwise_iff_getElem] at hp
                    have h8 := HQN.out
                    rcases Nat.lt_or_gt_of_ne hiq with hlt2 | hgt2
                    · have := hp i q hiR HQ.out hlt2; rw [← hc, e] at this; omega
                    · have := hp q i HQ.out hiR hgt2; rw [← hc, e] at this; omega
                  have hcn : (c.no != who) = true := by simpa using hcne
                  have e2 : R2.M[i] = c := by rw [hc]; simp only [HM2.out]; rw [List.getElem_set_ne (fun e => hiq e.symm)]
                  have hx2 := H2i.out.cut1 hiR2 (by omega) (by decide)
                  rw [e2] at hx2
                  have hx1 := H1i.out.cut1 hiR (by omega) (by decide)
                  rw [← hc] at hx1
                  have HX2 := Lib.hid hx2
                  have HX1 := Lib.hid hx1
                  obtain ⟨j1, hj0⟩ : ∃ j1, j1 = i + 1 := ⟨_, rfl⟩
                  have hjs : j1 - i = 1 ∧ i ≤ j1 ∧ j1 ≤ cM ∧ j1 ≤ cM2 := by omega
                  have hne : ¬ cM = i ∧ ¬ cM2 = i := by omega
                  have hj1 : IntKind.i64.wrap ((i : Int) + 1) = (j1 : Int) := by rw [IntWalk.i64_in _ (by omega)]; omega
                  clear hcne e2 hx2 hx1 hca hcb hc hj0
                  go_wp2_with fail
                  clear hd0
                  refine wp_region_bl 24 (by kernel_rfl) ?_
                  refine wpAnyU_take (i := 0) (oi := { dst := some 129, op := Op.fieldAddr 26 (Operand.tmp 7) 0, type := 0, pos := "more.go:32", after := #[], guard := none }) (v := (.pointer (some ⟨gr, 0, none⟩))) rfl (by kernel_rfl) (by kernel_rfl) (by kernel_rfl) (by kernel_rfl) (by kernel_rfl) (fun _ _ _ h => h) (BL.cls wr) ?_ ?_
                  · refine Or.inl ⟨rfl, fun w hSw => ?_⟩
                    exact EffR.same (by go_simp)
                  try simp only [Act.put, List.setIfInBounds_toArray, List.set_cons_zero, List.set_cons_succ]
                  refine wpAnyU_take (i := 1) (oi := { dst := some 130, op := Op.load 22 (Operand.tmp 129), type := 22, pos := "more.go:32", after := #[{ on := 0, ground := Ground.data }], guard := none }) (v := (.slice (some ⟨gb, ob, none⟩) nM cM)) rfl (by kernel_rfl) (by kernel_rfl) (by kernel_rfl) (by kernel_rfl) (by kernel_rfl) (fun _ _ _ h => h) (BL.cls wr) ?_ ?_
                  · refine Or.inl ⟨rfl, fun w hSw => ?_⟩
                    have e0 : w.cell? ⟨gr, 0, none⟩ = some (.slice (some ⟨gb, ob, none⟩) nM cM) := BL.cell hSw (HRi.out.cell (j := 0) rfl)
                    exact EffR.same (by go_simp)
                  try simp only [Act.put, List.setIfInBounds_toArray, List.set_cons_zero, List.set_cons_succ]
                  refine wpAnyU_take (i := 2) (oi := { dst := some 131, op := Op.move (Operand.tmp 17), type := 3, pos := "more.go:32", after := #[], guard := none }) (v := (.int .i64 (i : Int))) rfl (by kernel_rfl) (by kernel_rfl) (by kernel_rfl) (by kernel_rfl) (by kernel_rfl) (fun _ _ _ h => h) (BL.cls wr) ?_ ?_
                  · refine Or.inl ⟨rfl, fun w hSw => ?_⟩
                    exact EffR.same (by go_simp)
                  try simp only [Act.put, List.setIfInBounds_toArray, List.set_cons_zero, List.set_cons_succ]
                  refine wpAnyU_take (i := 3) (oi := { dst := some 132, op := Op.indexAddr 22 (Operand.tmp 130) (Operand.tmp 131), type := 0, pos := "more.go:32", after := #[{ on := 1, ground := Ground.data }, { on := 2, ground := Ground.data }], guard := none }) (v := (.pointer (some ⟨gb, ob + i * 3, none⟩))) rfl (by kernel_rfl) (by kernel_rfl) (by kernel_rfl) (by kernel_rfl) (by kernel_rfl) (fun _ _ _ h => h) (BL.cls wr) ?_ ?_
                  · refine Or.inl ⟨rfl, fun w hSw => ?_⟩
                    exact EffR.same (by go_simp)
                  try simp only [Act.put, List.setIfInBounds_toArray, List.set_cons_zero, List.set_cons_succ]
                  refine wpAnyU_take (i := 4) (oi := { dst := some 133, op := Op.fieldAddr 33 (Operand.tmp 132) 0, type := 0, pos := "more.go:32", after := #[{ on := 3, ground := Ground.data }], guard := none }) (v := (.pointer (some ⟨gb, ob + i * 3, none⟩))) rfl (by kernel_rfl) (by kernel_rfl) (by kernel_rfl) (by kernel_rfl) (by kernel_rfl) (fun _ _ _ h => h) (BL.cls wr) ?_ ?_
                  · refine Or.inl ⟨rfl, fun w hSw => ?_⟩
                    exact EffR.same (by go_simp)
                  try simp only [Act.put, List.setIfInBounds_toArray, List.set_cons_zero, List.set_cons_succ]
                  refine wpAnyU_take (i := 5) (oi := { dst := some 134, op := Op.load 3 (Operand.tmp 133), type := 3, pos := "more.go:32", after := #[{ on := 4, ground := Ground.data }], guard := none }) (v := (.int .i64 c.no)) rfl (by kernel_rfl) (by kernel_rfl) (by kernel_rfl) (by kernel_rfl) (by kernel_rfl) (fun _ _ _ h => h) (BL.cls wr) ?_ ?_
                  · refine Or.inl ⟨rfl, fun w hSw => ?_⟩
                    have e0 : w.cell? ⟨gb, ob + i * 3, none⟩ = some (.int .i64 c.no) := BL.cell hSw (HCB.out 0 _ rfl)
                    exact EffR.same (by go_simp)
                  try simp only [Act.put, List.setIfInBounds_toArray, List.set_cons_zero, List.set_cons_succ]
                  refine wpAnyU_take (i := 6) (oi := { dst := some 135, op := Op.move (Operand.tmp 1), type := 3, pos := "more.go:32", after := #[], guard := none }) (v := (.int .i64 who)) rfl (by kernel_rfl) (by kernel_rfl) (by kernel_rfl) (by kernel_rfl) (by kernel_rfl) (fun _ _ _ h => h) (BL.cls wr) ?_ ?_
                  · refine Or.inl ⟨rfl, fun w hSw => ?_⟩
                    exact EffR.same (by go_simp)
                  try simp only [Act.put, List.setIfInBounds_toArray, List.set_cons_zero, List.set_cons_succ]
                  refine wpAnyU_take (i := 7) (oi := { dst := some 136, op := Op.binOp BinOp.neq 3 (Operand.tmp 134) (Operand.tmp 135) 3, type := 4, pos := "more.go:32", after := #[{ on := 5, ground := Ground.data }, { on := 6, ground := Ground.data }], guard := none }) (v := (.bool true)) rfl (by kernel_rfl) (by kernel_rfl) (by kernel_rfl) (by kernel_rfl) (by kernel_rfl) (fun _ _ _ h => h) (BL.cls wr) ?_ ?_
                  · refine Or.inl ⟨rfl, fun w hSw => ?_⟩
                    exact EffR.same (by go_simp)
                  try simp only [Act.put, List.setIfInBounds_toArray, List.set_cons_zero, List.set_cons_succ]
                  refine wpAnyU_take (i := 8) (oi := { dst := some 137, op := Op.move (Operand.tmp 136), type := 4, pos := "more.go:32", after := #[{ on := 7, ground := Ground.data }], guard := none }) (v := (.bool true)) rfl (by kernel_rfl) (by kernel_rfl) (by kernel_rfl) (by kernel_rfl) (by kernel_rfl) (fun _ _ _ h => h) (BL.cls wr) ?_ ?_
                  · refine Or.inl ⟨rfl, fun w hSw => ?_⟩
                    exact EffR.same (by go_simp)
                  try simp only [Act.put, List.setIfInBounds_toArray, List.set_cons_zero, List.set_cons_succ]
                  refine wpAnyU_take (i := 9) (oi := { dst := some 138, op := Op.fieldAddr 26 (Operand.tmp 11) 0, type := 0, pos := "more.go:32", after := #[{ on := 8, ground := Ground.guard }], guard := some (8, true) }) (v := (.pointer (some ⟨gt, 0, none⟩))) rfl (by kernel_rfl) (by kernel_rfl) (by kernel_rfl) (by kernel_rfl) (by kernel_rfl) (fun _ _ _ h => h) (BL.cls wr) ?_ ?_
                  · refine Or.inl ⟨rfl, fun w hSw => ?_⟩
                    exact EffR.same (by go_simp)
                  try simp only [Act.put, List.setIfInBounds_toArray, List.set_cons_zero, List.set_cons_succ]
                  refine wpAnyU_take (i := 10) (oi := { dst := some 139, op := Op.load 22 (Operand.tmp 138), type := 22, pos := "more.go:32", after := #[{ on := 9, ground := Ground.data }, { on := 8, ground := Ground.guard }], guard := some (8, true) }) (v := (.slice (some ⟨ga, oa, none⟩) nM cM2)) rfl (by kernel_rfl) (by kernel_rfl) (by kernel_rfl) (by kernel_rfl) (by kernel_rfl) (fun _ _ _ h => h) (BL.cls wr) ?_ ?_
                  · refine Or.inl ⟨rfl, fun w hSw => ?_⟩
                    have e0 : w.cell? ⟨gt, 0, none⟩ = some (.slice (some ⟨ga, oa, none⟩) nM cM2) := BL.cell hSw (HTi.out.cell (j := 0) rfl)
                    exact EffR.same (by go_simp)
                  try simp only [Act.put, List.setIfInBounds_toArray, List.set_cons_zero, List.set_cons_succ]
                  refine wpAnyU_take (i := 11) (oi := { dst := some 140, op := Op.move (Operand.tmp 17), type := 3, pos := "more.go:32", after := #[{ on := 8, ground := Ground.guard }], guard := some (8, true) }) (v := (.int .i64 (i : Int))) rfl (by kernel_rfl) (by kernel_rfl) (by kernel_rfl) (by kernel_rfl) (by kernel_rfl) (fun _ _ _ h => h) (BL.cls wr) ?_ ?_
                  · refine Or.inl ⟨rfl, fun w hSw => ?_⟩
                    exact EffR.same (by go_simp)
                  try simp only [Act.put, List.setIfInBounds_toArray, List.set_cons_zero, List.set_cons_succ]
                  refine wpAnyU_take (i := 12) (oi := { dst := some 141, op := Op.move (Operand.tmp 17), type := 3, pos := "more.go:32", after := #[{ on := 8, ground := Ground.guard }], guard := some (8, true) }) (v := (.int .i64 (i : Int))) rfl (by kernel_rfl) (by kernel_rfl) (by kernel_rfl) (by kernel_rfl) (by kernel_rfl) (fun _ _ _ h => h) (BL.cls wr) ?_ ?_
                  · refine Or.inl ⟨rfl, fun w hSw => ?_⟩
                    exact EffR.same (by go_simp)
                  try simp only [Act.put, List.setIfInBounds_toArray, List.set_cons_zero, List.set_cons_succ]
                  refine wpAnyU_take (i := 13) (oi := { dst := some 142, op := Op.binOp BinOp.add 3 (Operand.tmp 141) (Operand.const (Value.int IntKind.i64 1)) 3, type := 3, pos := "more.go:32", after := #[{ on := 12, ground := Ground.data }, { on := 8, ground := Ground.guard }], guard := some (8, true) }) (v := (.int .i64 (j1 : Int))) rfl (by kernel_rfl) (by kernel_rfl) (by kernel_rfl) (by kernel_rfl) (by kernel_rfl) (fun _ _ _ h => h) (BL.cls wr) ?_ ?_
                  · refine Or.inl ⟨rfl, fun w hSw => ?_⟩
                    exact EffR.same (by go_simp)
                  try simp only [Act.put, List.setIfInBounds_toArray, List.set_cons_zero, List.set_cons_succ]
                  refine wpAnyU_take (i := 14) (oi := { dst := some 143, op := Op.slice 22 (Operand.tmp 139) (some (Operand.tmp 140)) (some (Operand.tmp 142)) none, type := 22, pos := "more.go:32", after := #[{ on := 10, ground := Ground.data }, { on := 11, ground := Ground.data }, { on := 13, ground := Ground.data }, { on := 8, ground := Ground.guard }], guard := some (8, true) }) (v := (.slice (some ⟨ga, oa + i * 3, none⟩) 1 (cM2 - i))) rfl (by kernel_rfl) (by kernel_rfl) (by kernel_rfl) (by kernel_rfl) (by kernel_rfl) (fun _ _ _ h => h) (BL.cls wr) ?_ ?_
                  · refine Or.inl ⟨rfl, fun w hSw => ?_⟩
                    exact EffR.same (by go_simp)
                  try simp only [Act.put, List.setIfInBounds_toArray, List.set_cons_zero, List.set_cons_succ]
                  refine wpAnyU_take (i := 15) (oi := { dst := some 144, op := Op.fieldAddr 26 (Operand.tmp 7) 0, type := 0, pos := "more.go:32", after := #[{ on := 8, ground := Ground.guard }], guard := some (8, true) }) (v := (.pointer (some ⟨gr, 0, none⟩))) rfl (by kernel_rfl) (by kernel_rfl) (by kernel_rfl) (by kernel_rfl) (by kernel_rfl) (fun _ _ _ h => h) (BL.cls wr) ?_ ?_
                  · refine Or.inl ⟨rfl, fun w hSw => ?_⟩
                    exact EffR.same (by go_simp)
                  try simp only [Act.put, List.setIfInBounds_toArray, List.set_cons_zero, List.set_cons_succ]
                  refine wpAnyU_take (i := 16) (oi := { dst := some 145, op := Op.load 22 (Operand.tmp 144), type := 22, pos := "more.go:32", after := #[{ on := 15, ground := Ground.data }, { on := 8, ground := Ground.guard }], guard := some (8, true) }) (v := (.slice (some ⟨gb, ob, none⟩) nM cM)) rfl (by kernel_rfl) (by kernel_rfl) (by kernel_rfl) (by kernel_rfl) (by kernel_rfl) (fun _ _ _ h => h) (BL.cls wr) ?_ ?_
                  · refine Or.inl ⟨rfl, fun w hSw => ?_⟩
                    have e0 : w.cell? ⟨gr, 0, none⟩ = some (.slice (some ⟨gb, ob, none⟩) nM cM) := BL.cell hSw (HRi.out.cell (j := 0) rfl)
                    exact EffR.same (by go_simp)
                  try simp only [Act.put, List.setIfInBounds_toArray, List.set_cons_zero, List.set_cons_succ]
                  refine wpAnyU_take (i := 17) (oi := { dst := some 146, op := Op.move (Operand.tmp 17), type := 3, pos := "more.go:32", after := #[{ on := 8, ground := Ground.guard }], guard := some (8, true) }) (v := (.int .i64 (i : Int))) rfl (by kernel_rfl) (by kernel_rfl) (by kernel_rfl) (by kernel_rfl) (by kernel_rfl) (fun _ _ _ h => h) (BL.cls wr) ?_ ?_
                  · refine Or.inl ⟨rfl, fun w hSw => ?_⟩
                    exact EffR.same (by go_simp)
                  try simp only [Act.put, List.setIfInBounds_toArray, List.set_cons_zero, List.set_cons_succ]
                  refine wpAnyU_take (i := 18) (oi := { dst := some 147, op := Op.move (Operand.tmp 17), type := 3, pos := "more.go:32", after := #[{ on := 8, ground := Ground.guard }], guard := some (8, true) }) (v := (.int .i64 (i : Int))) rfl (by kernel_rfl) (by kernel_rfl) (by kernel_rfl) (by kernel_rfl) (by kernel_rfl) (fun _ _ _ h => h) (BL.cls wr) ?_ ?_
                  · refine Or.inl ⟨rfl, fun w hSw => ?_⟩
                    exact EffR.same (by go_simp)
                  try simp only [Act.put, List.setIfInBounds_toArray, List.set_cons_zero, List.set_cons_succ]
                  refine wpAnyU_take (i := 19) (oi := { dst := some 148, op := Op.binOp BinOp.add 3 (Operand.tmp 147) (Operand.const (Value.int IntKind.i64 1)) 3, type := 3, pos := "more.go:32", after := #[{ on := 18, ground := Ground.data }, { on := 8, ground := Ground.guard }], guard := some (8, true) }) (v := (.int .i64 (j1 : Int))) rfl (by kernel_rfl) (by kernel_rfl) (by kernel_rfl) (by kernel_rfl) (by kernel_rfl) (fun _ _ _ h => h) (BL.cls wr) ?_ ?_
                  · refine Or.inl ⟨rfl, fun w hSw => ?_⟩
                    exact EffR.same (by go_simp)
                  try simp only [Act.put, List.setIfInBounds_toArray, List.set_cons_zero, List.set_cons_succ]
                  refine wpAnyU_take (i := 20) (oi := { dst := some 149, op := Op.slice 22 (Operand.tmp 145) (some (Operand.tmp 146)) (some (Operand.tmp 148)) none, type := 22, pos := "more.go:32", after := #[{ on := 16, ground := Ground.data }, { on := 17, ground := Ground.data }, { on := 19, ground := Ground.data }, { on := 8, ground := Ground.guard }], guard := some (8, true) }) (v := (.slice (some ⟨gb, ob + i * 3, none⟩) 1 (cM - i))) rfl (by kernel_rfl) (by kernel_rfl) (by kernel_rfl) (by kernel_rfl) (by kernel_rfl) (fun _ _ _ h => h) (BL.cls wr) ?_ ?_
                  · refine Or.inl ⟨rfl, fun w hSw => ?_⟩
                    exact EffR.same (by go_simp)
                  try simp only [Act.put, List.setIfInBounds_toArray, List.set_cons_zero, List.set_cons_succ]
                  refine wpAnyU_take (i := 21) (oi := { dst := some 150, op := Op.call { callee := Callee.value (Operand.func 19), args := #[Operand.tmp 143, Operand.tmp 149], argTypes := #[22, 22] }, type := 4, pos := "more.go:32", after := #[{ on := 14, ground := Ground.data }, { on := 20, ground := Ground.data }, { on := 8, ground := Ground.chain }, { on := 8, ground := Ground.guard }], guard := some (8, true) }) (v := (.bool true)) rfl (by kernel_rfl) (by kernel_rfl) (by kernel_rfl) (by kernel_rfl) (by kernel_rfl) (fun _ _ _ h => h) (BL.cls wr) ?_ ?_
                  · refine Or.inl ⟨rfl, fun w hSw => ?_⟩
                    go_simp
                    show Calls _ _ _ _ _
                    refine (KMembers_same _ _ _ [c] (HX2.out.mono hSw) (HX1.out.mono hSw)).mono ?_
                    rintro e w1 ⟨rfl, hb⟩
                    exact ⟨rfl, hb⟩
                  try simp only [Act.put, List.setIfInBounds_toArray, List.set_cons_zero, List.set_cons_succ]
                  refine wpAnyU_take (i := 22) (oi := { dst := some 151, op := Op.unOp UnOp.not 4 (Operand.tmp 150), type := 4, pos := "more.go:32", after := #[{ on := 21, ground := Ground.data }, { on := 8, ground := Ground.guard }], guard := some (8, true) }) (v := (.bool false)) rfl (by kernel_rfl) (by kernel_rfl) (by kernel_rfl) (by kernel_rfl) (by kernel_rfl) (fun _ _ _ h => h) (BL.cls wr) ?_ ?_
                  · refine Or.inl ⟨rfl, fun w hSw => ?_⟩
                    exact EffR.same (by go_simp)
                  try simp only [Act.put, List.setIfInBounds_toArray, List.set_cons_zero, List.set_cons_succ]
                  refine wpAnyU_take (i := 23) (oi := { dst := some 152, op := Op.pick (Operand.tmp 137) (Operand.tmp 151) (Operand.const (Value.bool false)), type := 4, pos := "more.go:32", after := #[{ on := 8, ground := Ground.data }, { on := 22, ground := Ground.data }], guard := none }) (v := (.bool false)) rfl (by kernel_rfl) (by kernel_rfl) (by kernel_rfl) (by kernel_rfl) (by kernel_rfl) (fun _ _ _ h => h) (BL.cls wr) ?_ ?_
                  · refine Or.inl ⟨rfl, fun w hSw => ?_⟩
                    exact EffR.same (by go_simp)
                  try simp only [Act.put, List.setIfInBounds_toArray, List.set_cons_zero, List.set_cons_succ]
                  refine wpAnyU_done (by kernel_rfl) (fun w1 hb1 => ?_) _
                  clear hj1
                  have HTn := Lib.hid (HTi.out.below hb1)
                  have HRn := Lib.hid (HRi.out.below hb1)
                  have H2n := Lib.hid (H2i.out.mono hb1)
                  have H1n := Lib.hid (H1i.out.mono hb1)
                  have HBn := Lib.hid (bgoS HBi.out hb1)
                  clear hb1
                  go_wp2_with fail
                  exact ⟨⟨i + 1, by omega, by push_cast; rfl, HTn.out, HRn.out, H2n.out, H1n.out, HBn.out⟩, by simp [intOf]; omega⟩
              · obtain rfl : i = nM := by omega
                have hd0 := HRi.out.cell (j := 0) rfl
                go_wp2_with fail
                refine (wakes11_any wr).mono ?_
                rintro e wz ⟨rfl, hb⟩
                go_wp2_with fail
                go_ret
                exact ⟨rfl, bgo HBi.out hb HBi.out.size⟩
          · have HWB : Hid (wB st 1 3 = false) := by show _ = _; unfold wB; exact decide_eq_false (fun h => hp2 h.2)
            have HB := HBL
            clear HBL
            have HRW0 := HRW
            have HBR : Hid (Below wc.heap.size wc wc) := Below.refl _ _
            obtain ⟨X, hX⟩ : ∃ X, X = stateR R who st := ⟨_, rfl⟩
            have tl := Put_any wc _ _ _ R who st HRW.out (chkR_few HGD.out)
            rw [← hX] at tl
            obtain ⟨xo, hxo⟩ : ∃ x, x = fdX MbT.no mZ who R.M := ⟨_, rfl⟩
            have hx1 : X = (3, .nil) := by rw [hX]; unfold stateR; rw [if_neg (by rw [HGD.out]; decide), if_neg (by rw [hbt]; decide), if_pos HWB.out]
            subst hx1
            clear hX
            have HXO := Lib.hid hxo
            clear hxo
            have HBB : Hid (true = hasB MbT.no who R.M) := hbt.symm
            have HSZr : Hid ((Try.prog.info? 26).map (·.size) = some (#[.slice aM nM cM, .slice aI nI cI, .slice aA nA cA] : Array Value).size) := by show _ = _; rw [rol_sz]; rfl
            have HONr : Hid ((#[.slice aM nM cM, .slice aI nI cI, .slice aA nA cA] : Array Value).all (·.oneCell') = true) := by show _ = true; simp [Value.oneCell']
            have HRBx : Hid (wc.heap[gr]? = some (.cells #[.slice aM nM cM, .slice aI nI cI, .slice aA nA cA] 26 (0, 0))) := HRB.out
            go_wp2_with (first
              | (refine wpList_load_row rfl 26 (.tmp 7) rfl gr rfl 26 #[.slice aM nM cM, .slice aI nI cI, .slice aA nA cA] (0, 0) _ HRBx.out Try.underlying26 rfl HSZr.out ?_)
              | fail)
            refine tl.mono ?_
            clear tl HRBx
            rintro e w3 ⟨aM2, nM2, cM2, aI2, nI2, cI2, aA2, nA2, cA2, rfl, ho, hb⟩
            have HOT := Lib.hid ho
            clear ho
            have HRBn := Lib.hid (HRB.out.below hb)
            clear HRB
            have HRB := HRBn
            clear HRBn
            have HRWn := Lib.hid (HRW.out.mono hb)
            clear HRW
            have HRW := HRWn
            clear HRWn
            have HBn := Lib.hid (bgo HB.out hb HB.out.size)
            clear HB
            have HB := HBn
            clear HBn
            have HBRn := Lib.hid (bgo HBR.out hb HBR.out.size)
            clear HBR
            have HBR := HBRn
            clear HBRn
            clear hb
            have HSZk1 : Hid ((Try.prog.info? 26).map (·.size) = some (#[.slice aM2 nM2 cM2, .slice aI2 nI2 cI2, .slice aA2 nA2 cA2] : Array Value).size) := by show _ = _; rw [rol_sz]; rfl
            have HONk1 : Hid ((#[.slice aM2 nM2 cM2, .slice aI2 nI2 cI2, .slice aA2 nA2 cA2] : Array Value).all (·.oneCell') = true) := by show _ = true; simp [Value.oneCell']
            go_upto_region 11 with (first
              | (refine wpList_store_row rfl 26 (.tmp 11) (.tmp 49) rfl w3.heap.size #[.slice aM2 nM2 cM2, .slice aI2 nI2 cI2, .slice aA2 nA2 cA2] rfl rfl 26 #[.slice none 0 0, .slice none 0 0, .slice none 0 0] (heap_alloc_new _ _) HSZk1.out rfl HONk1.out ?_)
              | fail)
            have hbsk1 : Below w3.heap.size w3 ((w3.alloc (.cells #[.slice none 0 0, .slice none 0 0, .slice none 0 0] 26)).setRow w3.heap.size #[.slice aM2 nM2 cM2, .slice aI2 nI2 cI2, .slice aA2 nA2 cA2]) := ((Below.refl _ _).alloc (Nat.le_refl _) _).trans (setRow_below (Nat.le_refl _) _)
            have hxk1 : HT ((w3.alloc (.cells #[.slice none 0 0, .slice none 0 0, .slice none 0 0] 26)).setRow w3.heap.size #[.slice aM2 nM2 cM2, .slice aI2 nI2 cI2, .slice aA2 nA2 cA2]) w3.heap.size 26 [.slice aM2 nM2 cM2, .slice aI2 nI2 cI2, .slice aA2 nA2 cA2] := setRow_heap _ _ _ _ _ _ (heap_alloc_new _ _)
            have hbwk1 := bgo HB.out hbsk1 (Below.size HB.out)
            obtain ⟨Wk1, hWk1⟩ : ∃ zz, zz = ((w3.alloc (.cells #[.slice none 0 0, .slice none 0 0, .slice none 0 0] 26)).setRow w3.heap.size #[.slice aM2 nM2 cM2, .slice aI2 nI2 cI2, .slice aA2 nA2 cA2]) := ⟨_, rfl⟩
            rw [← hWk1] at hbsk1 hxk1 hbwk1 ⊢
            obtain ⟨gxk1, hgk1⟩ : ∃ zz, zz = w3.heap.size := ⟨_, rfl⟩
            rw [← hgk1] at hxk1 ⊢
            have HGEk1 : Hid (∀ m, m ≤ w3.heap.size → m ≤ gxk1) := fun m h => by omega
            have HXk1 := Lib.hid hxk1
            have HBWk1 := Lib.hid hbwk1
            have HBSk1 := Lib.hid hbsk1
            clear hWk1 hxk1 hbwk1 hbsk1 hgk1 HONk1
            obtain ⟨gt, hgq⟩ : ∃ g, g = gxk1 := ⟨_, rfl⟩
            rw [← hgq] at HXk1 HGEk1 ⊢
            have HGgt : Hid (W.heap.size ≤ gt) := HGEk1.out _ HB.out.size
            clear hgq HBWk1 HGEk1
            have HRBn := Lib.hid (HRB.out.below HBSk1.out)
            clear HRB
            have HRB := HRBn
            clear HRBn
            have HRWn := Lib.hid (HRW.out.mono HBSk1.out)
            clear HRW
            have HRW := HRWn
            clear HRWn
            have HOTn := Lib.hid (HOT.out.below HBSk1.out)
            clear HOT
            have HOT := HOTn
            clear HOTn
            have HBn := Lib.hid (bgo HB.out HBSk1.out HB.out.size)
            clear HB
            have HB := HBn
            clear HBn
            have HBRn := Lib.hid (bgo HBR.out HBSk1.out HBR.out.size)
            clear HBR
            have HBR := HBRn
            clear HBRn
            clear HBSk1
            have HTB := HXk1
            clear HXk1 HSZk1
            have HRBx : Hid (Wk1.heap[gr]? = some (.cells #[.slice aM nM cM, .slice aI nI cI, .slice aA nA cA] 26 (0, 0))) := HRB.out
            go_wp2_with (first
              | (refine wpList_load_row rfl 26 (.tmp 7) rfl gr rfl 26 #[.slice aM nM cM, .slice aI nI cI, .slice aA nA cA] (0, 0) _ HRBx.out Try.underlying26 rfl HSZr.out ?_)
              | fail)
            refine (Member_any _ _ _ _ R.M who xo true HRW.out.1 HXO.out HBB.out).mono ?_
            clear HRBx
            rintro e w4 ⟨rfl, hb⟩
            have HRBn := Lib.hid (HRB.out.below hb)
            clear HRB
            have HRB := HRBn
            clear HRBn
            have HRWn := Lib.hid (HRW.out.mono hb)
            clear HRW
            have HRW := HRWn
            clear HRWn
            have HOTn := Lib.hid (HOT.out.below hb)
            clear HOT
            have HOT := HOTn
            clear HOTn
            have HTBn := Lib.hid (HTB.out.below hb)
            clear HTB
            have HTB := HTBn
            clear HTBn
            have HBn := Lib.hid (bgo HB.out hb HB.out.size)
            clear HB
            have HB := HBn
            clear HBn
            have HBRn := Lib.hid (bgo HBR.out hb HBR.out.size)
            clear HBR
            have HBR := HBRn
            clear HBRn
            clear hb
            have HSZk2 : Hid ((Try.prog.info? 33).map (·.size) = some (#[.int .i64 xo.no, .int .i64 xo.state, .int .i64 xo.need] : Array Value).size) := by show _ = _; rw [mem_sz]; rfl
            have HONk2 : Hid ((#[.int .i64 xo.no, .int .i64 xo.state, .int .i64 xo.need] : Array Value).all (·.oneCell') = true) := by show _ = true; simp [Value.oneCell']
            go_upto_region 12 with (first
              | (refine wpList_store_row rfl 33 (.tmp 13) (.tmp 55) rfl w4.heap.size #[.int .i64 xo.no, .int .i64 xo.state, .int .i64 xo.need] rfl rfl 33 #[.int .i64 0, .int .i64 0, .int .i64 0] (heap_alloc_new _ _) HSZk2.out rfl HONk2.out ?_)
              | fail)
            have hbsk2 : Below w4.heap.size w4 ((w4.alloc (.cells #[.int .i64 0, .int .i64 0, .int .i64 0] 33)).setRow w4.heap.size #[.int .i64 xo.no, .int .i64 xo.state, .int .i64 xo.need]) := ((Below.refl _ _).alloc (Nat.le_refl _) _).trans (setRow_below (Nat.le_refl _) _)
            have hxk2 : HT ((w4.alloc (.cells #[.int .i64 0, .int .i64 0, .int .i64 0] 33)).setRow w4.heap.size #[.int .i64 xo.no, .int .i64 xo.state, .int .i64 xo.need]) w4.heap.size 33 [.int .i64 xo.no, .int .i64 xo.state, .int .i64 xo.need] := setRow_heap _ _ _ _ _ _ (heap_alloc_new _ _)
            have hbwk2 := bgo HB.out hbsk2 (Below.size HB.out)
            obtain ⟨Wk2, hWk2⟩ : ∃ zz, zz = ((w4.alloc (.cells #[.int .i64 0, .int .i64 0, .int .i64 0] 33)).setRow w4.heap.size #[.int .i64 xo.no, .int .i64 xo.state, .int .i64 xo.need]) := ⟨_, rfl⟩
            rw [← hWk2] at hbsk2 hxk2 hbwk2 ⊢
            obtain ⟨gxk2, hgk2⟩ : ∃ zz, zz = w4.heap.size := ⟨_, rfl⟩
            rw [← hgk2] at hxk2 ⊢
            have HGEk2 : Hid (∀ m, m ≤ w4.heap.size → m ≤ gxk2) := fun m h => by omega
            have HXk2 := Lib.hid hxk2
            have HBWk2 := Lib.hid hbwk2
            have HBSk2 := Lib.hid hbsk2
            clear hWk2 hxk2 hbwk2 hbsk2 hgk2 HONk2
            obtain ⟨gm, hgq⟩ : ∃ g, g = gxk2 := ⟨_, rfl⟩
            rw [← hgq] at HXk2 HGEk2 ⊢
            have HGgm : Hid (W.heap.size ≤ gm) := HGEk2.out _ HB.out.size
            have HLgtgm : Hid (gt < gm) := HGEk2.out (gt + 1) HTB.out.lt
            have HLgrgm : Hid (gr < gm) := HGEk2.out (gr + 1) HRB.out.lt
            have HNOT : Hid (∀ q, ((Value.slice aM2 nM2 cM2).ownBlock = some q ∨ (Value.slice aI2 nI2 cI2).ownBlock = some q ∨ (Value.slice aA2 nA2 cA2).ownBlock = some q) → q < gm) := fun q hq => HGEk2.out (q + 1) (by rcases hq with hq | hq | hq; (have := OwnR.lt HOT.out.1 q hq; omega); (have := OwnR.lt HOT.out.2.1 q hq; omega); (have := OwnR.lt HOT.out.2.2 q hq; omega))
            have HWG : Hid (wc.heap.size ≤ gm) := HGEk2.out _ HBR.out.size
            clear hgq HBWk2 HGEk2
            have HRBn := Lib.hid (HRB.out.below HBSk2.out)
            clear HRB
            have HRB := HRBn
            clear HRBn
            have HRWn := Lib.hid (HRW.out.mono HBSk2.out)
            clear HRW
            have HRW := HRWn
            clear HRWn
            have HOTn := Lib.hid (HOT.out.below HBSk2.out)
            clear HOT
            have HOT := HOTn
            clear HOTn
            have HTBn := Lib.hid (HTB.out.below HBSk2.out)
            clear HTB
            have HTB := HTBn
            clear HTBn
            have HBn := Lib.hid (bgo HB.out HBSk2.out HB.out.size)
            clear HB
            have HB := HBn
            clear HBn
            have HBRn := Lib.hid (bgo HBR.out HBSk2.out HBR.out.size)
            clear HBR
            have HBR := HBRn
            clear HBRn
            clear HBSk2
            have HMB := HXk2
            clear HXk2 HSZk2
            go_wp2_with fail
            refine (wakes11_any Wk2).mono ?_
            rintro e wz ⟨rfl, hb⟩
            go_wp2_with fail
            go_ret
            exact ⟨rfl, bgo HB.out hb HB.out.size⟩
        · have HWB : Hid (wB st 1 3 = false) := by show _ = _; unfold wB; exact decide_eq_false (fun h => hp1 h.1)
          have HB := HBL
          clear HBL
          have HRW0 := HRW
          have HBR : Hid (Below wc.heap.size wc wc) := Below.refl _ _
          obtain ⟨X, hX⟩ : ∃ X, X = stateR R who st := ⟨_, rfl⟩
          have tl := Put_any wc _ _ _ R who st HRW.out (chkR_few HGD.out)
          rw [← hX] at tl
          obtain ⟨xo, hxo⟩ : ∃ x, x = fdX MbT.no mZ who R.M := ⟨_, rfl⟩
          have hx1 : X = (3, .nil) := by rw [hX]; unfold stateR; rw [if_neg (by rw [HGD.out]; decide), if_neg (by rw [hbt]; decide), if_pos HWB.out]
          subst hx1
          clear hX
          have HXO := Lib.hid hxo
          clear hxo
          have HBB : Hid (true = hasB MbT.no who R.M) := hbt.symm
          have HSZr : Hid ((Try.prog.info? 26).map (·.size) = some (#[.slice aM nM cM, .slice aI nI cI, .slice aA nA cA] : Array Value).size) := by show _ = _; rw [rol_sz]; rfl
          have HONr : Hid ((#[.slice aM nM cM, .slice aI nI cI, .slice aA nA cA] : Array Value).all (·.oneCell') = true) := by show _ = true; simp [Value.oneCell']
          have HRBx : Hid (wc.heap[gr]? = some (.cells #[.slice aM nM cM, .slice aI nI cI, .slice aA nA cA] 26 (0, 0))) := HRB.out
          go_wp2_with (first
            | (refine wpList_load_row rfl 26 (.tmp 7) rfl gr rfl 26 #[.slice aM nM cM, .slice aI nI cI, .slice aA nA cA] (0, 0) _ HRBx.out Try.underlying26 rfl HSZr.out ?_)
            | fail)
          refine tl.mono ?_
          clear tl HRBx
          rintro e w3 ⟨aM2, nM2, cM2, aI2, nI2, cI2, aA2, nA2, cA2, rfl, ho, hb⟩
          have HOT := Lib.hid ho
          clear ho
          have HRBn := Lib.hid (HRB.out.below hb)
          clear HRB
          have HRB := HRBn
          clear HRBn
          have HRWn := Lib.hid (HRW.out.mono hb)
          clear HRW
          have HRW := HRWn
          clear HRWn
          have HBn := Lib.hid (bgo HB.out hb HB.out.size)
          clear HB
          have HB := HBn
          clear HBn
          have HBRn := Lib.hid (bgo HBR.out hb HBR.out.size)
          clear HBR
          have HBR := HBRn
          clear HBRn
          clear hb
          have HSZk1 : Hid ((Try.prog.info? 26).map (·.size) = some (#[.slice aM2 nM2 cM2, .slice aI2 nI2 cI2, .slice aA2 nA2 cA2] : Array Value).size) := by show _ = _; rw [rol_sz]; rfl
          have HONk1 : Hid ((#[.slice aM2 nM2 cM2, .slice aI2 nI2 cI2, .slice aA2 nA2 cA2] : Array Value).all (·.oneCell') = true) := by show _ = true; simp [Value.oneCell']
          go_upto_region 11 with (first
            | (refine wpList_store_row rfl 26 (.tmp 11) (.tmp 49) rfl w3.heap.size #[.slice aM2 nM2 cM2, .slice aI2 nI2 cI2, .slice aA2 nA2 cA2] rfl rfl 26 #[.slice none 0 0, .slice none 0 0, .slice none 0 0] (heap_alloc_new _ _) HSZk1.out rfl HONk1.out ?_)
            | fail)
          have hbsk1 : Below w3.heap.size w3 ((w3.alloc (.cells #[.slice none 0 0, .slice none 0 0, .slice none 0 0] 26)).setRow w3.heap.size #[.slice aM2 nM2 cM2, .slice aI2 nI2 cI2, .slice aA2 nA2 cA2]) := ((Below.refl _ _).alloc (Nat.le_refl _) _).trans (setRow_below (Nat.le_refl _) _)
          have hxk1 : HT ((w3.alloc (.cells #[.slice none 0 0, .slice none 0 0, .slice none 0 0] 26)).setRow w3.heap.size #[.slice aM2 nM2 cM2, .slice aI2 nI2 cI2, .slice aA2 nA2 cA2]) w3.heap.size 26 [.slice aM2 nM2 cM2, .slice aI2 nI2 cI2, .slice aA2 nA2 cA2] := setRow_heap _ _ _ _ _ _ (heap_alloc_new _ _)
          have hbwk1 := bgo HB.out hbsk1 (Below.size HB.out)
          obtain ⟨Wk1, hWk1⟩ : ∃ zz, zz = ((w3.alloc (.cells #[.slice none 0 0, .slice none 0 0, .slice none 0 0] 26)).setRow w3.heap.size #[.slice aM2 nM2 cM2, .slice aI2 nI2 cI2, .slice aA2 nA2 cA2]) := ⟨_, rfl⟩
          rw [← hWk1] at hbsk1 hxk1 hbwk1 ⊢
          obtain ⟨gxk1, hgk1⟩ : ∃ zz, zz = w3.heap.size := ⟨_, rfl⟩
          rw [← hgk1] at hxk1 ⊢
          have HGEk1 : Hid (∀ m, m ≤ w3.heap.size → m ≤ gxk1) := fun m h => by omega
          have HXk1 := Lib.hid hxk1
          have HBWk1 := Lib.hid hbwk1
          have HBSk1 := Lib.hid hbsk1
          clear hWk1 hxk1 hbwk1 hbsk1 hgk1 HONk1
          obtain ⟨gt, hgq⟩ : ∃ g, g = gxk1 := ⟨_, rfl⟩
          rw [← hgq] at HXk1 HGEk1 ⊢
          have HGgt : Hid (W.heap.size ≤ gt) := HGEk1.out _ HB.out.size
          clear hgq HBWk1 HGEk1
          have HRBn := Lib.hid (HRB.out.below HBSk1.out)
          clear HRB
          have HRB := HRBn
          clear HRBn
          have HRWn := Lib.hid (HRW.out.mono HBSk1.out)
          clear HRW
          have HRW := HRWn
          clear HRWn
          have HOTn := Lib.hid (HOT.out.below HBSk1.out)
          clear HOT
          have HOT := HOTn
          clear HOTn
          have HBn := Lib.hid (bgo HB.out HBSk1.out HB.out.size)
          clear HB
          have HB := HBn
          clear HBn
          have HBRn := Lib.hid (bgo HBR.out HBSk1.out HBR.out.size)
          clear HBR
          have HBR := HBRn
          clear HBRn
          clear HBSk1
          have HTB := HXk1
          clear HXk1 HSZk1
          have HRBx : Hid (Wk1.heap[gr]? = some (.cells #[.slice aM nM cM, .slice aI nI cI, .slice aA nA cA] 26 (0, 0))) := HRB.out
          go_wp2_with (first
            | (refine wpList_load_row rfl 26 (.tmp 7) rfl gr rfl 26 #[.slice aM nM cM, .slice aI nI cI, .slice aA nA cA] (0, 0) _ HRBx.out Try.underlying26 rfl HSZr.out ?_)
            | fail)
          refine (Member_any _ _ _ _ R.M who xo true HRW.out.1 HXO.out HBB.out).mono ?_
          clear HRBx
          rintro e w4 ⟨rfl, hb⟩
          have HRBn := Lib.hid (HRB.out.below hb)
          clear HRB
          have HRB := HRBn
          clear HRBn
          have HRWn := Lib.hid (HRW.out.mono hb)
          clear HRW
          have HRW := HRWn
          clear HRWn
          have HOTn := Lib.hid (HOT.out.below hb)
          clear HOT
          have HOT := HOTn
          clear HOTn
          have HTBn := Lib.hid (HTB.out.below hb)
          clear HTB
          have HTB := HTBn
          clear HTBn
          have HBn := Lib.hid (bgo HB.out hb HB.out.size)
          clear HB
          have HB := HBn
          clear HBn
          have HBRn := Lib.hid (bgo HBR.out hb HBR.out.size)
          clear HBR
          have HBR := HBRn
          clear HBRn
          clear hb
          have HSZk2 : Hid ((Try.prog.info? 33).map (·.size) = some (#[.int .i64 xo.no, .int .i64 xo.state, .int .i64 xo.need] : Array Value).size) := by show _ = _; rw [mem_sz]; rfl
          have HONk2 : Hid ((#[.int .i64 xo.no, .int .i64 xo.state, .int .i64 xo.need] : Array Value).all (·.oneCell') = true) := by show _ = true; simp [Value.oneCell']
          go_upto_region 12 with (first
            | (refine wpList_store_row rfl 33 (.tmp 13) (.tmp 55) rfl w4.heap.size #[.int .i64 xo.no, .int .i64 xo.state, .int .i64 xo.need] rfl rfl 33 #[.int .i64 0, .int .i64 0, .int .i64 0] (heap_alloc_new _ _) HSZk2.out rfl HONk2.out ?_)
            | fail)
          have hbsk2 : Below w4.heap.size w4 ((w4.alloc (.cells #[.int .i64 0, .int .i64 0, .int .i64 0] 33)).setRow w4.heap.size #[.int .i64 xo.no, .int .i64 xo.state, .int .i64 xo.need]) := ((Below.refl _ _).alloc (Nat.le_refl _) _).trans (setRow_below (Nat.le_refl _) _)
          have hxk2 : HT ((w4.alloc (.cells #[.int .i64 0, .int .i64 0, .int .i64 0] 33)).setRow w4.heap.size #[.int .i64 xo.no, .int .i64 xo.state, .int .i64 xo.need]) w4.heap.size 33 [.int .i64 xo.no, .int .i64 xo.state, .int .i64 xo.need] := setRow_heap _ _ _ _ _ _ (heap_alloc_new _ _)
          have hbwk2 := bgo HB.out hbsk2 (Below.size HB.out)
          obtain ⟨Wk2, hWk2⟩ : ∃ zz, zz = ((w4.alloc (.cells #[.int .i64 0, .int .i64 0, .int .i64 0] 33)).setRow w4.heap.size #[.int .i64 xo.no, .int .i64 xo.state, .int .i64 xo.need]) := ⟨_, rfl⟩
          rw [← hWk2] at hbsk2 hxk2 hbwk2 ⊢
          obtain ⟨gxk2, hgk2⟩ : ∃ zz, zz = w4.heap.size := ⟨_, rfl⟩
          rw [← hgk2] at hxk2 ⊢
          have HGEk2 : Hid (∀ m, m ≤ w4.heap.size → m ≤ gxk2) := fun m h => by omega
          have HXk2 := Lib.hid hxk2
          have HBWk2 := Lib.hid hbwk2
          have HBSk2 := Lib.hid hbsk2
          clear hWk2 hxk2 hbwk2 hbsk2 hgk2 HONk2
          obtain ⟨gm, hgq⟩ : ∃ g, g = gxk2 := ⟨_, rfl⟩
          rw [← hgq] at HXk2 HGEk2 ⊢
          have HGgm : Hid (W.heap.size ≤ gm) := HGEk2.out _ HB.out.size
          have HLgtgm : Hid (gt < gm) := HGEk2.out (gt + 1) HTB.out.lt
          have HLgrgm : Hid (gr < gm) := HGEk2.out (gr + 1) HRB.out.lt
          have HNOT : Hid (∀ q, ((Value.slice aM2 nM2 cM2).ownBlock = some q ∨ (Value.slice aI2 nI2 cI2).ownBlock = some q ∨ (Value.slice aA2 nA2 cA2).ownBlock = some q) → q < gm) := fun q hq => HGEk2.out (q + 1) (by rcases hq with hq | hq | hq; (have := OwnR.lt HOT.out.1 q hq; omega); (have := OwnR.lt HOT.out.2.1 q hq; omega); (have := OwnR.lt HOT.out.2.2 q hq; omega))
          have HWG : Hid (wc.heap.size ≤ gm) := HGEk2.out _ HBR.out.size
          clear hgq HBWk2 HGEk2
          have HRBn := Lib.hid (HRB.out.below HBSk2.out)
          clear HRB
          have HRB := HRBn
          clear HRBn
          have HRWn := Lib.hid (HRW.out.mono HBSk2.out)
          clear HRW
          have HRW := HRWn
          clear HRWn
          have HOTn := Lib.hid (HOT.out.below HBSk2.out)
          clear HOT
          have HOT := HOTn
          clear HOTn
          have HTBn := Lib.hid (HTB.out.below HBSk2.out)
          clear HTB
          have HTB := HTBn
          clear HTBn
          have HBn := Lib.hid (bgo HB.out HBSk2.out HB.out.size)
          clear HB
          have HB := HBn
          clear HBn
          have HBRn := Lib.hid (bgo HBR.out HBSk2.out HBR.out.size)
          clear HBR
          have HBR := HBRn
          clear HBRn
          clear HBSk2
          have HMB := HXk2
          clear HXk2 HSZk2
          go_wp2_with fail
          refine (wakes11_any Wk2).mono ?_
          rintro e wz ⟨rfl, hb⟩
          go_wp2_with fail
          go_ret
          exact ⟨rfl, bgo HB.out hb HB.out.size⟩
      · have hbf : hasB MbT.no who R.M = false := by simpa using hbt
        have HB := HBL
        clear HBL
        have HRW0 := HRW
        have HBR : Hid (Below wc.heap.size wc wc) := Below.refl _ _
        obtain ⟨X, hX⟩ : ∃ X, X = stateR R who st := ⟨_, rfl⟩
        have tl := Put_any wc _ _ _ R who st HRW.out (chkR_few HGD.out)
        rw [← hX] at tl
        obtain ⟨xo, hxo⟩ : ∃ x, x = fdX MbT.no mZ who R.M := ⟨_, rfl⟩
        have hx1 : X = (10, .nil) := by rw [hX]; unfold stateR; rw [if_neg (by rw [HGD.out]; decide), if_pos hbf]
        subst hx1
        clear hX
        have HXO := Lib.hid hxo
        clear hxo
        have HBB : Hid (false = hasB MbT.no who R.M) := hbf.symm
        have HSZr : Hid ((Try.prog.info? 26).map (·.size) = some (#[.slice aM nM cM, .slice aI nI cI, .slice aA nA cA] : Array Value).size) := by show _ = _; rw [rol_sz]; rfl
        have HONr : Hid ((#[.slice aM nM cM, .slice aI nI cI, .slice aA nA cA] : Array Value).all (·.oneCell') = true) := by show _ = true; simp [Value.oneCell']
        have HRBx : Hid (wc.heap[gr]? = some (.cells #[.slice aM nM cM, .slice aI nI cI, .slice aA nA cA] 26 (0, 0))) := HRB.out
        go_wp2_with (first
          | (refine wpList_load_row rfl 26 (.tmp 7) rfl gr rfl 26 #[.slice aM nM cM, .slice aI nI cI, .slice aA nA cA] (0, 0) _ HRBx.out Try.underlying26 rfl HSZr.out ?_)
          | fail)
        refine tl.mono ?_
        clear tl HRBx
        rintro e w3 ⟨aM2, nM2, cM2, aI2, nI2, cI2, aA2, nA2, cA2, rfl, ho, hb⟩
        have HOT := Lib.hid ho
        clear ho
        have HRBn := Lib.hid (HRB.out.below hb)
        clear HRB
        have HRB := HRBn
        clear HRBn
        have HRWn := Lib.hid (HRW.out.mono hb)
        clear HRW
        have HRW := HRWn
        clear HRWn
        have HBn := Lib.hid (bgo HB.out hb HB.out.size)
        clear HB
        have HB := HBn
        clear HBn
        have HBRn := Lib.hid (bgo HBR.out hb HBR.out.size)
        clear HBR
        have HBR := HBRn
        clear HBRn
        clear hb
        have HSZk1 : Hid ((Try.prog.info? 26).map (·.size) = some (#[.slice aM2 nM2 cM2, .slice aI2 nI2 cI2, .slice aA2 nA2 cA2] : Array Value).size) := by show _ = _; rw [rol_sz]; rfl
        have HONk1 : Hid ((#[.slice aM2 nM2 cM2, .slice aI2 nI2 cI2, .slice aA2 nA2 cA2] : Array Value).all (·.oneCell') = true) := by show _ = true; simp [Value.oneCell']
        go_upto_region 11 with (first
          | (refine wpList_store_row rfl 26 (.tmp 11) (.tmp 49) rfl w3.heap.size #[.slice aM2 nM2 cM2, .slice aI2 nI2 cI2, .slice aA2 nA2 cA2] rfl rfl 26 #[.slice none 0 0, .slice none 0 0, .slice none 0 0] (heap_alloc_new _ _) HSZk1.out rfl HONk1.out ?_)
          | fail)
        have hbsk1 : Below w3.heap.size w3 ((w3.alloc (.cells #[.slice none 0 0, .slice none 0 0, .slice none 0 0] 26)).setRow w3.heap.size #[.slice aM2 nM2 cM2, .slice aI2 nI2 cI2, .slice aA2 nA2 cA2]) := ((Below.refl _ _).alloc (Nat.le_refl _) _).trans (setRow_below (Nat.le_refl _) _)
        have hxk1 : HT ((w3.alloc (.cells #[.slice none 0 0, .slice none 0 0, .slice none 0 0] 26)).setRow w3.heap.size #[.slice aM2 nM2 cM2, .slice aI2 nI2 cI2, .slice aA2 nA2 cA2]) w3.heap.size 26 [.slice aM2 nM2 cM2, .slice aI2 nI2 cI2, .slice aA2 nA2 cA2] := setRow_heap _ _ _ _ _ _ (heap_alloc_new _ _)
        have hbwk1 := bgo HB.out hbsk1 (Below.size HB.out)
        obtain ⟨Wk1, hWk1⟩ : ∃ zz, zz = ((w3.alloc (.cells #[.slice none 0 0, .slice none 0 0, .slice none 0 0] 26)).setRow w3.heap.size #[.slice aM2 nM2 cM2, .slice aI2 nI2 cI2, .slice aA2 nA2 cA2]) := ⟨_, rfl⟩
        rw [← hWk1] at hbsk1 hxk1 hbwk1 ⊢
        obtain ⟨gxk1, hgk1⟩ : ∃ zz, zz = w3.heap.size := ⟨_, rfl⟩
        rw [← hgk1] at hxk1 ⊢
        have HGEk1 : Hid (∀ m, m ≤ w3.heap.size → m ≤ gxk1) := fun m h => by omega
        have HXk1 := Lib.hid hxk1
        have HBWk1 := Lib.hid hbwk1
        have HBSk1 := Lib.hid hbsk1
        clear hWk1 hxk1 hbwk1 hbsk1 hgk1 HONk1
        obtain ⟨gt, hgq⟩ : ∃ g, g = gxk1 := ⟨_, rfl⟩
        rw [← hgq] at HXk1 HGEk1 ⊢
        have HGgt : Hid (W.heap.size ≤ gt) := HGEk1.out _ HB.out.size
        clear hgq HBWk1 HGEk1
        have HRBn := Lib.hid (HRB.out.below HBSk1.out)
        clear HRB
        have HRB := HRBn
        clear HRBn
        have HRWn := Lib.hid (HRW.out.mono HBSk1.out)
        clear HRW
        have HRW := HRWn
        clear HRWn
        have HOTn := Lib.hid (HOT.out.below HBSk1.out)
        clear HOT
        have HOT := HOTn
        clear HOTn
        have HBn := Lib.hid (bgo HB.out HBSk1.out HB.out.size)
        clear HB
        have HB := HBn
        clear HBn
        have HBRn := Lib.hid (bgo HBR.out HBSk1.out HBR.out.size)
        clear HBR
        have HBR := HBRn
        clear HBRn
        clear HBSk1
        have HTB := HXk1
        clear HXk1 HSZk1
        have HRBx : Hid (Wk1.heap[gr]? = some (.cells #[.slice aM nM cM, .slice aI nI cI, .slice aA nA cA] 26 (0, 0))) := HRB.out
        go_wp2_with (first
          | (refine wpList_load_row rfl 26 (.tmp 7) rfl gr rfl 26 #[.slice aM nM cM, .slice aI nI cI, .slice aA nA cA] (0, 0) _ HRBx.out Try.underlying26 rfl HSZr.out ?_)
          | fail)
        refine (Member_any _ _ _ _ R.M who xo false HRW.out.1 HXO.out HBB.out).mono ?_
        clear HRBx
        rintro e w4 ⟨rfl, hb⟩
        have HRBn := Lib.hid (HRB.out.below hb)
        clear HRB
        have HRB := HRBn
        clear HRBn
        have HRWn := Lib.hid (HRW.out.mono hb)
        clear HRW
        have HRW := HRWn
        clear HRWn
        have HOTn := Lib.hid (HOT.out.below hb)
        clear HOT
        have HOT := HOTn
        clear HOTn
        have HTBn := Lib.hid (HTB.out.below hb)
        clear HTB
        have HTB := HTBn
        clear HTBn
        have HBn := Lib.hid (bgo HB.out hb HB.out.size)
        clear HB
        have HB := HBn
        clear HBn
        have HBRn := Lib.hid (bgo HBR.out hb HBR.out.size)
        clear HBR
        have HBR := HBRn
        clear HBRn
        clear hb
        have HSZk2 : Hid ((Try.prog.info? 33).map (·.size) = some (#[.int .i64 xo.no, .int .i64 xo.state, .int .i64 xo.need] : Array Value).size) := by show _ = _; rw [mem_sz]; rfl
        have HONk2 : Hid ((#[.int .i64 xo.no, .int .i64 xo.state, .int .i64 xo.need] : Array Value).all (·.oneCell') = true) := by show _ = true; simp [Value.oneCell']
        go_upto_region 12 with (first
          | (refine wpList_store_row rfl 33 (.tmp 13) (.tmp 55) rfl w4.heap.size #[.int .i64 xo.no, .int .i64 xo.state, .int .i64 xo.need] rfl rfl 33 #[.int .i64 0, .int .i64 0, .int .i64 0] (heap_alloc_new _ _) HSZk2.out rfl HONk2.out ?_)
          | fail)
        have hbsk2 : Below w4.heap.size w4 ((w4.alloc (.cells #[.int .i64 0, .int .i64 0, .int .i64 0] 33)).setRow w4.heap.size #[.int .i64 xo.no, .int .i64 xo.state, .int .i64 xo.need]) := ((Below.refl _ _).alloc (Nat.le_refl _) _).trans (setRow_below (Nat.le_refl _) _)
        have hxk2 : HT ((w4.alloc (.cells #[.int .i64 0, .int .i64 0, .int .i64 0] 33)).setRow w4.heap.size #[.int .i64 xo.no, .int .i64 xo.state, .int .i64 xo.need]) w4.heap.size 33 [.int .i64 xo.no, .int .i64 xo.state, .int .i64 xo.need] := setRow_heap _ _ _ _ _ _ (heap_alloc_new _ _)
        have hbwk2 := bgo HB.out hbsk2 (Below.size HB.out)
        obtain ⟨Wk2, hWk2⟩ : ∃ zz, zz = ((w4.alloc (.cells #[.int .i64 0, .int .i64 0, .int .i64 0] 33)).setRow w4.heap.size #[.int .i64 xo.no, .int .i64 xo.state, .int .i64 xo.need]) := ⟨_, rfl⟩
        rw [← hWk2] at hbsk2 hxk2 hbwk2 ⊢
        obtain ⟨gxk2, hgk2⟩ : ∃ zz, zz = w4.heap.size := ⟨_, rfl⟩
        rw [← hgk2] at hxk2 ⊢
        have HGEk2 : Hid (∀ m, m ≤ w4.heap.size → m ≤ gxk2) := fun m h => by omega
        have HXk2 := Lib.hid hxk2
        have HBWk2 := Lib.hid hbwk2
        have HBSk2 := Lib.hid hbsk2
        clear hWk2 hxk2 hbwk2 hbsk2 hgk2 HONk2
        obtain ⟨gm, hgq⟩ : ∃ g, g = gxk2 := ⟨_, rfl⟩
        rw [← hgq] at HXk2 HGEk2 ⊢
        have HGgm : Hid (W.heap.size ≤ gm) := HGEk2.out _ HB.out.size
        have HLgtgm : Hid (gt < gm) := HGEk2.out (gt + 1) HTB.out.lt
        have HLgrgm : Hid (gr < gm) := HGEk2.out (gr + 1) HRB.out.lt
        have HNOT : Hid (∀ q, ((Value.slice aM2 nM2 cM2).ownBlock = some q ∨ (Value.slice aI2 nI2 cI2).ownBlock = some q ∨ (Value.slice aA2 nA2 cA2).ownBlock = some q) → q < gm) := fun q hq => HGEk2.out (q + 1) (by rcases hq with hq | hq | hq; (have := OwnR.lt HOT.out.1 q hq; omega); (have := OwnR.lt HOT.out.2.1 q hq; omega); (have := OwnR.lt HOT.out.2.2 q hq; omega))
        have HWG : Hid (wc.heap.size ≤ gm) := HGEk2.out _ HBR.out.size
        clear hgq HBWk2 HGEk2
        have HRBn := Lib.hid (HRB.out.below HBSk2.out)
        clear HRB
        have HRB := HRBn
        clear HRBn
        have HRWn := Lib.hid (HRW.out.mono HBSk2.out)
        clear HRW
        have HRW := HRWn
        clear HRWn
        have HOTn := Lib.hid (HOT.out.below HBSk2.out)
        clear HOT
        have HOT := HOTn
        clear HOTn
        have HTBn := Lib.hid (HTB.out.below HBSk2.out)
        clear HTB
        have HTB := HTBn
        clear HTBn
        have HBn := Lib.hid (bgo HB.out HBSk2.out HB.out.size)
        clear HB
        have HB := HBn
        clear HBn
        have HBRn := Lib.hid (bgo HBR.out HBSk2.out HBR.out.size)
        clear HBR
        have HBR := HBRn
        clear HBRn
        clear HBSk2
        have HMB := HXk2
        clear HXk2 HSZk2
        go_wp2_with fail
        refine (wakes11_any Wk2).mono ?_
        rintro e wz ⟨rfl, hb⟩
        go_wp2_with fail
        go_ret
        exact ⟨rfl, bgo HB.out hb HB.out.size⟩

end Cam
