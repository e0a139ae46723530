import Derived.Test.YtilbijekmmkiaaaRlP
import Derived.Test.YtilbijekmmkiaaaRlQ
/- ch. 11: wakes; RollSound: the walk. -/
namespace Cam
open Go Go.RowKit Go.Proofs

theorem wpList_load_row_w {P : Program} {ops : Array Oper} {rest : List Oper} {o : Oper} {a : Act} {w : World} {Q : Exit → Act → World → Prop} (hw : Region.wanted o (yielded ops a.tmps) = true) (ty : TypeId) (x : Operand) (ho : o.op = .load ty x)
    (g : Nat) (hx : a.eval x = .pointer (some ⟨g, 0, none⟩)) (t : TypeId) (cs : Array Value) (fr : Nat × Nat) (d : TypeDesc) (hg : w.heap[g]? = some (.cells cs t fr))
    (hu : P.underlying ty = some d) (hd : (match d with | .struct _ | .array _ _ => true | _ => false) = true) (hi : (P.info? ty).map (·.size) = some cs.size)
    (h : wpList P ops Q rest (a.put o.dst (.agg cs)) w) : wpList P ops Q (o :: rest) a w :=
  wpList_step fun K hK => by simp only [hw, if_true]; exact wp_load_row ty x ho g hx t cs fr d hg hu hd hi (hK _ _ h)
theorem OwnRoll.keptQ {S : Nat → Prop} {w w' : World} {base : Nat} {va vb vc : Value} {R : RollT} (h : OwnRoll w base va vb vc R) (hk : Kept S w w') (hS : ∀ k, (va.ownBlock = some k ∨ vb.ownBlock = some k ∨ vc.ownBlock = some k) → ¬ S k) : OwnRoll w' base va vb vc R :=
  ⟨OwnR.keptS h.1 hk (fun k e => hS k (.inl e)), OwnR.keptS h.2.1 hk (fun k e => hS k (.inr (.inl e))), OwnR.keptS h.2.2 hk (fun k e => hS k (.inr (.inr e)))⟩

theorem Rs.n {α : Type} {enc : α → List Value} {K : Nat} {w : World} {a : Option Addr} {n c : Nat} {L : List α} (h : Rs enc K w (.slice a n c) L) : n = L.length := by
  obtain ⟨a9, c9, e9, _⟩ := h.shape
  simp only [Value.slice.injEq] at e9
  exact e9.2.1
theorem few_nil : few RollT.nil := by unfold few RollT.nil; simp
theorem RollIn.nil (w : World) : RollIn w (.slice none 0 0) (.slice none 0 0) (.slice none 0 0) .nil := ⟨Rs.nil MbT.len _, Rs.nil InT.len _, Rs.nil AsT.len _⟩
theorem wake_plain : ∃ R1 : RollT, R1.M.length = 1 ∧ few R1 ∧ admitR .nil 3 100 = (0, R1) ∧ admitR R1 3 5 = (11, .nil) := by
  have hn := chkR_nil
  have h1 : admitR .nil 3 100 = (0, { RollT.nil with M := [⟨3, 1, 100⟩] }) := by
    unfold admitR
    rw [if_neg (by simp [hn]), if_neg (by decide), if_neg (by decide)]
    rfl
  have ha := admitR_ans hn 3 100
  rw [h1] at ha
  have hs := (ha.resolve_right (fun h => h.1 rfl)).2
  refine ⟨_, rfl, chkR_few hs.ok, h1, ?_⟩
  unfold admitR
  rw [if_neg (by simp [hs.ok]), if_neg (by decide), if_pos (by decide)]

set_option maxRecDepth 100000 in
set_option maxHeartbeats 1600000 in
theorem wakes11_any (w : World) : Calls Try.prog 30 #[] w fun e w' => e = .returned (.bool true) ∧ Below w.heap.size w w' := by
  obtain ⟨R1, hl1, hf1, e1, e2⟩ := wake_plain
  have HL1 := Lib.hid hl1
  have HF1 := Lib.hid hf1
  have HE2 := Lib.hid e2
  have a1 := Admit_any w (.slice none 0 0) (.slice none 0 0) (.slice none 0 0) .nil 3 100 (RollIn.nil w) few_nil
  rw [e1] at a1
  clear hl1 hf1 e1 e2
  go_enter Try.func30, Try.ntmps30
  go_wp2_with fail
  refine a1.mono ?_
  clear a1
  rintro e w1 ⟨aM, nM, cM, aI, nI, cI, aA, nA, cA, rfl, ho, hb⟩
  have HO := Lib.hid ho
  have HB := Lib.hid hb
  clear ho hb
  have HSZa : Hid ((Try.prog.info? 26).map (·.size) = some (#[.slice aM nM cM, .slice aI nI cI, .slice aA nA cA] : Array Value).size) := by show _ = _; rw [rol_sz]; rfl
  have HONa : Hid ((#[.slice aM nM cM, .slice aI nI cI, .slice aA nA cA] : Array Value).all (·.oneCell') = true) := by show _ = true; simp [Value.oneCell']
  go_upto_region 2 with (first
    | (refine wpList_store_row rfl 26 (.tmp 1) (.tmp 8) rfl w1.heap.size #[.slice aM nM cM, .slice aI nI cI, .slice aA nA cA] rfl rfl 26 #[.slice none 0 0, .slice none 0 0, .slice none 0 0] (heap_alloc_new _ _) HSZa.out rfl HONa.out ?_)
    | fail)
  have hbsa : Below w1.heap.size w1 ((w1.alloc (.cells #[.slice none 0 0, .slice none 0 0, .slice none 0 0] 26)).setRow w1.heap.size #[.slice aM nM cM, .slice aI nI cI, .slice aA nA cA]) := ((Below.refl _ _).alloc (Nat.le_refl _) _).trans (setRow_below (Nat.le_refl _) _)
  have hxa : HT ((w1.alloc (.cells #[.slice none 0 0, .slice none 0 0, .slice none 0 0] 26)).setRow w1.heap.size #[.slice aM nM cM, .slice aI nI cI, .slice aA nA cA]) w1.heap.size 26 [.slice aM nM cM, .slice aI nI cI, .slice aA nA cA] := setRow_heap _ _ _ _ _ _ (heap_alloc_new _ _)
  have hbwa := bgo HB.out hbsa (Below.size HB.out)
  obtain ⟨Wa, hWa⟩ : ∃ zz, zz = ((w1.alloc (.cells #[.slice none 0 0, .slice none 0 0, .slice none 0 0] 26)).setRow w1.heap.size #[.slice aM nM cM, .slice aI nI cI, .slice aA nA cA]) := ⟨_, rfl⟩
  rw [← hWa] at hbsa hxa hbwa ⊢
  obtain ⟨gxa, hga⟩ : ∃ zz, zz = w1.heap.size := ⟨_, rfl⟩
  rw [← hga] at hxa ⊢
  have HGEa : Hid (∀ m, m ≤ w1.heap.size → m ≤ gxa) := fun m h => by omega
  have HXa := Lib.hid hxa
  have HBWa := Lib.hid hbwa
  have HBSa := Lib.hid hbsa
  clear hWa hxa hbwa hbsa hga HONa
  have HO2 := Lib.hid (HO.out.below HBSa.out)
  have a2 := Admit_any Wa _ _ _ R1 3 5 HO2.out.in HF1.out
  rw [HE2.out] at a2
  have HXa1 : Hid (Wa.heap[gxa]? = some (.cells #[.slice aM nM cM, .slice aI nI cI, .slice aA nA cA] 26 (0, 0))) := HXa.out
  go_wp2_with (first
    | (refine wpList_load_row rfl 26 (.tmp 1) rfl gxa rfl 26 #[.slice aM nM cM, .slice aI nI cI, .slice aA nA cA] (0, 0) _ HXa1.out Try.underlying26 rfl HSZa.out ?_)
    | fail)
  refine a2.mono ?_
  clear a2
  rintro e w2 ⟨aM2, nM2, cM2, aI2, nI2, cI2, aA2, nA2, cA2, rfl, ho, hb⟩
  have HB2 := Lib.hid (bgo HBWa.out hb HBWa.out.size)
  have HX2 := Lib.hid (HXa.out.below hb)
  clear hb ho
  have HSZc : Hid ((Try.prog.info? 26).map (·.size) = some (#[.slice aM2 nM2 cM2, .slice aI2 nI2 cI2, .slice aA2 nA2 cA2] : Array Value).size) := by show _ = _; rw [rol_sz]; rfl
  have HONc : Hid ((#[.slice aM2 nM2 cM2, .slice aI2 nI2 cI2, .slice aA2 nA2 cA2] : Array Value).all (·.oneCell') = true) := by show _ = true; simp [Value.oneCell']
  go_upto_region 3 with (first
    | (refine wpList_store_row rfl 26 (.tmp 3) (.tmp 13) rfl w2.heap.size #[.slice aM2 nM2 cM2, .slice aI2 nI2 cI2, .slice aA2 nA2 cA2] rfl rfl 26 #[.slice none 0 0, .slice none 0 0, .slice none 0 0] (heap_alloc_new _ _) HSZc.out rfl HONc.out ?_)
    | fail)
  have hbsc : Below w2.heap.size w2 ((w2.alloc (.cells #[.slice none 0 0, .slice none 0 0, .slice none 0 0] 26)).setRow w2.heap.size #[.slice aM2 nM2 cM2, .slice aI2 nI2 cI2, .slice aA2 nA2 cA2]) := ((Below.refl _ _).alloc (Nat.le_refl _) _).trans (setRow_below (Nat.le_refl _) _)
  have hxc : HT ((w2.alloc (.cells #[.slice none 0 0, .slice none 0 0, .slice none 0 0] 26)).setRow w2.heap.size #[.slice aM2 nM2 cM2, .slice aI2 nI2 cI2, .slice aA2 nA2 cA2]) w2.heap.size 26 [.slice aM2 nM2 cM2, .slice aI2 nI2 cI2, .slice aA2 nA2 cA2] := setRow_heap _ _ _ _ _ _ (heap_alloc_new _ _)
  have hbwc := bgo HB2.out hbsc (Below.size HB2.out)
  obtain ⟨Wc, hWc⟩ : ∃ zz, zz = ((w2.alloc (.cells #[.slice none 0 0, .slice none 0 0, .slice none 0 0] 26)).setRow w2.heap.size #[.slice aM2 nM2 cM2, .slice aI2 nI2 cI2, .slice aA2 nA2 cA2]) := ⟨_, rfl⟩
  rw [← hWc] at hbsc hxc hbwc ⊢
  obtain ⟨gxc, hgc⟩ : ∃ zz, zz = w2.heap.size := ⟨_, rfl⟩
  rw [← hgc] at hxc ⊢
  have HGEc : Hid (∀ m, m ≤ w2.heap.size → m ≤ gxc) := fun m h => by omega
  have HXc := Lib.hid hxc
  have HBWc := Lib.hid hbwc
  have HBSc := Lib.hid hbsc
  clear hWc hxc hbwc hbsc hgc HONc
  have hlen : nM = 1 := by rw [HO.out.in.1.n, HL1.out]
  subst hlen
  have hc0 := (HX2.out.below HBSc.out).cell (j := 0) rfl
  go_wp2_with fail
  go_ret
  exact ⟨rfl, HBWc.out⟩

set_option maxRecDepth 100000 in
set_option maxHeartbeats 12800000 in
theorem RollSound_walk (W : World) (v0 : Value) (l0 : List AcT) (h : Rs AcT.vs 19 W v0 l0) :
    Calls Try.prog 5 #[v0] W fun e w' => e = .returned (.bool true) ∧ Below W.heap.size W w' := by
  obtain ⟨av0, cap, rfl, hcap, hm⟩ := h.shape
  obtain ⟨n, hn⟩ : ∃ n, n = l0.length := ⟨_, rfl⟩
  have HN := Lib.hid hn
  rw [← hn] at hcap h ⊢
  have H0 := Lib.hid h
  clear hn h
  by_cases hlong : 500 < n
  · go_enter Try.func5, Try.ntmps5
    go_wp2_with fail
    go_ret
    exact ⟨rfl, Below.refl _ _⟩
  · go_enter Try.func5, Try.ntmps5
    have HSZb : Hid ((Try.prog.info? 26).map (·.size) = some (#[.slice none 0 0, .slice none 0 0, .slice none 0 0] : Array Value).size) := by show _ = _; rw [rol_sz]; rfl
    have HONb : Hid ((#[.slice none 0 0, .slice none 0 0, .slice none 0 0] : Array Value).all (·.oneCell') = true) := by show _ = true; simp [Value.oneCell']
    go_upto_region 4 with (first
      | (refine wpList_store_row rfl 26 (.tmp 3) (.tmp 10) rfl W.heap.size #[.slice none 0 0, .slice none 0 0, .slice none 0 0] rfl rfl 26 #[.slice none 0 0, .slice none 0 0, .slice none 0 0] (heap_alloc_new _ _) HSZb.out rfl HONb.out ?_)
      | fail)
    have hbsb : Below W.heap.size W ((W.alloc (.cells #[.slice none 0 0, .slice none 0 0, .slice none 0 0] 26)).setRow W.heap.size #[.slice none 0 0, .slice none 0 0, .slice none 0 0]) := ((Below.refl _ _).alloc (Nat.le_refl _) _).trans (setRow_below (Nat.le_refl _) _)
    have hxb : HT ((W.alloc (.cells #[.slice none 0 0, .slice none 0 0, .slice none 0 0] 26)).setRow W.heap.size #[.slice none 0 0, .slice none 0 0, .slice none 0 0]) W.heap.size 26 [.slice none 0 0, .slice none 0 0, .slice none 0 0] := setRow_heap _ _ _ _ _ _ (heap_alloc_new _ _)
    have hbwb := bgo (Below.refl W.heap.size W) hbsb (Below.size (Below.refl W.heap.size W))
    obtain ⟨Wb, hWb⟩ : ∃ zz, zz = ((W.alloc (.cells #[.slice none 0 0, .slice none 0 0, .slice none 0 0] 26)).setRow W.heap.size #[.slice none 0 0, .slice none 0 0, .slice none 0 0]) := ⟨_, rfl⟩
    rw [← hWb] at hbsb hxb hbwb ⊢
    obtain ⟨gxb, hgb⟩ : ∃ zz, zz = W.heap.size := ⟨_, rfl⟩
    rw [← hgb] at hxb ⊢
    have HGEb : Hid (∀ m, m ≤ W.heap.size → m ≤ gxb) := fun m h => by omega
    have HXb := Lib.hid hxb
    have HBWb := Lib.hid hbwb
    have HBSb := Lib.hid hbsb
    clear hWb hxb hbwb hbsb hgb HONb
    obtain ⟨gr, hgr⟩ : ∃ g, g = gxb := ⟨_, rfl⟩
    rw [← hgr] at HXb HGEb ⊢
    have HGR : Hid (W.heap.size ≤ gr) := HGEb.out _ (Nat.le_refl _)
    clear hgr HGEb HBSb HSZb
    go_wp2_with fail
    go_loopw [4] (fun v wr => ∃ (k : Nat) (R : RollT) (aM : Option Addr) (nM cM : Nat) (aI : Option Addr) (nI cI : Nat) (aA : Option Addr) (nA cA : Nat), k ≤ n ∧ v = .int .i64 k ∧ HT wr gr 26 [.slice aM nM cM, .slice aI nI cI, .slice aA nA cA] ∧ RollIn wr (.slice aM nM cM) (.slice aI nI cI) (.slice aA nA cA) R ∧ Hid (chkR R = true) ∧ Below W.heap.size W wr) (fun v _ => n - (intOf v).toNat)
    case atStart => exact ⟨0, RollT.nil, none, 0, 0, none, 0, 0, none, 0, 0, Nat.zero_le _, rfl, HXb.out, ⟨Rs.nil MbT.len _, Rs.nil InT.len _, Rs.nil AsT.len _⟩, chkR_nil, HBWb.out⟩
    case round =>
      obtain ⟨k, R, aM, nM, cM, aI, nI, cI, aA, nA, cA, hk, rfl, hrb, hri, HGD, hbel⟩ := hrel
      have HRB := Lib.hid hrb
      have HRW := Lib.hid hri
      have HBL := Lib.hid hbel
      clear hrb hri hbel
      by_cases hlt : k < n ∧ k < 100
      · obtain ⟨hkn, hk3⟩ := hlt
        have hkl : k < l0.length := by have := HN.out; omega
        obtain ⟨bl, off, rfl, _, hc⟩ := (H0.out.rew HN.out HBL.out).at (by omega) (by decide)
        obtain ⟨c, hcx⟩ : ∃ c, c = l0[k] := ⟨_, rfl⟩
        have HMS : Hid (wr.rangeAt bl (off + k * 19) [.int .i64 c.dv, .int .i64 c.av, .int .i64 c.bv, .int .i64 c.i.no, .int .i64 c.i.cur, .int .i64 c.i.mult, .int .i64 c.i.add, .int .i64 c.i.set, .int .i64 c.i.price, .int .i64 c.i.h0, .int .i64 c.i.h1, .int .i64 c.i.h2, .int .i64 c.i.h3, .int .i64 c.i.h4, .int .i64 c.i.h5, .int .i64 c.h.no, .int .i64 c.h.cur, .int .i64 c.h.price, .int .i64 c.h.cut]) := Lib.hid (fun j v h => hc k hkl j v (by rw [← hcx]; exact h))
        have HFEW := Lib.hid (chkR_few HGD.out)
        obtain ⟨X, hX⟩ : ∃ X, X = doR R c := ⟨_, rfl⟩
        have HAN : Hid (Ans R X) := by rw [hX]; exact doR_ans HGD.out c
        have HX := Lib.hid hX
        have hk0 : (0 : Int) ≤ k := by omega
        have hk1 : (k : Int) < n := by omega
        clear hc hcx hX hm
        go_wp2_with fail
        have HSZr : Hid ((Try.prog.info? 26).map (·.size) = some (#[.slice aM nM cM, .slice aI nI cI, .slice aA nA cA] : Array Value).size) := by show _ = _; rw [rol_sz]; rfl
        have HSZa : Hid ((Try.prog.info? 64).map (·.size) = some (([.int .i64 c.dv, .int .i64 c.av, .int .i64 c.bv, .int .i64 c.i.no, .int .i64 c.i.cur, .int .i64 c.i.mult, .int .i64 c.i.add, .int .i64 c.i.set, .int .i64 c.i.price, .int .i64 c.i.h0, .int .i64 c.i.h1, .int .i64 c.i.h2, .int .i64 c.i.h3, .int .i64 c.i.h4, .int .i64 c.i.h5, .int .i64 c.h.no, .int .i64 c.h.cur, .int .i64 c.h.price, .int .i64 c.h.cut] : List Value).length)) := by show _ = _; rw [act_sz]; rfl
        refine wp_region_bl 12 (by kernel_rfl) ?_
        refine wpAnyU_take (i := 0) (oi := { dst := some 22, op := Op.load 26 (Operand.tmp 3), type := 26, pos := "law.go:119", after := #[], guard := none }) (v := (.agg #[.slice aM nM cM, .slice aI nI cI, .slice aA nA cA])) rfl (by kernel_rfl) (by kernel_rfl) (by kernel_rfl) (by kernel_rfl) (by kernel_rfl) (fun _ _ _ h => h) (BL.cls wr) ?_ ?_
        · refine Or.inl ⟨rfl, fun w hSw => ?_⟩
          exact eff_load_mid 26 (.tmp 3) rfl gr 0 rfl [.slice aM nM cM, .slice aI nI cI, .slice aA nA cA] _ (fun j v h => BL.cell hSw (HRB.out.cell (by rcases j with _ | _ | _ | j; all_goals first | exact h | (simp at h)))) Try.underlying26 rfl HSZr.out
        try simp only [Act.put, List.setIfInBounds_toArray, List.set_cons_zero, List.set_cons_succ]
        refine wpAnyU_take (i := 1) (oi := { dst := some 23, op := Op.move (Operand.tmp 0), type := 61, pos := "law.go:119", after := #[], guard := none }) (v := (.slice (some ⟨bl, off, none⟩) n cap)) rfl (by kernel_rfl) (by kernel_rfl) (by kernel_rfl) (by kernel_rfl) (by kernel_rfl) (fun _ _ _ h => h) (BL.cls wr) ?_ ?_
        · refine Or.inl ⟨rfl, fun w hSw => ?_⟩
          exact EffR.same (by go_simp)
        try simp only [Act.put, List.setIfInBounds_toArray, List.set_cons_zero, List.set_cons_succ]
        refine wpAnyU_take (i := 2) (oi := { dst := some 24, op := Op.move (Operand.tmp 4), type := 3, pos := "law.go:119", after := #[], guard := none }) (v := (.int .i64 (k : Int))) rfl (by kernel_rfl) (by kernel_rfl) (by kernel_rfl) (by kernel_rfl) (by kernel_rfl) (fun _ _ _ h => h) (BL.cls wr) ?_ ?_
        · refine Or.inl ⟨rfl, fun w hSw => ?_⟩
          exact EffR.same (by go_simp)
        try simp only [Act.put, List.setIfInBounds_toArray, List.set_cons_zero, List.set_cons_succ]
        refine wpAnyU_take (i := 3) (oi := { dst := some 25, op := Op.indexAddr 61 (Operand.tmp 23) (Operand.tmp 24), type := 0, pos := "law.go:119", after := #[{ on := 1, ground := Ground.data }, { on := 2, ground := Ground.data }], guard := none }) (v := (.pointer (some ⟨bl, off + k * 19, none⟩))) rfl (by kernel_rfl) (by kernel_rfl) (by kernel_rfl) (by kernel_rfl) (by kernel_rfl) (fun _ _ _ h => h) (BL.cls wr) ?_ ?_
        · refine Or.inl ⟨rfl, fun w hSw => ?_⟩
          exact EffR.same (by go_simp)
        try simp only [Act.put, List.setIfInBounds_toArray, List.set_cons_zero, List.set_cons_succ]
        refine wpAnyU_take (i := 4) (oi := { dst := some 26, op := Op.load 64 (Operand.tmp 25), type := 64, pos := "law.go:119", after := #[{ on := 3, ground := Ground.data }], guard := none }) (v := (.agg #[.int .i64 c.dv, .int .i64 c.av, .int .i64 c.bv, .int .i64 c.i.no, .int .i64 c.i.cur, .int .i64 c.i.mult, .int .i64 c.i.add, .int .i64 c.i.set, .int .i64 c.i.price, .int .i64 c.i.h0, .int .i64 c.i.h1, .int .i64 c.i.h2, .int .i64 c.i.h3, .int .i64 c.i.h4, .int .i64 c.i.h5, .int .i64 c.h.no, .int .i64 c.h.cur, .int .i64 c.h.price, .int .i64 c.h.cut])) rfl (by kernel_rfl) (by kernel_rfl) (by kernel_rfl) (by kernel_rfl) (by kernel_rfl) (fun _ _ _ h => h) (BL.cls wr) ?_ ?_
        · refine Or.inl ⟨rfl, fun w hSw => ?_⟩
          exact eff_load_mid 64 (.tmp 25) rfl bl (off + k * 19) rfl [.int .i64 c.dv, .int .i64 c.av, .int .i64 c.bv, .int .i64 c.i.no, .int .i64 c.i.cur, .int .i64 c.i.mult, .int .i64 c.i.add, .int .i64 c.i.set, .int .i64 c.i.price, .int .i64 c.i.h0, .int .i64 c.i.h1, .int .i64 c.i.h2, .int .i64 c.i.h3, .int .i64 c.i.h4, .int .i64 c.i.h5, .int .i64 c.h.no, .int .i64 c.h.cur, .int .i64 c.h.price, .int .i64 c.h.cut] _ (fun j v h => BL.cell hSw (HMS.out j v h)) Try.underlying64 rfl HSZa.out
        try simp only [Act.put, List.setIfInBounds_toArray, List.set_cons_zero, List.set_cons_succ]
        refine wpAnyU_ready (rs := [5, 9]) (by kernel_rfl) (by simp) ?_
        refine AllReadyU.cons (o := { dst := some 27, op := Op.call { callee := Callee.value (Operand.func 41), args := #[Operand.tmp 22, Operand.tmp 26], argTypes := #[26, 64] }, type := 56, pos := "law.go:119", after := #[{ on := 0, ground := Ground.data }, { on := 4, ground := Ground.data }], guard := none }) rfl (fun wA5 hA5 K hK => ?_) (AllReadyU.cons (o := { dst := some 5, op := Op.alloc 26, type := 0, pos := "law.go:119", after := #[], guard := none }) rfl (fun wA9 hA9 K hK => ?_) AllReadyU.nil)
        · go_simp
          refine (do_any wA5 _ _ _ R c (HRW.out.mono hA5) HFEW.out).mono ?_
          rw [← HX.out]
          rintro e wn5 ⟨aM2, nM2, cM2, aI2, nI2, cI2, aA2, nA2, cA2, rfl, ho, hbn⟩
          refine hK.out _ _ (fun x => (BL wr) x ∧ OwnRoll x wr.heap.size (.slice aM2 nM2 cM2) (.slice aI2 nI2 cI2) (.slice aA2 nA2 cA2) X.2) (Cls.and (BL.cls wr) (fun _ _ h hb => OwnRoll.below h hb)) ⟨Below.next hA5 hbn, ho.base (Below.size hA5)⟩ ?_
          clear hK K
          try simp only [Act.put, List.setIfInBounds_toArray, List.set_cons_zero, List.set_cons_succ]
          refine wpAnyU_take (i := 6) (oi := { dst := some 21, op := Op.move (Operand.tmp 27), type := 56, pos := "law.go:119", after := #[{ on := 5, ground := Ground.data }], guard := none }) (v := (.tuple #[.agg #[.slice aM2 nM2 cM2, .slice aI2 nI2 cI2, .slice aA2 nA2 cA2], .int .i64 X.1])) rfl (by kernel_rfl) (by kernel_rfl) (by kernel_rfl) (by kernel_rfl) (by kernel_rfl) (fun _ _ _ h => h) (Cls.and (BL.cls wr) (fun _ _ h hb => OwnRoll.below h hb)) ?_ ?_
          · refine Or.inl ⟨rfl, fun w hSw => ?_⟩
            exact EffR.same (by go_simp)
          try simp only [Act.put, List.setIfInBounds_toArray, List.set_cons_zero, List.set_cons_succ]
          refine wpAnyU_take (i := 7) (oi := { dst := some 28, op := Op.extract (Operand.tmp 21) 0, type := 26, pos := "law.go:119", after := #[{ on := 6, ground := Ground.data }], guard := none }) (v := (.agg #[.slice aM2 nM2 cM2, .slice aI2 nI2 cI2, .slice aA2 nA2 cA2])) rfl (by kernel_rfl) (by kernel_rfl) (by kernel_rfl) (by kernel_rfl) (by kernel_rfl) (fun _ _ _ h => h) (Cls.and (BL.cls wr) (fun _ _ h hb => OwnRoll.below h hb)) ?_ ?_
          · refine Or.inl ⟨rfl, fun w hSw => ?_⟩
            exact EffR.same (by go_simp)
          try simp only [Act.put, List.setIfInBounds_toArray, List.set_cons_zero, List.set_cons_succ]
          refine wpAnyU_take (i := 8) (oi := { dst := some 29, op := Op.extract (Operand.tmp 21) 1, type := 30, pos := "law.go:119", after := #[{ on := 6, ground := Ground.data }, { on := 10, ground := Ground.gcOnly Departure.lateStores }], guard := none }) (v := (.int .i64 X.1)) rfl (by kernel_rfl) (by kernel_rfl) (by kernel_rfl) (by kernel_rfl) (by kernel_rfl) (fun _ _ _ h => h) (Cls.and (BL.cls wr) (fun _ _ h hb => OwnRoll.below h hb)) ?_ ?_
          · refine Or.inl ⟨rfl, fun w hSw => ?_⟩
            exact EffR.same (by go_simp)
          try simp only [Act.put, List.setIfInBounds_toArray, List.set_cons_zero, List.set_cons_succ]
          refine wpAnyU_ready (rs := [9]) (by kernel_rfl) (by simp) ?_
          refine AllReadyU.cons (o := { dst := some 5, op := Op.alloc 26, type := 0, pos := "law.go:119", after := #[], guard := none }) rfl (fun wA9 hA9 K hK => ?_) AllReadyU.nil
          go_simp
          obtain ⟨gx, hgx⟩ : ∃ gx, gx = wA9.heap.size := ⟨_, rfl⟩
          have HGX : Hid (wr.heap.size ≤ gx) := by show _ ≤ _; have := Below.size hA9.1; omega
          have HAP : Hid (∀ q, ((Value.slice aM2 nM2 cM2).ownBlock = some q ∨ (Value.slice aI2 nI2 cI2).ownBlock = some q ∨ (Value.slice aA2 nA2 cA2).ownBlock = some q) → q ≠ gx) := fun q hq => by
            rcases hq with hq | hq | hq
            · have := OwnR.lt hA9.2.1 q hq; omega
            · have := OwnR.lt hA9.2.2.1 q hq; omega
            · have := OwnR.lt hA9.2.2.2 q hq; omega
          have hbx : Below wA9.heap.size wA9 (wA9.alloc (.cells #[.slice none 0 0, .slice none 0 0, .slice none 0 0] 26)) := (Below.refl _ _).alloc (Nat.le_refl _) _
          have hnew : HT (wA9.alloc (.cells #[.slice none 0 0, .slice none 0 0, .slice none 0 0] 26)) gx 26 [.slice none 0 0, .slice none 0 0, .slice none 0 0] := by rw [hgx]; exact HT.new (w := wA9)
          rw [← hgx]
          clear hgx
          refine hK.out _ _ (fun x => (fun x => (BL wr) x ∧ OwnRoll x wr.heap.size (.slice aM2 nM2 cM2) (.slice aI2 nI2 cI2) (.slice aA2 nA2 cA2) X.2) x ∧ HT x gx 26 [.slice none 0 0, .slice none 0 0, .slice none 0 0]) (Cls.and (Cls.and (BL.cls wr) (fun _ _ h hb => OwnRoll.below h hb)) (fun _ _ h hb => HT.below h hb)) ⟨⟨Below.next hA9.1 hbx, OwnRoll.below hA9.2 hbx⟩, hnew⟩ ?_
          clear hK K
          try simp only
          refine wpAnyU_ready (rs := [10]) (by kernel_rfl) (by simp) ?_
          refine AllReadyU.cons (o := { dst := none, op := Op.store 26 (Operand.tmp 5) (Operand.tmp 28), type := 0, pos := "law.go:119", after := #[{ on := 9, ground := Ground.data }, { on := 7, ground := Ground.data }, { on := 5, ground := Ground.chain }, { on := 0, ground := Ground.phase }, { on := 1, ground := Ground.phase }, { on := 2, ground := Ground.phase }, { on := 3, ground := Ground.phase }, { on := 4, ground := Ground.phase }, { on := 5, ground := Ground.phase }, { on := 6, ground := Ground.phase }, { on := 7, ground := Ground.phase }, { on := 8, ground := Ground.textOnly Departure.lateStores }, { on := 9, ground := Ground.phase }], guard := none }) rfl (fun wA10 hA10 K hK => ?_) AllReadyU.nil
          have hg1 := hA10.2
          refine step_store_mid rfl 26 (.tmp 5) (.tmp 28) rfl gx 0 [.slice aM2 nM2 cM2, .slice aI2 nI2 cI2, .slice aA2 nA2 cA2] rfl rfl (fun j hj => ⟨hg1.isSome (by simpa using hj), hg1.frozen _⟩) (by rw [rol_sz]; rfl) (by simp [Value.oneCell']) ?_
          have hput := hg1.puts (o := 0) (vs := [.slice aM2 nM2 cM2, .slice aI2 nI2 cI2, .slice aA2 nA2 cA2]) (by simp)
          rw [splice_all (by simp)] at hput
          have hk9 := setCells_kept gx [.slice aM2 nM2 cM2, .slice aI2 nI2 cI2, .slice aA2 nA2 cA2] 0 wA10
          have hbl : BL wr (wA10.setCells gx 0 [.slice aM2 nM2 cM2, .slice aI2 nI2 cI2, .slice aA2 nA2 cA2]) := Below.puts hA10.1.1 HGX.out _ _
          have hown : OwnRoll (wA10.setCells gx 0 [.slice aM2 nM2 cM2, .slice aI2 nI2 cI2, .slice aA2 nA2 cA2]) wr.heap.size (.slice aM2 nM2 cM2) (.slice aI2 nI2 cI2) (.slice aA2 nA2 cA2) X.2 := OwnRoll.keptQ hA10.1.2 hk9 (fun q hq (e : q = gx) => HAP.out q hq e)
          refine hK.out _ _ (fun x => (BL wr x ∧ OwnRoll x wr.heap.size (.slice aM2 nM2 cM2) (.slice aI2 nI2 cI2) (.slice aA2 nA2 cA2) X.2) ∧ HT x gx 26 [.slice aM2 nM2 cM2, .slice aI2 nI2 cI2, .slice aA2 nA2 cA2]) (Cls.and (Cls.and (BL.cls wr) (fun _ _ h hb => OwnRoll.below h hb)) (fun _ _ h hb => HT.below h hb)) ⟨⟨hbl, hown⟩, hput⟩ ?_
          clear hput hk9 hbl hown hg1
          clear hK K
          try simp only [Act.put]
          refine wpAnyU_take (i := 11) (oi := { dst := some 6, op := Op.assign (Operand.tmp 29), type := 30, pos := "law.go:119", after := #[{ on := 8, ground := Ground.data }, { on := 10, ground := Ground.chain }, { on := 0, ground := Ground.phase }, { on := 1, ground := Ground.phase }, { on := 2, ground := Ground.phase }, { on := 3, ground := Ground.phase }, { on := 4, ground := Ground.phase }, { on := 5, ground := Ground.phase }, { on := 6, ground := Ground.phase }, { on := 7, ground := Ground.phase }, { on := 8, ground := Ground.phase }, { on := 9, ground := Ground.phase }, { on := 10, ground := Ground.phase }], guard := none }) (v := (.int .i64 X.1)) rfl (by kernel_rfl) (by kernel_rfl) (by kernel_rfl) (by kernel_rfl) (by kernel_rfl) (fun _ _ _ h => h) (Cls.and (Cls.and (BL.cls wr) (fun _ _ h hb => OwnRoll.below h hb)) (fun _ _ h hb => HT.below h hb)) ?_ ?_
          · refine Or.inl ⟨rfl, fun w hSw => ?_⟩
            exact EffR.same (by go_simp)
          try simp only [Act.put, List.setIfInBounds_toArray, List.set_cons_zero, List.set_cons_succ]
          refine wpAnyU_done (by kernel_rfl) (fun w1 hb1 => ?_) _
          have HB9 : Hid (Below wr.heap.size wr w1) := hb1.1.1
          have HOT := Lib.hid hb1.1.2
          have HTB := Lib.hid hb1.2
          clear hb1
          by_cases h0 : X.1 = 0
          · obtain ⟨_, hst⟩ := HAN.out.resolve_right (fun h => h.1 h0)
            have HGD2 := Lib.hid hst.ok
            have hlM : ¬ nM2 < nM := by have := hst.m; rw [← HOT.out.in.1.n, ← HRW.out.1.n] at this; omega
            have hlI : ¬ nI2 < nI := by have := hst.i; rw [← HOT.out.in.2.1.n, ← HRW.out.2.1.n] at this; omega
            have hlA : ¬ nA2 < nA := by have := hst.a; rw [← HOT.out.in.2.2.n, ← HRW.out.2.2.n] at this; omega
            have hdM : decide (nM2 < nM) = false := by simpa using hlM
            have hdI : decide (nI2 < nI) = false := by simpa using hlI
            have hdA : decide (nA2 < nA) = false := by simpa using hlA
            clear hst hlM hlI hlA
            have hz : (X.1 != 0) = false := by simpa using h0
            clear h0
            have HSZs : Hid ((Try.prog.info? 26).map (·.size) = some (#[.slice aM2 nM2 cM2, .slice aI2 nI2 cI2, .slice aA2 nA2 cA2] : Array Value).size) := by show _ = _; rw [rol_sz]; rfl
            have HONs : Hid ((#[.slice aM2 nM2 cM2, .slice aI2 nI2 cI2, .slice aA2 nA2 cA2] : Array Value).all (·.oneCell') = true) := by show _ = true; simp [Value.oneCell']
            have HTBx : Hid (w1.heap[gx]? = some (.cells #[.slice aM2 nM2 cM2, .slice aI2 nI2 cI2, .slice aA2 nA2 cA2] 26 (0, 0))) := HTB.out
            have rr := rRoll_any w1 _ _ _ X.2 HOT.out.in
            rw [HGD2.out] at rr
            go_wp2_with (first
              | (refine wpList_load_row rfl 26 (.tmp 5) rfl gx rfl 26 #[.slice aM2 nM2 cM2, .slice aI2 nI2 cI2, .slice aA2 nA2 cA2] (0, 0) _ HTBx.out Try.underlying26 rfl HSZs.out ?_)
              | fail)
            refine rr.mono ?_
            clear rr
            rintro e w2 ⟨rfl, hb2⟩
            have HT2 := Lib.hid (HTB.out.below hb2)
            have HO2 := Lib.hid (HOT.out.below hb2)
            have HR2 := Lib.hid ((HRB.out.below HB9.out).below hb2)
            have HB2 := Lib.hid (bgo (bgoS HBL.out HB9.out) hb2 (bgoS HBL.out HB9.out).size)
            clear hb2
            have HT2x : Hid (w2.heap[gx]? = some (.cells #[.slice aM2 nM2 cM2, .slice aI2 nI2 cI2, .slice aA2 nA2 cA2] 26 (0, 0))) := HT2.out
            have rr := Check_any w2 _ _ _ X.2 HO2.out.in
            rw [show chkE X.2 = 0 by unfold chkE; rw [if_pos HGD2.out]] at rr
            go_wp2_with (first
              | (refine wpList_load_row_w (by first | rfl | simp [Region.wanted, yielded]) 26 (.tmp 5) rfl gx rfl 26 #[.slice aM2 nM2 cM2, .slice aI2 nI2 cI2, .slice aA2 nA2 cA2] (0, 0) _ HT2x.out Try.underlying26 rfl HSZs.out ?_)
              | fail)
            refine rr.mono ?_
            clear rr
            rintro e w3 ⟨rfl, hb3⟩
            have HT3 := Lib.hid (HT2.out.below hb3)
            have HO3 := Lib.hid (HO2.out.below hb3)
            have HR3 := Lib.hid (HR2.out.below hb3)
            have HB3 := Lib.hid (bgo HB2.out hb3 HB2.out.size)
            clear hb3
            have HT3x : Hid (w3.heap[gx]? = some (.cells #[.slice aM2 nM2 cM2, .slice aI2 nI2 cI2, .slice aA2 nA2 cA2] 26 (0, 0))) := HT3.out
            have HR3x : Hid (w3.heap[gr]? = some (.cells #[.slice aM nM cM, .slice aI nI cI, .slice aA nA cA] 26 (0, 0))) := HR3.out
            have hc0 := HT3.out.cell (j := 0) rfl
            have hc1 := HT3.out.cell (j := 1) rfl
            have hc2 := HT3.out.cell (j := 2) rfl
            have hd0 := HR3.out.cell (j := 0) rfl
            have hd1 := HR3.out.cell (j := 1) rfl
            have hd2 := HR3.out.cell (j := 2) rfl
            go_upto_region 13 with fail
            clear hc0 hc1 hc2 hd0 hd1 hd2
            go_wp2_with (first
              | (refine wpList_load_row rfl 26 (.tmp 5) rfl gx rfl 26 #[.slice aM2 nM2 cM2, .slice aI2 nI2 cI2, .slice aA2 nA2 cA2] (0, 0) _ HT3x.out Try.underlying26 rfl HSZs.out ?_)
              | (refine wpList_store_row rfl 26 (.tmp 3) (.tmp 79) rfl gr #[.slice aM2 nM2 cM2, .slice aI2 nI2 cI2, .slice aA2 nA2 cA2] rfl rfl 26 #[.slice aM nM cM, .slice aI nI cI, .slice aA nA cA] HR3x.out HSZs.out rfl HONs.out ?_)
              | fail)
            have hro := HO3.out.keptQ (setRow_kept w3 gr #[.slice aM2 nM2 cM2, .slice aI2 nI2 cI2, .slice aA2 nA2 cA2]) (fun q hq (e : q = gr) => by have h1 := HRB.out.lt; rcases hq with hq | hq | hq; (have := OwnR.ge HO3.out.1 q hq; omega); (have := OwnR.ge HO3.out.2.1 q hq; omega); (have := OwnR.ge HO3.out.2.2 q hq; omega))
            exact ⟨⟨k + 1, X.2, aM2, nM2, cM2, aI2, nI2, cI2, aA2, nA2, cA2, by omega, by push_cast; rfl, HT.row HR3x.out rfl, hro.in, HGD2.out, HB3.out.trans (setRow_below HGR.out _)⟩, by simp [intOf]; omega⟩
          · have hzz : X.2 = .nil := (HAN.out.resolve_left (fun h => h0 h.1)).2
            have z1 : nM2 = 0 := by rw [HOT.out.in.1.n, hzz]; rfl
            have z2 : nI2 = 0 := by rw [HOT.out.in.2.1.n, hzz]; rfl
            have z3 : nA2 = 0 := by rw [HOT.out.in.2.2.n, hzz]; rfl
            have hz : (X.1 != 0) = true := by simpa using h0
            clear hzz h0
            subst z1 z2 z3
            have hc0 := HTB.out.cell (j := 0) rfl
            have hc1 := HTB.out.cell (j := 1) rfl
            have hc2 := HTB.out.cell (j := 2) rfl
            go_wp2_with fail
            exact ⟨⟨k + 1, R, aM, nM, cM, aI, nI, cI, aA, nA, cA, by omega, by push_cast; rfl, HRB.out.below HB9.out, HRW.out.mono HB9.out, HGD.out, bgoS HBL.out HB9.out⟩, by simp [intOf]; omega⟩
        · go_simp
          obtain ⟨gx, hgx⟩ : ∃ gx, gx = wA9.heap.size := ⟨_, rfl⟩
          have HGX : Hid (wr.heap.size ≤ gx) := by show _ ≤ _; have := Below.size hA9; omega
          have hbx : Below wA9.heap.size wA9 (wA9.alloc (.cells #[.slice none 0 0, .slice none 0 0, .slice none 0 0] 26)) := (Below.refl _ _).alloc (Nat.le_refl _) _
          have hnew : HT (wA9.alloc (.cells #[.slice none 0 0, .slice none 0 0, .slice none 0 0] 26)) gx 26 [.slice none 0 0, .slice none 0 0, .slice none 0 0] := by rw [hgx]; exact HT.new (w := wA9)
          rw [← hgx]
          clear hgx
          refine hK.out _ _ (fun x => (BL wr) x ∧ HT x gx 26 [.slice none 0 0, .slice none 0 0, .slice none 0 0]) (Cls.and (BL.cls wr) (fun _ _ h hb => HT.below h hb)) ⟨Below.next hA9 hbx, hnew⟩ ?_
          clear hK K
          try simp only [Act.put, List.setIfInBounds_toArray, List.set_cons_zero, List.set_cons_succ]
          refine wpAnyU_ready (rs := [5]) (by kernel_rfl) (by simp) ?_
          refine AllReadyU.cons (o := { dst := some 27, op := Op.call { callee := Callee.value (Operand.func 41), args := #[Operand.tmp 22, Operand.tmp 26], argTypes := #[26, 64] }, type := 56, pos := "law.go:119", after := #[{ on := 0, ground := Ground.data }, { on := 4, ground := Ground.data }], guard := none }) rfl (fun wA5 hA5 K hK => ?_) AllReadyU.nil
          go_simp
          refine (do_any wA5 _ _ _ R c (HRW.out.mono hA5.1) HFEW.out).mono ?_
          rw [← HX.out]
          rintro e wn5 ⟨aM2, nM2, cM2, aI2, nI2, cI2, aA2, nA2, cA2, rfl, ho, hbn⟩
          have HAP : Hid (∀ q, ((Value.slice aM2 nM2 cM2).ownBlock = some q ∨ (Value.slice aI2 nI2 cI2).ownBlock = some q ∨ (Value.slice aA2 nA2 cA2).ownBlock = some q) → q ≠ gx) := fun q hq => by
            have h1 := HT.lt hA5.2
            rcases hq with hq | hq | hq
            · have := OwnR.ge ho.1 q hq; omega
            · have := OwnR.ge ho.2.1 q hq; omega
            · have := OwnR.ge ho.2.2 q hq; omega
          refine hK.out _ _ (fun x => (fun x => (BL wr) x ∧ HT x gx 26 [.slice none 0 0, .slice none 0 0, .slice none 0 0]) x ∧ OwnRoll x wr.heap.size (.slice aM2 nM2 cM2) (.slice aI2 nI2 cI2) (.slice aA2 nA2 cA2) X.2) (Cls.and (Cls.and (BL.cls wr) (fun _ _ h hb => HT.below h hb)) (fun _ _ h hb => OwnRoll.below h hb)) ⟨⟨Below.next hA5.1 hbn, HT.below hA5.2 hbn⟩, ho.base (Below.size hA5.1)⟩ ?_
          clear hK K
          try simp only
          refine wpAnyU_take (i := 6) (oi := { dst := some 21, op := Op.move (Operand.tmp 27), type := 56, pos := "law.go:119", after := #[{ on := 5, ground := Ground.data }], guard := none }) (v := (.tuple #[.agg #[.slice aM2 nM2 cM2, .slice aI2 nI2 cI2, .slice aA2 nA2 cA2], .int .i64 X.1])) rfl (by kernel_rfl) (by kernel_rfl) (by kernel_rfl) (by kernel_rfl) (by kernel_rfl) (fun _ _ _ h => h) (Cls.and (Cls.and (BL.cls wr) (fun _ _ h hb => HT.below h hb)) (fun _ _ h hb => OwnRoll.below h hb)) ?_ ?_
          · refine Or.inl ⟨rfl, fun w hSw => ?_⟩
            exact EffR.same (by go_simp)
          try simp only [Act.put, List.setIfInBounds_toArray, List.set_cons_zero, List.set_cons_succ]
          refine wpAnyU_take (i := 7) (oi := { dst := some 28, op := Op.extract (Operand.tmp 21) 0, type := 26, pos := "law.go:119", after := #[{ on := 6, ground := Ground.data }], guard := none }) (v := (.agg #[.slice aM2 nM2 cM2, .slice aI2 nI2 cI2, .slice aA2 nA2 cA2])) rfl (by kernel_rfl) (by kernel_rfl) (by kernel_rfl) (by kernel_rfl) (by kernel_rfl) (fun _ _ _ h => h) (Cls.and (Cls.and (BL.cls wr) (fun _ _ h hb => HT.below h hb)) (fun _ _ h hb => OwnRoll.below h hb)) ?_ ?_
          · refine Or.inl ⟨rfl, fun w hSw => ?_⟩
            exact EffR.same (by go_simp)
          try simp only [Act.put, List.setIfInBounds_toArray, List.set_cons_zero, List.set_cons_succ]
          refine wpAnyU_take (i := 8) (oi := { dst := some 29, op := Op.extract (Operand.tmp 21) 1, type := 30, pos := "law.go:119", after := #[{ on := 6, ground := Ground.data }, { on := 10, ground := Ground.gcOnly Departure.lateStores }], guard := none }) (v := (.int .i64 X.1)) rfl (by kernel_rfl) (by kernel_rfl) (by kernel_rfl) (by kernel_rfl) (by kernel_rfl) (fun _ _ _ h => h) (Cls.and (Cls.and (BL.cls wr) (fun _ _ h hb => HT.below h hb)) (fun _ _ h hb => OwnRoll.below h hb)) ?_ ?_
          · refine Or.inl ⟨rfl, fun w hSw => ?_⟩
            exact EffR.same (by go_simp)
          try simp only [Act.put, List.setIfInBounds_toArray, List.set_cons_zero, List.set_cons_succ]
          refine wpAnyU_ready (rs := [10]) (by kernel_rfl) (by simp) ?_
          refine AllReadyU.cons (o := { dst := none, op := Op.store 26 (Operand.tmp 5) (Operand.tmp 28), type := 0, pos := "law.go:119", after := #[{ on := 9, ground := Ground.data }, { on := 7, ground := Ground.data }, { on := 5, ground := Ground.chain }, { on := 0, ground := Ground.phase }, { on := 1, ground := Ground.phase }, { on := 2, ground := Ground.phase }, { on := 3, ground := Ground.phase }, { on := 4, ground := Ground.phase }, { on := 5, ground := Ground.phase }, { on := 6, ground := Ground.phase }, { on := 7, ground := Ground.phase }, { on := 8, ground := Ground.textOnly Departure.lateStores }, { on := 9, ground := Ground.phase }], guard := none }) rfl (fun wA10 hA10 K hK => ?_) AllReadyU.nil
          have hg1 := hA10.1.2
          refine step_store_mid rfl 26 (.tmp 5) (.tmp 28) rfl gx 0 [.slice aM2 nM2 cM2, .slice aI2 nI2 cI2, .slice aA2 nA2 cA2] rfl rfl (fun j hj => ⟨hg1.isSome (by simpa using hj), hg1.frozen _⟩) (by rw [rol_sz]; rfl) (by simp [Value.oneCell']) ?_
          have hput := hg1.puts (o := 0) (vs := [.slice aM2 nM2 cM2, .slice aI2 nI2 cI2, .slice aA2 nA2 cA2]) (by simp)
          rw [splice_all (by simp)] at hput
          have hk9 := setCells_kept gx [.slice aM2 nM2 cM2, .slice aI2 nI2 cI2, .slice aA2 nA2 cA2] 0 wA10
          have hbl : BL wr (wA10.setCells gx 0 [.slice aM2 nM2 cM2, .slice aI2 nI2 cI2, .slice aA2 nA2 cA2]) := Below.puts hA10.1.1 HGX.out _ _
          have hown : OwnRoll (wA10.setCells gx 0 [.slice aM2 nM2 cM2, .slice aI2 nI2 cI2, .slice aA2 nA2 cA2]) wr.heap.size (.slice aM2 nM2 cM2) (.slice aI2 nI2 cI2) (.slice aA2 nA2 cA2) X.2 := OwnRoll.keptQ hA10.2 hk9 (fun q hq (e : q = gx) => HAP.out q hq e)
          refine hK.out _ _ (fun x => (BL wr x ∧ OwnRoll x wr.heap.size (.slice aM2 nM2 cM2) (.slice aI2 nI2 cI2) (.slice aA2 nA2 cA2) X.2) ∧ HT x gx 26 [.slice aM2 nM2 cM2, .slice aI2 nI2 cI2, .slice aA2 nA2 cA2]) (Cls.and (Cls.and (BL.cls wr) (fun _ _ h hb => OwnRoll.below h hb)) (fun _ _ h hb => HT.below h hb)) ⟨⟨hbl, hown⟩, hput⟩ ?_
          clear hput hk9 hbl hown hg1
          clear hK K
          try simp only [Act.put]
          refine wpAnyU_take (i := 11) (oi := { dst := some 6, op := Op.assign (Operand.tmp 29), type := 30, pos := "law.go:119", after := #[{ on := 8, ground := Ground.data }, { on := 10, ground := Ground.chain }, { on := 0, ground := Ground.phase }, { on := 1, ground := Ground.phase }, { on := 2, ground := Ground.phase }, { on := 3, ground := Ground.phase }, { on := 4, ground := Ground.phase }, { on := 5, ground := Ground.phase }, { on := 6, ground := Ground.phase }, { on := 7, ground := Ground.phase }, { on := 8, ground := Ground.phase }, { on := 9, ground := Ground.phase }, { on := 10, ground := Ground.phase }], guard := none }) (v := (.int .i64 X.1)) rfl (by kernel_rfl) (by kernel_rfl) (by kernel_rfl) (by kernel_rfl) (by kernel_rfl) (fun _ _ _ h => h) (Cls.and (Cls.and (BL.cls wr) (fun _ _ h hb => OwnRoll.below h hb)) (fun _ _ h hb => HT.below h hb)) ?_ ?_
          · refine Or.inl ⟨rfl, fun w hSw => ?_⟩
            exact EffR.same (by go_simp)
          try simp only [Act.put, List.setIfInBounds_toArray, List.set_cons_zero, List.set_cons_succ]
          refine wpAnyU_done (by kernel_rfl) (fun w1 hb1 => ?_) _
          have HB9 : Hid (Below wr.heap.size wr w1) := hb1.1.1
          have HOT := Lib.hid hb1.1.2
          have HTB := Lib.hid hb1.2
          clear hb1
          by_cases h0 : X.1 = 0
          · obtain ⟨_, hst⟩ := HAN.out.resolve_right (fun h => h.1 h0)
            have HGD2 := Lib.hid hst.ok
            have hlM : ¬ nM2 < nM := by have := hst.m; rw [← HOT.out.in.1.n, ← HRW.out.1.n] at this; omega
            have hlI : ¬ nI2 < nI := by have := hst.i; rw [← HOT.out.in.2.1.n, ← HRW.out.2.1.n] at this; omega
            have hlA : ¬ nA2 < nA := by have := hst.a; rw [← HOT.out.in.2.2.n, ← HRW.out.2.2.n] at this; omega
            have hdM : decide (nM2 < nM) = false := by simpa using hlM
            have hdI : decide (nI2 < nI) = false := by simpa using hlI
            have hdA : decide (nA2 < nA) = false := by simpa using hlA
            clear hst hlM hlI hlA
            have hz : (X.1 != 0) = false := by simpa using h0
            clear h0
            have HSZs : Hid ((Try.prog.info? 26).map (·.size) = some (#[.slice aM2 nM2 cM2, .slice aI2 nI2 cI2, .slice aA2 nA2 cA2] : Array Value).size) := by show _ = _; rw [rol_sz]; rfl
            have HONs : Hid ((#[.slice aM2 nM2 cM2, .slice aI2 nI2 cI2, .slice aA2 nA2 cA2] : Array Value).all (·.oneCell') = true) := by show _ = true; simp [Value.oneCell']
            have HTBx : Hid (w1.heap[gx]? = some (.cells #[.slice aM2 nM2 cM2, .slice aI2 nI2 cI2, .slice aA2 nA2 cA2] 26 (0, 0))) := HTB.out
            have rr := rRoll_any w1 _ _ _ X.2 HOT.out.in
            rw [HGD2.out] at rr
            go_wp2_with (first
              | (refine wpList_load_row rfl 26 (.tmp 5) rfl gx rfl 26 #[.slice aM2 nM2 cM2, .slice aI2 nI2 cI2, .slice aA2 nA2 cA2] (0, 0) _ HTBx.out Try.underlying26 rfl HSZs.out ?_)
              | fail)
            refine rr.mono ?_
            clear rr
            rintro e w2 ⟨rfl, hb2⟩
            have HT2 := Lib.hid (HTB.out.below hb2)
            have HO2 := Lib.hid (HOT.out.below hb2)
            have HR2 := Lib.hid ((HRB.out.below HB9.out).below hb2)
            have HB2 := Lib.hid (bgo (bgoS HBL.out HB9.out) hb2 (bgoS HBL.out HB9.out).size)
            clear hb2
            have HT2x : Hid (w2.heap[gx]? = some (.cells #[.slice aM2 nM2 cM2, .slice aI2 nI2 cI2, .slice aA2 nA2 cA2] 26 (0, 0))) := HT2.out
            have rr := Check_any w2 _ _ _ X.2 HO2.out.in
            rw [show chkE X.2 = 0 by unfold chkE; rw [if_pos HGD2.out]] at rr
            go_wp2_with (first
              | (refine wpList_load_row_w (by first | rfl | simp [Region.wanted, yielded]) 26 (.tmp 5) rfl gx rfl 26 #[.slice aM2 nM2 cM2, .slice aI2 nI2 cI2, .slice aA2 nA2 cA2] (0, 0) _ HT2x.out Try.underlying26 rfl HSZs.out ?_)
              | fail)
            refine rr.mono ?_
            clear rr
            rintro e w3 ⟨rfl, hb3⟩
            have HT3 := Lib.hid (HT2.out.below hb3)
            have HO3 := Lib.hid (HO2.out.below hb3)
            have HR3 := Lib.hid (HR2.out.below hb3)
            have HB3 := Lib.hid (bgo HB2.out hb3 HB2.out.size)
            clear hb3
            have HT3x : Hid (w3.heap[gx]? = some (.cells #[.slice aM2 nM2 cM2, .slice aI2 nI2 cI2, .slice aA2 nA2 cA2] 26 (0, 0))) := HT3.out
            have HR3x : Hid (w3.heap[gr]? = some (.cells #[.slice aM nM cM, .slice aI nI cI, .slice aA nA cA] 26 (0, 0))) := HR3.out
            have hc0 := HT3.out.cell (j := 0) rfl
            have hc1 := HT3.out.cell (j := 1) rfl
            have hc2 := HT3.out.cell (j := 2) rfl
            have hd0 := HR3.out.cell (j := 0) rfl
            have hd1 := HR3.out.cell (j := 1) rfl
            have hd2 := HR3.out.cell (j := 2) rfl
            go_upto_region 13 with fail
            clear hc0 hc1 hc2 hd0 hd1 hd2
            go_wp2_with (first
              | (refine wpList_load_row rfl 26 (.tmp 5) rfl gx rfl 26 #[.slice aM2 nM2 cM2, .slice aI2 nI2 cI2, .slice aA2 nA2 cA2] (0, 0) _ HT3x.out Try.underlying26 rfl HSZs.out ?_)
              | (refine wpList_store_row rfl 26 (.tmp 3) (.tmp 79) rfl gr #[.slice aM2 nM2 cM2, .slice aI2 nI2 cI2, .slice aA2 nA2 cA2] rfl rfl 26 #[.slice aM nM cM, .slice aI nI cI, .slice aA nA cA] HR3x.out HSZs.out rfl HONs.out ?_)
              | fail)
            have hro := HO3.out.keptQ (setRow_kept w3 gr #[.slice aM2 nM2 cM2, .slice aI2 nI2 cI2, .slice aA2 nA2 cA2]) (fun q hq (e : q = gr) => by have h1 := HRB.out.lt; rcases hq with hq | hq | hq; (have := OwnR.ge HO3.out.1 q hq; omega); (have := OwnR.ge HO3.out.2.1 q hq; omega); (have := OwnR.ge HO3.out.2.2 q hq; omega))
            exact ⟨⟨k + 1, X.2, aM2, nM2, cM2, aI2, nI2, cI2, aA2, nA2, cA2, by omega, by push_cast; rfl, HT.row HR3x.out rfl, hro.in, HGD2.out, HB3.out.trans (setRow_below HGR.out _)⟩, by simp [intOf]; omega⟩
          · have hzz : X.2 = .nil := (HAN.out.resolve_left (fun h => h0 h.1)).2
            have z1 : nM2 = 0 := by rw [HOT.out.in.1.n, hzz]; rfl
            have z2 : nI2 = 0 := by rw [HOT.out.in.2.1.n, hzz]; rfl
            have z3 : nA2 = 0 := by rw [HOT.out.in.2.2.n, hzz]; rfl
            have hz : (X.1 != 0) = true := by simpa using h0
            clear hzz h0
            subst z1 z2 z3
            have hc0 := HTB.out.cell (j := 0) rfl
            have hc1 := HTB.out.cell (j := 1) rfl
            have hc2 := HTB.out.cell (j := 2) rfl
            go_wp2_with fail
            exact ⟨⟨k + 1, R, aM, nM, cM, aI, nI, cI, aA, nA, cA, by omega, by push_cast; rfl, HRB.out.below HB9.out, HRW.out.mono HB9.out, HGD.out, bgoS HBL.out HB9.out⟩, by simp [intOf]; omega⟩
      · have hor : (k < n ∧ ¬ k < 100) ∨ ¬ k < n := by omega
        clear hlt
        rcases hor with ⟨h1, h2⟩ | h1
        all_goals
          go_wp2_with fail
          refine (wakes11_any wr).mono ?_
          rintro e w2 ⟨rfl, hb2⟩
          go_wp2_with fail
          go_ret
          exact ⟨rfl, HBL.out.trans (hb2.mono HBL.out.size)⟩

end Cam
