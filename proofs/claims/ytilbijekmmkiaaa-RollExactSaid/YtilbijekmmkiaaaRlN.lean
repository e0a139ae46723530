import Derived.Test.YtilbijekmmkiaaaRlP
/- ch. 11: wakes. -/
namespace Cam
open Go Go.RowKit Go.Proofs
theorem OwnRoll.keptQ {S : Nat → Prop} {w w' : World} {base : Nat} {va vb vc : Value} {R : RollT} (h : OwnRoll w base va vb vc R) (hk : Kept S w w') (hS : ∀ k, (va.ownBlock = some k ∨ vb.ownBlock = some k ∨ vc.ownBlock = some k) → ¬ S k) : OwnRoll w' base va vb vc R :=
 ⟨OwnR.keptS h.1 hk (fun k e => hS k (.inl e)), OwnR.keptS h.2.1 hk (fun k e => hS k (.inr (.inl e))), OwnR.keptS h.2.2 hk (fun k e => hS k (.inr (.inr e)))⟩
theorem Rs.n {α : Type} {enc : α → List Value} {K : Nat} {w : World} {a : Option Addr} {n c : Nat} {L : List α} (h : Rs enc K w (.slice a n c) L) : n = L.length := by
 obtain ⟨a9, c9, e9, _⟩ := h.shape
 simp only [Value.slice.injEq] at e9
 exact e9.2.1
theorem few_nil : few RollT.nil := by unfold few RollT.nil; simp
theorem RollIn.nil (w : World) : RollIn w (.slice none 0 0) (.slice none 0 0) (.slice none 0 0) .nil := ⟨Rs.nil MbT.len _, Rs.nil InT.len _, Rs.nil AsT.len _⟩
theorem wake_plain : ∃ R1 : RollT, R1.M.length = 1 ∧ few R1 ∧ admitR .nil 3 100 = (0, R1) ∧ admitR R1 3 5 = (11, .nil) := by
 have hn := chkR_nil
 have h1 : admitR .nil 3 100 = (0, { RollT.nil with M := [⟨3, 1, 100⟩] }) := by
  unfold admitR
  rw [if_neg (by simp [hn]), if_neg (by decide), if_neg (by decide)]
  rfl
 have ha := admitR_ans hn 3 100
 rw [h1] at ha
 have hs := (ha.resolve_right (fun h => h.1 rfl)).2
 refine ⟨_, rfl, chkR_few hs.ok, h1, ?_⟩
 unfold admitR
 rw [if_neg (by simp [hs.ok]), if_neg (by decide), if_pos (by decide)]
set_option maxRecDepth 100000 in
set_option maxHeartbeats 1600000 in
theorem wakes11_any (w : World) : Calls Try.prog 30 #[] w fun e w' => e = .returned (.bool true) ∧ Below w.heap.size w w' := by
 obtain ⟨R1, hl1, hf1, e1, e2⟩ := wake_plain
 have HL1 := Lib.hid hl1
 have HF1 := Lib.hid hf1
 have HE2 := Lib.hid e2
 have a1 := Admit_any w (.slice none 0 0) (.slice none 0 0) (.slice none 0 0) .nil 3 100 (RollIn.nil w) few_nil
 rw [e1] at a1
 clear hl1 hf1 e1 e2
 go_enter Try.func30, Try.ntmps30
 go_wp2_with fail
 refine a1.mono ?_
 clear a1
 rintro e w1 ⟨aM, nM, cM, aI, nI, cI, aA, nA, cA, rfl, ho, hb⟩
 have HO := Lib.hid ho
 have HB := Lib.hid hb
 clear ho hb
 have HSZa : Hid ((Try.prog.info? 26).map (·.size) = some (#[.slice aM nM cM, .slice aI nI cI, .slice aA nA cA] : Array Value).size) := by show _ = _; rw [rol_sz]; rfl
 have HONa : Hid ((#[.slice aM nM cM, .slice aI nI cI, .slice aA nA cA] : Array Value).all (·.oneCell') = true) := by show _ = true; simp [Value.oneCell']
 go_upto_region 2 with (first
  | (refine wpList_store_row rfl 26 (.tmp 1) (.tmp 8) rfl w1.heap.size #[.slice aM nM cM, .slice aI nI cI, .slice aA nA cA] rfl rfl 26 #[.slice none 0 0, .slice none 0 0, .slice none 0 0] (heap_alloc_new _ _) HSZa.out rfl HONa.out ?_)
  | fail)
 have hbsa : Below w1.heap.size w1 ((w1.alloc (.cells #[.slice none 0 0, .slice none 0 0, .slice none 0 0] 26)).setRow w1.heap.size #[.slice aM nM cM, .slice aI nI cI, .slice aA nA cA]) := ((Below.refl _ _).alloc (Nat.le_refl _) _).trans (setRow_below (Nat.le_refl _) _)
 have hxa : HT ((w1.alloc (.cells #[.slice none 0 0, .slice none 0 0, .slice none 0 0] 26)).setRow w1.heap.size #[.slice aM nM cM, .slice aI nI cI, .slice aA nA cA]) w1.heap.size 26 [.slice aM nM cM, .slice aI nI cI, .slice aA nA cA] := setRow_heap _ _ _ _ _ _ (heap_alloc_new _ _)
 have hbwa := bgo HB.out hbsa (Below.size HB.out)
 obtain ⟨Wa, hWa⟩ : ∃ zz, zz = ((w1.alloc (.cells #[.slice none 0 0, .slice none 0 0, .slice none 0 0] 26)).setRow w1.heap.size #[.slice aM nM cM, .slice aI nI cI, .slice aA nA cA]) := ⟨_, rfl⟩
 rw [← hWa] at hbsa hxa hbwa ⊢
 obtain ⟨gxa, hga⟩ : ∃ zz, zz = w1.heap.size := ⟨_, rfl⟩
 rw [← hga] at hxa ⊢
 have HGEa : Hid (∀ m, m ≤ w1.heap.size → m ≤ gxa) := fun m h => by omega
 have HXa := Lib.hid hxa
 have HBWa := Lib.hid hbwa
 have HBSa := Lib.hid hbsa
 clear hWa hxa hbwa hbsa hga HONa
 have HO2 := Lib.hid (HO.out.below HBSa.out)
 have a2 := Admit_any Wa _ _ _ R1 3 5 HO2.out.in HF1.out
 rw [HE2.out] at a2
 have HXa1 : Hid (Wa.heap[gxa]? = some (.cells #[.slice aM nM cM, .slice aI nI cI, .slice aA nA cA] 26 (0, 0))) := HXa.out
 go_wp2_with (first
  | (refine wpList_load_row rfl 26 (.tmp 1) rfl gxa rfl 26 #[.slice aM nM cM, .slice aI nI cI, .slice aA nA cA] (0, 0) _ HXa1.out Try.underlying26 rfl HSZa.out ?_)
  | fail)
 refine a2.mono ?_
 clear a2
 rintro e w2 ⟨aM2, nM2, cM2, aI2, nI2, cI2, aA2, nA2, cA2, rfl, ho, hb⟩
 have HB2 := Lib.hid (bgo HBWa.out hb HBWa.out.size)
 have HX2 := Lib.hid (HXa.out.below hb)
 clear hb ho
 have HSZc : Hid ((Try.prog.info? 26).map (·.size) = some (#[.slice aM2 nM2 cM2, .slice aI2 nI2 cI2, .slice aA2 nA2 cA2] : Array Value).size) := by show _ = _; rw [rol_sz]; rfl
 have HONc : Hid ((#[.slice aM2 nM2 cM2, .slice aI2 nI2 cI2, .slice aA2 nA2 cA2] : Array Value).all (·.oneCell') = true) := by show _ = true; simp [Value.oneCell']
 go_upto_region 3 with (first
  | (refine wpList_store_row rfl 26 (.tmp 3) (.tmp 13) rfl w2.heap.size #[.slice aM2 nM2 cM2, .slice aI2 nI2 cI2, .slice aA2 nA2 cA2] rfl rfl 26 #[.slice none 0 0, .slice none 0 0, .slice none 0 0] (heap_alloc_new _ _) HSZc.out rfl HONc.out ?_)
  | fail)
 have hbsc : Below w2.heap.size w2 ((w2.alloc (.cells #[.slice none 0 0, .slice none 0 0, .slice none 0 0] 26)).setRow w2.heap.size #[.slice aM2 nM2 cM2, .slice aI2 nI2 cI2, .slice aA2 nA2 cA2]) := ((Below.refl _ _).alloc (Nat.le_refl _) _).trans (setRow_below (Nat.le_refl _) _)
 have hxc : HT ((w2.alloc (.cells #[.slice none 0 0, .slice none 0 0, .slice none 0 0] 26)).setRow w2.heap.size #[.slice aM2 nM2 cM2, .slice aI2 nI2 cI2, .slice aA2 nA2 cA2]) w2.heap.size 26 [.slice aM2 nM2 cM2, .slice aI2 nI2 cI2, .slice aA2 nA2 cA2] := setRow_heap _ _ _ _ _ _ (heap_alloc_new _ _)
 have hbwc := bgo HB2.out hbsc (Below.size HB2.out)
 obtain ⟨Wc, hWc⟩ : ∃ zz, zz = ((w2.alloc (.cells #[.slice none 0 0, .slice none 0 0, .slice none 0 0] 26)).setRow w2.heap.size #[.slice aM2 nM2 cM2, .slice aI2 nI2 cI2, .slice aA2 nA2 cA2]) := ⟨_, rfl⟩
 rw [← hWc] at hbsc hxc hbwc ⊢
 obtain ⟨gxc, hgc⟩ : ∃ zz, zz = w2.heap.size := ⟨_, rfl⟩
 rw [← hgc] at hxc ⊢
 have HGEc : Hid (∀ m, m ≤ w2.heap.size → m ≤ gxc) := fun m h => by omega
 have HXc := Lib.hid hxc
 have HBWc := Lib.hid hbwc
 have HBSc := Lib.hid hbsc
 clear hWc hxc hbwc hbsc hgc HONc
 have hlen : nM = 1 := by rw [HO.out.in.1.n, HL1.out]
 subst hlen
 have hc0 := (HX2.out.below HBSc.out).cell (j := 0) rfl
 go_wp2_with fail
 go_ret
 exact ⟨rfl, HBWc.out⟩
end Cam
