import Derived.Test.YtilbijekmmkiaaaRlN
import Derived.Test.YtilbijekmmkiaaaRlK
import Derived.Test.YtilbijekmmkiaaaRlL
import Derived.Test.YtilbijekmmkiaaaRlHv
import Derived.Test.YtilbijekmmkiaaaRlS
import Derived.Test.YtilbijekmmkiaaaRlVa
import Derived.Test.YtilbijekmmkiaaaRlVl
import Derived.Test.YtilbijekmmkiaaaRlVh
import Derived.Test.YtilbijekmmkiaaaRlHh
import Derived.Test.YtilbijekmmkiaaaRlHl
import Derived.Test.YtilbijekmmkiaaaRlHt
import Derived.Test.YtilbijekmmkiaaaRlHp
/- ch. 11: RollExact: the walk. -/
namespace Cam
open Go Go.RowKit Go.Proofs
theorem insL_lenle {α : Type} {no : α → Int} {x : α} : ∀ {L : List α}, (insL no x L).length ≤ L.length + 1
 | [] => by simp [insL]
 | y :: L => by
  have ih := insL_lenle (no := no) (x := x) (L := L)
  unfold insL
  by_cases h1 : no y < no x
  ·
   rw [if_pos h1]; simp; exact ih
  ·
   rw [if_neg h1]
   by_cases h2 : no y = no x
   ·
    rw [if_pos h2]; simp
   ·
    rw [if_neg h2]; simp
theorem putL_lenle {α : Type} {no : α → Int} {x : α} {L : List α} : (putL no x L).length ≤ L.length + 1 := by
 rw [putL_insL]
 exact insL_lenle
def few100 (R : RollT) : Prop := R.M.length ≤ 100 ∧ R.I.length ≤ 100 ∧ R.A.length ≤ 100
theorem few100.few {R : RollT} (h : few100 R) : few R := by unfold few100 at h; unfold Cam.few; omega
theorem few_M {R : RollT} (h : few100 R) (x : MbT) : few { R with M := putL MbT.no x R.M } := by
 have := putL_lenle (no := MbT.no) (x := x) (L := R.M)
 unfold few100 at h; unfold few
 simp only
 omega
theorem few_I {R : RollT} (h : few100 R) (x : InT) : few { R with I := putL InT.no x R.I } := by
 have := putL_lenle (no := InT.no) (x := x) (L := R.I)
 unfold few100 at h; unfold few
 simp only
 omega
theorem few_A {R : RollT} (h : few100 R) (x : AsT) : few { R with A := putL AsT.no x R.A } := by
 have := putL_lenle (no := AsT.no) (x := x) (L := R.A)
 unfold few100 at h; unfold few
 simp only
 omega
theorem admitR_few {R : RollT} (h : few100 R) (who need : Int) : few (admitR R who need).2 := by
 unfold admitR
 split
 ·
  exact few_nil
 ·
  split
  ·
   exact few_nil
  ·
   split
   ·
    exact few_nil
   ·
    exact few_M h _
theorem listR_few {R : RollT} (h : few100 R) (i : InT) : few (listR R i).2 := by
 unfold listR
 split
 ·
  exact few_nil
 ·
  split
  ·
   exact few_nil
  ·
   split
   ·
    exact few_nil
   ·
    exact few_I h _
theorem holdR_few {R : RollT} (h : few100 R) (a : AsT) : few (holdR R a).2 := by
 unfold holdR
 split
 ·
  exact few_nil
 ·
  split
  ·
   exact few_nil
  ·
   exact few_A h _
theorem tellR_few {R : RollT} (h : few100 R) (no price : Int) : few (tellR R no price).2 := by
 unfold tellR
 split
 ·
  exact few_nil
 ·
  split
  ·
   exact few_nil
  ·
   split
   ·
    exact few_nil
   ·
    exact few_I h _
theorem stateR_few {R : RollT} (h : few100 R) (who st : Int) : few (stateR R who st).2 := by
 unfold stateR
 split
 ·
  exact few_nil
 ·
  split
  ·
   exact few_nil
  ·
   split
   ·
    exact few_nil
   ·
    exact few_M h _
theorem OwnR.base3 {α : Type} {enc : α → List Value} {K : Nat} {t : TypeId} {w : World} {base base' : Nat} {v : Value} {L : List α} (h : OwnR enc K t w base v L) (hb : ∀ q, v.ownBlock = some q → base' ≤ q) : OwnR enc K t w base' v L := by
 refine ⟨h.1, h.2.1, ?_⟩
 rcases h.2.2 with h2 | ⟨g, cap, cur, rfl, hg, r⟩
 ·
  exact Or.inl h2
 ·
  exact Or.inr ⟨g, cap, cur, rfl, hb g rfl, r⟩
theorem OwnRoll.base3 {w : World} {base base' : Nat} {va vb vc : Value} {R : RollT} (h : OwnRoll w base va vb vc R) (hb : ∀ q, (va.ownBlock = some q ∨ vb.ownBlock = some q ∨ vc.ownBlock = some q) → base' ≤ q) : OwnRoll w base' va vb vc R :=
 ⟨h.1.base3 (fun q e => hb q (.inl e)), h.2.1.base3 (fun q e => hb q (.inr (.inl e))), h.2.2.base3 (fun q e => hb q (.inr (.inr e)))⟩
set_option maxRecDepth 100000 in
set_option maxHeartbeats 25600000 in
theorem RollExact_walk (W : World) (va vb vc : Value) (R : RollT) (who need : Int) (xi : InT) (ya : AsT) (no price st : Int) (h : RollIn W va vb vc R) :
  Calls Try.prog 4 #[.agg #[va, vb, vc], .int .i64 who, .int .i64 need, .agg #[.int .i64 xi.no, .int .i64 xi.cur, .int .i64 xi.mult, .int .i64 xi.add, .int .i64 xi.set, .int .i64 xi.price, .int .i64 xi.h0, .int .i64 xi.h1, .int .i64 xi.h2, .int .i64 xi.h3, .int .i64 xi.h4, .int .i64 xi.h5], .agg #[.int .i64 ya.no, .int .i64 ya.cur, .int .i64 ya.price, .int .i64 ya.cut], .int .i64 no, .int .i64 price, .int .i64 st] W fun e w' => e = .returned (.bool true) ∧ Below W.heap.size W w' := by
 have hrb : HT (W.alloc (.cells #[va, vb, vc] 26)) W.heap.size 26 [va, vb, vc] := by
  have h9 := HT.new (w := W) (t := 26) (C := [va, vb, vc])
  exact h9
 have hrb := hrb.below (w' := ((W.alloc (.cells #[va, vb, vc] 26)).alloc (.cells #[.int .i64 xi.no, .int .i64 xi.cur, .int .i64 xi.mult, .int .i64 xi.add, .int .i64 xi.set, .int .i64 xi.price, .int .i64 xi.h0, .int .i64 xi.h1, .int .i64 xi.h2, .int .i64 xi.h3, .int .i64 xi.h4, .int .i64 xi.h5] 38))) ((Below.refl _ _).alloc (Nat.le_refl _) _)
 have hrb := hrb.below (w' := (((W.alloc (.cells #[va, vb, vc] 26)).alloc (.cells #[.int .i64 xi.no, .int .i64 xi.cur, .int .i64 xi.mult, .int .i64 xi.add, .int .i64 xi.set, .int .i64 xi.price, .int .i64 xi.h0, .int .i64 xi.h1, .int .i64 xi.h2, .int .i64 xi.h3, .int .i64 xi.h4, .int .i64 xi.h5] 38)).alloc (.cells #[.int .i64 ya.no, .int .i64 ya.cur, .int .i64 ya.price, .int .i64 ya.cut] 42))) ((Below.refl _ _).alloc (Nat.le_refl _) _)
 have hib : HT ((W.alloc (.cells #[va, vb, vc] 26)).alloc (.cells #[.int .i64 xi.no, .int .i64 xi.cur, .int .i64 xi.mult, .int .i64 xi.add, .int .i64 xi.set, .int .i64 xi.price, .int .i64 xi.h0, .int .i64 xi.h1, .int .i64 xi.h2, .int .i64 xi.h3, .int .i64 xi.h4, .int .i64 xi.h5] 38)) (W.heap.size + 1) 38 [.int .i64 xi.no, .int .i64 xi.cur, .int .i64 xi.mult, .int .i64 xi.add, .int .i64 xi.set, .int .i64 xi.price, .int .i64 xi.h0, .int .i64 xi.h1, .int .i64 xi.h2, .int .i64 xi.h3, .int .i64 xi.h4, .int .i64 xi.h5] := by
  have h9 := HT.new (w := (W.alloc (.cells #[va, vb, vc] 26))) (t := 38) (C := [.int .i64 xi.no, .int .i64 xi.cur, .int .i64 xi.mult, .int .i64 xi.add, .int .i64 xi.set, .int .i64 xi.price, .int .i64 xi.h0, .int .i64 xi.h1, .int .i64 xi.h2, .int .i64 xi.h3, .int .i64 xi.h4, .int .i64 xi.h5])
  rwa [show (W.alloc (.cells #[va, vb, vc] 26)).heap.size = (W.heap.size + 1) by simp] at h9
 have hib := hib.below (w' := (((W.alloc (.cells #[va, vb, vc] 26)).alloc (.cells #[.int .i64 xi.no, .int .i64 xi.cur, .int .i64 xi.mult, .int .i64 xi.add, .int .i64 xi.set, .int .i64 xi.price, .int .i64 xi.h0, .int .i64 xi.h1, .int .i64 xi.h2, .int .i64 xi.h3, .int .i64 xi.h4, .int .i64 xi.h5] 38)).alloc (.cells #[.int .i64 ya.no, .int .i64 ya.cur, .int .i64 ya.price, .int .i64 ya.cut] 42))) ((Below.refl _ _).alloc (Nat.le_refl _) _)
 have hab : HT (((W.alloc (.cells #[va, vb, vc] 26)).alloc (.cells #[.int .i64 xi.no, .int .i64 xi.cur, .int .i64 xi.mult, .int .i64 xi.add, .int .i64 xi.set, .int .i64 xi.price, .int .i64 xi.h0, .int .i64 xi.h1, .int .i64 xi.h2, .int .i64 xi.h3, .int .i64 xi.h4, .int .i64 xi.h5] 38)).alloc (.cells #[.int .i64 ya.no, .int .i64 ya.cur, .int .i64 ya.price, .int .i64 ya.cut] 42)) (W.heap.size + 2) 42 [.int .i64 ya.no, .int .i64 ya.cur, .int .i64 ya.price, .int .i64 ya.cut] := by
  have h9 := HT.new (w := ((W.alloc (.cells #[va, vb, vc] 26)).alloc (.cells #[.int .i64 xi.no, .int .i64 xi.cur, .int .i64 xi.mult, .int .i64 xi.add, .int .i64 xi.set, .int .i64 xi.price, .int .i64 xi.h0, .int .i64 xi.h1, .int .i64 xi.h2, .int .i64 xi.h3, .int .i64 xi.h4, .int .i64 xi.h5] 38))) (t := 42) (C := [.int .i64 ya.no, .int .i64 ya.cur, .int .i64 ya.price, .int .i64 ya.cut])
  rwa [show ((W.alloc (.cells #[va, vb, vc] 26)).alloc (.cells #[.int .i64 xi.no, .int .i64 xi.cur, .int .i64 xi.mult, .int .i64 xi.add, .int .i64 xi.set, .int .i64 xi.price, .int .i64 xi.h0, .int .i64 xi.h1, .int .i64 xi.h2, .int .i64 xi.h3, .int .i64 xi.h4, .int .i64 xi.h5] 38)).heap.size = (W.heap.size + 2) by simp] at h9
 have hb0 : Below W.heap.size W (((W.alloc (.cells #[va, vb, vc] 26)).alloc (.cells #[.int .i64 xi.no, .int .i64 xi.cur, .int .i64 xi.mult, .int .i64 xi.add, .int .i64 xi.set, .int .i64 xi.price, .int .i64 xi.h0, .int .i64 xi.h1, .int .i64 xi.h2, .int .i64 xi.h3, .int .i64 xi.h4, .int .i64 xi.h5] 38)).alloc (.cells #[.int .i64 ya.no, .int .i64 ya.cur, .int .i64 ya.price, .int .i64 ya.cut] 42)) := (((Below.refl _ _).alloc (Nat.le_refl _) _).alloc (by simp <;> omega) _).alloc (by simp <;> omega) _
 have HRW := Lib.hid (h.mono hb0)
 have HRB := Lib.hid hrb
 have HIB := Lib.hid hib
 have HAB := Lib.hid hab
 have HBL := Lib.hid hb0
 clear h hb0 hrb hib hab
 obtain ⟨hv, hhv⟩ : ∃ b, b = heavyR R := ⟨_, rfl⟩
 have HHV := Lib.hid hhv
 clear hhv
 cases hv
 case true =>
  go_enter Try.func4, Try.ntmps4
  go_upto_region 1 with fail
  generalize hW : (((W.alloc (.cells #[va, vb, vc] 26)).alloc (.cells #[.int .i64 xi.no, .int .i64 xi.cur, .int .i64 xi.mult, .int .i64 xi.add, .int .i64 xi.set, .int .i64 xi.price, .int .i64 xi.h0, .int .i64 xi.h1, .int .i64 xi.h2, .int .i64 xi.h3, .int .i64 xi.h4, .int .i64 xi.h5] 38)).alloc (.cells #[.int .i64 ya.no, .int .i64 ya.cur, .int .i64 ya.price, .int .i64 ya.cut] 42)) = W0 at *
  clear hW
  obtain ⟨gr, hgr⟩ : ∃ g, g = W.heap.size := ⟨_, rfl⟩
  obtain ⟨gi, hgi⟩ : ∃ g, g = W.heap.size + 1 := ⟨_, rfl⟩
  obtain ⟨ga, hga⟩ : ∃ g, g = W.heap.size + 2 := ⟨_, rfl⟩
  have HRB2 : Hid (HT W0 gr 26 [va, vb, vc]) := by have h9 := HRB.out; rwa [← hgr] at h9
  have HIB2 : Hid (HT W0 gi 38 [.int .i64 xi.no, .int .i64 xi.cur, .int .i64 xi.mult, .int .i64 xi.add, .int .i64 xi.set, .int .i64 xi.price, .int .i64 xi.h0, .int .i64 xi.h1, .int .i64 xi.h2, .int .i64 xi.h3, .int .i64 xi.h4, .int .i64 xi.h5]) := by have h9 := HIB.out; rwa [← hgi] at h9
  have HAB2 : Hid (HT W0 ga 42 [.int .i64 ya.no, .int .i64 ya.cur, .int .i64 ya.price, .int .i64 ya.cut]) := by have h9 := HAB.out; rwa [← hga] at h9
  clear HRB HIB HAB
  have HRB := HRB2
  have HIB := HIB2
  have HAB := HAB2
  clear HRB2 HIB2 HAB2
  rw [show W.heap.size + 2 = ga from hga.symm, show W.heap.size + 1 = gi from hgi.symm]
  rw [show Value.pointer (some ⟨W.heap.size, 0, none⟩) = Value.pointer (some ⟨gr, 0, none⟩) by rw [hgr]]
  clear hgr hgi hga
  have hh := Heavy11_any W0 va vb vc R HRW.out
  rw [← HHV.out] at hh
  have HB := HBL
  clear HBL
  have HSZr : Hid ((Try.prog.info? 26).map (·.size) = some (#[va, vb, vc] : Array Value).size) := by show _ = _; rw [rol_sz]; rfl
  have HRBx : Hid (W0.heap[gr]? = some (.cells #[va, vb, vc] 26 (0, 0))) := HRB.out
  go_wp2_with (first
   | (refine wpList_load_row rfl 26 (.tmp 8) rfl gr rfl 26 #[va, vb, vc] (0, 0) _ HRBx.out Try.underlying26 rfl HSZr.out ?_)
   | fail)
  (with_reducible refine hh.mono ?_)
  clear hh HRBx
  rintro e w1 ⟨rfl, hb⟩
  have HRBn := Lib.hid (HRB.out.below hb)
  clear HRB
  have HRB := HRBn
  clear HRBn
  have HIBn := Lib.hid (HIB.out.below hb)
  clear HIB
  have HIB := HIBn
  clear HIBn
  have HABn := Lib.hid (HAB.out.below hb)
  clear HAB
  have HAB := HABn
  clear HABn
  have HRWn := Lib.hid (HRW.out.mono hb)
  clear HRW
  have HRW := HRWn
  clear HRWn
  have HBn := Lib.hid (bgo HB.out hb HB.out.size)
  clear HB
  have HB := HBn
  clear HBn
  clear hb
  go_wp2_with fail
  go_ret
  exact ⟨rfl, HB.out⟩
 case false =>
  go_enter Try.func4, Try.ntmps4
  go_upto_region 1 with fail
  generalize hW : (((W.alloc (.cells #[va, vb, vc] 26)).alloc (.cells #[.int .i64 xi.no, .int .i64 xi.cur, .int .i64 xi.mult, .int .i64 xi.add, .int .i64 xi.set, .int .i64 xi.price, .int .i64 xi.h0, .int .i64 xi.h1, .int .i64 xi.h2, .int .i64 xi.h3, .int .i64 xi.h4, .int .i64 xi.h5] 38)).alloc (.cells #[.int .i64 ya.no, .int .i64 ya.cur, .int .i64 ya.price, .int .i64 ya.cut] 42)) = W0 at *
  clear hW
  obtain ⟨gr, hgr⟩ : ∃ g, g = W.heap.size := ⟨_, rfl⟩
  obtain ⟨gi, hgi⟩ : ∃ g, g = W.heap.size + 1 := ⟨_, rfl⟩
  obtain ⟨ga, hga⟩ : ∃ g, g = W.heap.size + 2 := ⟨_, rfl⟩
  have HRB2 : Hid (HT W0 gr 26 [va, vb, vc]) := by have h9 := HRB.out; rwa [← hgr] at h9
  have HIB2 : Hid (HT W0 gi 38 [.int .i64 xi.no, .int .i64 xi.cur, .int .i64 xi.mult, .int .i64 xi.add, .int .i64 xi.set, .int .i64 xi.price, .int .i64 xi.h0, .int .i64 xi.h1, .int .i64 xi.h2, .int .i64 xi.h3, .int .i64 xi.h4, .int .i64 xi.h5]) := by have h9 := HIB.out; rwa [← hgi] at h9
  have HAB2 : Hid (HT W0 ga 42 [.int .i64 ya.no, .int .i64 ya.cur, .int .i64 ya.price, .int .i64 ya.cut]) := by have h9 := HAB.out; rwa [← hga] at h9
  clear HRB HIB HAB
  have HRB := HRB2
  have HIB := HIB2
  have HAB := HAB2
  clear HRB2 HIB2 HAB2
  rw [show W.heap.size + 2 = ga from hga.symm, show W.heap.size + 1 = gi from hgi.symm]
  rw [show Value.pointer (some ⟨W.heap.size, 0, none⟩) = Value.pointer (some ⟨gr, 0, none⟩) by rw [hgr]]
  clear hgr hgi hga
  have hh := Heavy11_any W0 va vb vc R HRW.out
  rw [← HHV.out] at hh
  have HB := HBL
  clear HBL
  have HSZr : Hid ((Try.prog.info? 26).map (·.size) = some (#[va, vb, vc] : Array Value).size) := by show _ = _; rw [rol_sz]; rfl
  have HRBx : Hid (W0.heap[gr]? = some (.cells #[va, vb, vc] 26 (0, 0))) := HRB.out
  go_wp2_with (first
   | (refine wpList_load_row rfl 26 (.tmp 8) rfl gr rfl 26 #[va, vb, vc] (0, 0) _ HRBx.out Try.underlying26 rfl HSZr.out ?_)
   | fail)
  (with_reducible refine hh.mono ?_)
  clear hh HRBx
  rintro e w1 ⟨rfl, hb⟩
  have HRBn := Lib.hid (HRB.out.below hb)
  clear HRB
  have HRB := HRBn
  clear HRBn
  have HIBn := Lib.hid (HIB.out.below hb)
  clear HIB
  have HIB := HIBn
  clear HIBn
  have HABn := Lib.hid (HAB.out.below hb)
  clear HAB
  have HAB := HABn
  clear HABn
  have HRWn := Lib.hid (HRW.out.mono hb)
  clear HRW
  have HRW := HRWn
  clear HRWn
  have HBn := Lib.hid (bgo HB.out hb HB.out.size)
  clear HB
  have HB := HBn
  clear HBn
  clear hb
  have HF1 : Hid (few100 R) := heavyR_few HHV.out.symm
  have HFEW := Lib.hid HF1.out.few
  have HRBx : Hid (w1.heap[gr]? = some (.cells #[va, vb, vc] 26 (0, 0))) := HRB.out
  go_wp2_with (first
   | (refine wpList_load_row rfl 26 (.tmp 8) rfl gr rfl 26 #[va, vb, vc] (0, 0) _ HRBx.out Try.underlying26 rfl HSZr.out ?_)
   | fail)
  refine (TwinRoll_any _ _ _ _ R HRW.out HFEW.out).mono ?_
  clear HRBx
  rintro e w2 ⟨aM, nM, cM, aI, nI, cI, aA, nA, cA, rfl, ho, hap, hb⟩
  have HO := Lib.hid ho
  clear ho hap
  have HRBn := Lib.hid (HRB.out.below hb)
  clear HRB
  have HRB := HRBn
  clear HRBn
  have HIBn := Lib.hid (HIB.out.below hb)
  clear HIB
  have HIB := HIBn
  clear HIBn
  have HABn := Lib.hid (HAB.out.below hb)
  clear HAB
  have HAB := HABn
  clear HABn
  have HRWn := Lib.hid (HRW.out.mono hb)
  clear HRW
  have HRW := HRWn
  clear HRWn
  have HBn := Lib.hid (bgo HB.out hb HB.out.size)
  clear HB
  have HB := HBn
  clear HBn
  clear hb
  have HSZk1 : Hid ((Try.prog.info? 26).map (·.size) = some (#[.slice aM nM cM, .slice aI nI cI, .slice aA nA cA] : Array Value).size) := by show _ = _; rw [rol_sz]; rfl
  have HONk1 : Hid ((#[.slice aM nM cM, .slice aI nI cI, .slice aA nA cA] : Array Value).all (·.oneCell') = true) := by show _ = true; simp [Value.oneCell']
  go_upto_region 4 with (first
   | (refine wpList_store_row rfl 26 (.tmp 17) (.tmp 26) rfl w2.heap.size #[.slice aM nM cM, .slice aI nI cI, .slice aA nA cA] rfl rfl 26 #[.slice none 0 0, .slice none 0 0, .slice none 0 0] (heap_alloc_new _ _) HSZk1.out rfl HONk1.out ?_)
   | fail)
  have hbsk1 : Below w2.heap.size w2 ((w2.alloc (.cells #[.slice none 0 0, .slice none 0 0, .slice none 0 0] 26)).setRow w2.heap.size #[.slice aM nM cM, .slice aI nI cI, .slice aA nA cA]) := ((Below.refl _ _).alloc (Nat.le_refl _) _).trans (setRow_below (Nat.le_refl _) _)
  have hxk1 : HT ((w2.alloc (.cells #[.slice none 0 0, .slice none 0 0, .slice none 0 0] 26)).setRow w2.heap.size #[.slice aM nM cM, .slice aI nI cI, .slice aA nA cA]) w2.heap.size 26 [.slice aM nM cM, .slice aI nI cI, .slice aA nA cA] := setRow_heap _ _ _ _ _ _ (heap_alloc_new _ _)
  have hbwk1 := bgo HB.out hbsk1 (Below.size HB.out)
  obtain ⟨Wk1, hWk1⟩ : ∃ zz, zz = ((w2.alloc (.cells #[.slice none 0 0, .slice none 0 0, .slice none 0 0] 26)).setRow w2.heap.size #[.slice aM nM cM, .slice aI nI cI, .slice aA nA cA]) := ⟨_, rfl⟩
  rw [← hWk1] at hbsk1 hxk1 hbwk1 ⊢
  obtain ⟨gxk1, hgk1⟩ : ∃ zz, zz = w2.heap.size := ⟨_, rfl⟩
  rw [← hgk1] at hxk1 ⊢
  have HGEk1 : Hid (∀ m, m ≤ w2.heap.size → m ≤ gxk1) := fun m h => by omega
  have HXk1 := Lib.hid hxk1
  have HBWk1 := Lib.hid hbwk1
  have HBSk1 := Lib.hid hbsk1
  clear hWk1 hxk1 hbwk1 hbsk1 hgk1 HONk1
  obtain ⟨gn, hgq⟩ : ∃ g, g = gxk1 := ⟨_, rfl⟩
  rw [← hgq] at HXk1 HGEk1 ⊢
  have HGgn : Hid (W.heap.size ≤ gn) := HGEk1.out _ HB.out.size
  clear hgq HBWk1 HGEk1
  have HRBn := Lib.hid (HRB.out.below HBSk1.out)
  clear HRB
  have HRB := HRBn
  clear HRBn
  have HIBn := Lib.hid (HIB.out.below HBSk1.out)
  clear HIB
  have HIB := HIBn
  clear HIBn
  have HABn := Lib.hid (HAB.out.below HBSk1.out)
  clear HAB
  have HAB := HABn
  clear HABn
  have HRWn := Lib.hid (HRW.out.mono HBSk1.out)
  clear HRW
  have HRW := HRWn
  clear HRWn
  have HOn := Lib.hid (HO.out.below HBSk1.out)
  clear HO
  have HO := HOn
  clear HOn
  have HBn := Lib.hid (bgo HB.out HBSk1.out HB.out.size)
  clear HB
  have HB := HBn
  clear HBn
  clear HBSk1
  have HNB := HXk1
  clear HXk1 HSZk1
  have HSZn : Hid ((Try.prog.info? 26).map (·.size) = some (#[.slice aM nM cM, .slice aI nI cI, .slice aA nA cA] : Array Value).size) := by show _ = _; rw [rol_sz]; rfl
  obtain ⟨B0, hB0⟩ : ∃ b, b = w1.heap.size := ⟨_, rfl⟩
  have HO2 := HO
  rw [← hB0] at HO2
  clear HO hB0
  have HO := HO2
  clear HO2
  go_wp2_with fail
  go_loopw [18] (fun v wr => ∃ z : Int, 0 ≤ z ∧ z ≤ 5 ∧ v = .int .i64 z ∧ HT wr gr 26 [va, vb, vc] ∧ HT wr gn 26 [.slice aM nM cM, .slice aI nI cI, .slice aA nA cA] ∧ HT wr gi 38 [.int .i64 xi.no, .int .i64 xi.cur, .int .i64 xi.mult, .int .i64 xi.add, .int .i64 xi.set, .int .i64 xi.price, .int .i64 xi.h0, .int .i64 xi.h1, .int .i64 xi.h2, .int .i64 xi.h3, .int .i64 xi.h4, .int .i64 xi.h5] ∧ HT wr ga 42 [.int .i64 ya.no, .int .i64 ya.cur, .int .i64 ya.price, .int .i64 ya.cut] ∧ OwnRoll wr B0 (.slice aM nM cM) (.slice aI nI cI) (.slice aA nA cA) R ∧ RollIn wr va vb vc R ∧ Below W.heap.size W wr) (fun v _ => 5 - (intOf v).toNat)
  case atStart => exact ⟨0, by omega, by omega, rfl, HRB.out, HNB.out, HIB.out, HAB.out, HO.out, HRW.out, HB.out⟩
  case round =>
   clear HRB HNB HIB HAB HO HRW HB
   obtain ⟨z, hz0, hz5, rfl, h1, h2, h3, h4, h5, h6, h7⟩ := hrel
   have HRB := Lib.hid h1
   have HNB := Lib.hid h2
   have HIB := Lib.hid h3
   have HAB := Lib.hid h4
   have HO := Lib.hid h5
   have HRW := Lib.hid h6
   have HBL := Lib.hid h7
   clear h1 h2 h3 h4 h5 h6 h7
   have hor : z = 0 ∨ z = 1 ∨ z = 2 ∨ z = 3 ∨ z = 4 ∨ z = 5 := by omega
   clear hz0 hz5
   rcases hor with rfl | rfl | rfl | rfl | rfl | hz
   ·
    skip
    have HB := HBL
    clear HBL
    have HRB_k := HRB
    have HNB_k := HNB
    have HIB_k := HIB
    have HAB_k := HAB
    have HO_k := HO
    have HRW_k := HRW
    have HB_k := HB
    have HRk : Hid (Below wr.heap.size wr wr) := Below.refl _ _
    obtain ⟨X, hX⟩ : ∃ X, X = admitR R who need := ⟨_, rfl⟩
    have HXD := Lib.hid hX
    have HFX : Hid (few X.2) := by rw [hX]; exact admitR_few HF1.out _ _
    clear hX
    have hxb : HT ((wr.alloc (.cells #[.slice none 0 0, .slice none 0 0, .slice none 0 0] 26)).alloc (.cells #[.slice none 0 0, .slice none 0 0, .slice none 0 0] 26)) wr.heap.size 26 [.slice none 0 0, .slice none 0 0, .slice none 0 0] := (HT.new (w := wr) (t := 26) (C := [.slice none 0 0, .slice none 0 0, .slice none 0 0])).below ((Below.refl _ _).alloc (Nat.le_refl _) _)
    have hyb : HT ((wr.alloc (.cells #[.slice none 0 0, .slice none 0 0, .slice none 0 0] 26)).alloc (.cells #[.slice none 0 0, .slice none 0 0, .slice none 0 0] 26)) (wr.heap.size + 1) 26 [.slice none 0 0, .slice none 0 0, .slice none 0 0] := by
     have h9 := HT.new (w := (wr.alloc (.cells #[.slice none 0 0, .slice none 0 0, .slice none 0 0] 26))) (t := 26) (C := [.slice none 0 0, .slice none 0 0, .slice none 0 0])
     rwa [show (wr.alloc (.cells #[.slice none 0 0, .slice none 0 0, .slice none 0 0] 26)).heap.size = wr.heap.size + 1 by simp] at h9
    have hb : Below wr.heap.size wr ((wr.alloc (.cells #[.slice none 0 0, .slice none 0 0, .slice none 0 0] 26)).alloc (.cells #[.slice none 0 0, .slice none 0 0, .slice none 0 0] 26)) := ((Below.refl _ _).alloc (Nat.le_refl _) _).alloc (by simp) _
    have hsz : ((wr.alloc (.cells #[.slice none 0 0, .slice none 0 0, .slice none 0 0] 26)).alloc (.cells #[.slice none 0 0, .slice none 0 0, .slice none 0 0] 26)).heap.size = wr.heap.size + 2 := by simp
    have HXB := Lib.hid hxb
    have HYB := Lib.hid hyb
    clear hxb hyb
    have HSZW := Lib.hid hsz
    clear hsz
    have HBx := Lib.hid hb
    clear hb
    go_upto_region 8 with fail
    have HRBn := Lib.hid (HRB.out.below HBx.out)
    clear HRB
    have HRB := HRBn
    clear HRBn
    have HNBn := Lib.hid (HNB.out.below HBx.out)
    clear HNB
    have HNB := HNBn
    clear HNBn
    have HIBn := Lib.hid (HIB.out.below HBx.out)
    clear HIB
    have HIB := HIBn
    clear HIBn
    have HABn := Lib.hid (HAB.out.below HBx.out)
    clear HAB
    have HAB := HABn
    clear HABn
    have HOn := Lib.hid (HO.out.below HBx.out)
    clear HO
    have HO := HOn
    clear HOn
    have HRWn := Lib.hid (HRW.out.mono HBx.out)
    clear HRW
    have HRW := HRWn
    clear HRWn
    have HBn := Lib.hid (bgo HB.out HBx.out HB.out.size)
    clear HB
    have HB := HBn
    clear HBn
    have HRkn := Lib.hid (bgo HRk.out HBx.out HRk.out.size)
    clear HRk
    have HRk := HRkn
    clear HRkn
    clear HBx
    generalize hW : ((wr.alloc (.cells #[.slice none 0 0, .slice none 0 0, .slice none 0 0] 26)).alloc (.cells #[.slice none 0 0, .slice none 0 0, .slice none 0 0] 26)) = V0 at *
    clear hW
    obtain ⟨gx, hgx⟩ : ∃ g, g = wr.heap.size := ⟨_, rfl⟩
    obtain ⟨gy, hgy⟩ : ∃ g, g = wr.heap.size + 1 := ⟨_, rfl⟩
    have HXB2 : Hid (HT V0 gx 26 [.slice none 0 0, .slice none 0 0, .slice none 0 0]) := by have h9 := HXB.out; rwa [← hgx] at h9
    have HYB2 : Hid (HT V0 gy 26 [.slice none 0 0, .slice none 0 0, .slice none 0 0]) := by have h9 := HYB.out; rwa [← hgy] at h9
    clear HXB HYB
    have HXB := HXB2
    have HYB := HYB2
    clear HXB2 HYB2
    rw [show wr.heap.size + 1 = gy from hgy.symm]
    rw [show Value.pointer (some ⟨wr.heap.size, 0, none⟩) = Value.pointer (some ⟨gx, 0, none⟩) by rw [hgx]]
    have HGXY : Hid (wr.heap.size ≤ gx ∧ gx < gy ∧ gy < V0.heap.size) := by have h9 := HSZW.out; show _ ∧ _ ∧ _; omega
    clear hgx hgy HSZW
    have HNBx : Hid (V0.heap[gn]? = some (.cells #[.slice aM nM cM, .slice aI nI cI, .slice aA nA cA] 26 (0, 0))) := HNB.out
    have cn := Admit_any V0 _ _ _ R who need HO.out.in HFEW.out
    rw [← HXD.out] at cn
    go_wp2_with (first
     | (refine wpList_load_row rfl 26 (.tmp 17) rfl gn rfl 26 #[.slice aM nM cM, .slice aI nI cI, .slice aA nA cA] (0, 0) _ HNBx.out Try.underlying26 rfl HSZn.out ?_)
     | fail)
    (with_reducible refine cn.mono ?_)
    clear cn HNBx
    rintro e u3 ⟨aM3, nM3, cM3, aI3, nI3, cI3, aA3, nA3, cA3, rfl, ho, hb⟩
    have HGE3 : Hid (∀ q, ((Value.slice aM3 nM3 cM3).ownBlock = some q ∨ (Value.slice aI3 nI3 cI3).ownBlock = some q ∨ (Value.slice aA3 nA3 cA3).ownBlock = some q) → gy < q) := fun q hq => by
     have h1 := HGXY.out
     have h2 := HYB.out.lt
     rcases hq with hq | hq | hq
     ·
      have := OwnR.ge ho.1 q hq; omega
     ·
      have := OwnR.ge ho.2.1 q hq; omega
     ·
      have := OwnR.ge ho.2.2 q hq; omega
    have HOX := Lib.hid ho
    clear ho
    have HRBn := Lib.hid (HRB.out.below hb)
    clear HRB
    have HRB := HRBn
    clear HRBn
    have HNBn := Lib.hid (HNB.out.below hb)
    clear HNB
    have HNB := HNBn
    clear HNBn
    have HIBn := Lib.hid (HIB.out.below hb)
    clear HIB
    have HIB := HIBn
    clear HIBn
    have HABn := Lib.hid (HAB.out.below hb)
    clear HAB
    have HAB := HABn
    clear HABn
    have HOn := Lib.hid (HO.out.below hb)
    clear HO
    have HO := HOn
    clear HOn
    have HRWn := Lib.hid (HRW.out.mono hb)
    clear HRW
    have HRW := HRWn
    clear HRWn
    have HXBn := Lib.hid (HXB.out.below hb)
    clear HXB
    have HXB := HXBn
    clear HXBn
    have HYBn := Lib.hid (HYB.out.below hb)
    clear HYB
    have HYB := HYBn
    clear HYBn
    have HBn := Lib.hid (bgo HB.out hb HB.out.size)
    clear HB
    have HB := HBn
    clear HBn
    have HRkn := Lib.hid (bgo HRk.out hb HRk.out.size)
    clear HRk
    have HRk := HRkn
    clear HRkn
    clear hb
    have HSZs3 : Hid ((Try.prog.info? 26).map (·.size) = some (#[.slice aM3 nM3 cM3, .slice aI3 nI3 cI3, .slice aA3 nA3 cA3] : Array Value).size) := by show _ = _; rw [rol_sz]; rfl
    have HONs3 : Hid ((#[.slice aM3 nM3 cM3, .slice aI3 nI3 cI3, .slice aA3 nA3 cA3] : Array Value).all (·.oneCell') = true) := by show _ = true; simp [Value.oneCell']
    have HXBx : Hid (u3.heap[gx]? = some (.cells #[.slice none 0 0, .slice none 0 0, .slice none 0 0] 26 (0, 0))) := HXB.out
    go_upto_region 14 with (first
     | (refine wpList_store_row rfl 26 (.tmp 19) (.tmp 53) rfl gx #[.slice aM3 nM3 cM3, .slice aI3 nI3 cI3, .slice aA3 nA3 cA3] rfl rfl 26 #[.slice none 0 0, .slice none 0 0, .slice none 0 0] HXBx.out HSZs3.out rfl HONs3.out ?_)
     | fail)
    have hk : Kept (fun k => k = gx) u3 (u3.setRow gx #[.slice aM3 nM3 cM3, .slice aI3 nI3 cI3, .slice aA3 nA3 cA3]) := setRow_kept _ _ _
    have hn : Hid (HT (u3.setRow gx #[.slice aM3 nM3 cM3, .slice aI3 nI3 cI3, .slice aA3 nA3 cA3]) gx 26 [.slice aM3 nM3 cM3, .slice aI3 nI3 cI3, .slice aA3 nA3 cA3]) := HT.row HXBx.out rfl
    have hHYB := Lib.hid (HYB.out.keptS hk (fun (e : gy = gx) => by have := HGXY.out; omega))
    have hHOX := Lib.hid (HOX.out.keptQ hk (fun q hq (e : q = gx) => by have h1 := HGE3.out q hq; have h2 := HGXY.out; omega))
    have hRk := Lib.hid (HRk.out.trans (setRow_below (w := u3) (B := wr.heap.size) (g := gx) (by have := HGXY.out; omega) #[.slice aM3 nM3 cM3, .slice aI3 nI3 cI3, .slice aA3 nA3 cA3]))
    have hHRB := Lib.hid (HRB_k.out.below hRk.out)
    have hHNB := Lib.hid (HNB_k.out.below hRk.out)
    have hHIB := Lib.hid (HIB_k.out.below hRk.out)
    have hHAB := Lib.hid (HAB_k.out.below hRk.out)
    have hHO := Lib.hid (HO_k.out.below hRk.out)
    have hHRW := Lib.hid (HRW_k.out.mono hRk.out)
    have hB := Lib.hid (HB_k.out.trans (hRk.out.mono HB_k.out.size))
    clear HB HRk hk HRB HNB HIB HAB HO HRW HXB HYB HOX HXBx
    have HB := hB
    have HRk := hRk
    clear hB hRk
    have HRB := hHRB
    clear hHRB
    have HNB := hHNB
    clear hHNB
    have HIB := hHIB
    clear hHIB
    have HAB := hHAB
    clear hHAB
    have HO := hHO
    clear hHO
    have HRW := hHRW
    clear hHRW
    have HXB := hn
    clear hn
    have HYB := hHYB
    clear hHYB
    have HOX := hHOX
    clear hHOX
    obtain ⟨V3, hV⟩ : ∃ v, v = (u3.setRow gx #[.slice aM3 nM3 cM3, .slice aI3 nI3 cI3, .slice aA3 nA3 cA3]) := ⟨_, rfl⟩
    rw [← hV] at HRB HNB HIB HAB HO HRW HXB HYB HOX HB HRk ⊢
    clear hV
    have HRBx : Hid (V3.heap[gr]? = some (.cells #[va, vb, vc] 26 (0, 0))) := HRB.out
    have cn := rAdmit_any V3 _ _ _ R who need HRW.out HFEW.out
    rw [← HXD.out] at cn
    go_wp2_with (first
     | (refine wpList_load_row rfl 26 (.tmp 8) rfl gr rfl 26 #[va, vb, vc] (0, 0) _ HRBx.out Try.underlying26 rfl HSZr.out ?_)
     | fail)
    (with_reducible refine cn.mono ?_)
    clear cn HRBx
    rintro e u4 ⟨aM4, nM4, cM4, aI4, nI4, cI4, aA4, nA4, cA4, rfl, ho, hb⟩
    have HGE4 : Hid (∀ q, ((Value.slice aM4 nM4 cM4).ownBlock = some q ∨ (Value.slice aI4 nI4 cI4).ownBlock = some q ∨ (Value.slice aA4 nA4 cA4).ownBlock = some q) → gy < q) := fun q hq => by
     have h1 := HGXY.out
     have h2 := HYB.out.lt
     rcases hq with hq | hq | hq
     ·
      have := OwnR.ge ho.1 q hq; omega
     ·
      have := OwnR.ge ho.2.1 q hq; omega
     ·
      have := OwnR.ge ho.2.2 q hq; omega
    have HOY := Lib.hid ho
    clear ho
    have HRBn := Lib.hid (HRB.out.below hb)
    clear HRB
    have HRB := HRBn
    clear HRBn
    have HNBn := Lib.hid (HNB.out.below hb)
    clear HNB
    have HNB := HNBn
    clear HNBn
    have HIBn := Lib.hid (HIB.out.below hb)
    clear HIB
    have HIB := HIBn
    clear HIBn
    have HABn := Lib.hid (HAB.out.below hb)
    clear HAB
    have HAB := HABn
    clear HABn
    have HOn := Lib.hid (HO.out.below hb)
    clear HO
    have HO := HOn
    clear HOn
    have HRWn := Lib.hid (HRW.out.mono hb)
    clear HRW
    have HRW := HRWn
    clear HRWn
    have HXBn := Lib.hid (HXB.out.below hb)
    clear HXB
    have HXB := HXBn
    clear HXBn
    have HYBn := Lib.hid (HYB.out.below hb)
    clear HYB
    have HYB := HYBn
    clear HYBn
    have HOXn := Lib.hid (HOX.out.below hb)
    clear HOX
    have HOX := HOXn
    clear HOXn
    have HBn := Lib.hid (bgo HB.out hb HB.out.size)
    clear HB
    have HB := HBn
    clear HBn
    have HRkn := Lib.hid (bgo HRk.out hb HRk.out.size)
    clear HRk
    have HRk := HRkn
    clear HRkn
    clear hb
    have HSZs4 : Hid ((Try.prog.info? 26).map (·.size) = some (#[.slice aM4 nM4 cM4, .slice aI4 nI4 cI4, .slice aA4 nA4 cA4] : Array Value).size) := by show _ = _; rw [rol_sz]; rfl
    have HONs4 : Hid ((#[.slice aM4 nM4 cM4, .slice aI4 nI4 cI4, .slice aA4 nA4 cA4] : Array Value).all (·.oneCell') = true) := by show _ = true; simp [Value.oneCell']
    have HYBx : Hid (u4.heap[gy]? = some (.cells #[.slice none 0 0, .slice none 0 0, .slice none 0 0] 26 (0, 0))) := HYB.out
    go_upto_region 24 with (first
     | (refine wpList_store_row rfl 26 (.tmp 20) (.tmp 60) rfl gy #[.slice aM4 nM4 cM4, .slice aI4 nI4 cI4, .slice aA4 nA4 cA4] rfl rfl 26 #[.slice none 0 0, .slice none 0 0, .slice none 0 0] HYBx.out HSZs4.out rfl HONs4.out ?_)
     | fail)
    have hk : Kept (fun k => k = gy) u4 (u4.setRow gy #[.slice aM4 nM4 cM4, .slice aI4 nI4 cI4, .slice aA4 nA4 cA4]) := setRow_kept _ _ _
    have hn : Hid (HT (u4.setRow gy #[.slice aM4 nM4 cM4, .slice aI4 nI4 cI4, .slice aA4 nA4 cA4]) gy 26 [.slice aM4 nM4 cM4, .slice aI4 nI4 cI4, .slice aA4 nA4 cA4]) := HT.row HYBx.out rfl
    have hHXB := Lib.hid (HXB.out.keptS hk (fun (e : gx = gy) => by have := HGXY.out; omega))
    have hHOX := Lib.hid (HOX.out.keptQ hk (fun q hq (e : q = gy) => by have h1 := HGE3.out q hq; have h2 := HGXY.out; omega))
    have hHOY := Lib.hid (HOY.out.keptQ hk (fun q hq (e : q = gy) => by have h1 := HGE4.out q hq; have h2 := HGXY.out; omega))
    have hRk := Lib.hid (HRk.out.trans (setRow_below (w := u4) (B := wr.heap.size) (g := gy) (by have := HGXY.out; omega) #[.slice aM4 nM4 cM4, .slice aI4 nI4 cI4, .slice aA4 nA4 cA4]))
    have hHRB := Lib.hid (HRB_k.out.below hRk.out)
    have hHNB := Lib.hid (HNB_k.out.below hRk.out)
    have hHIB := Lib.hid (HIB_k.out.below hRk.out)
    have hHAB := Lib.hid (HAB_k.out.below hRk.out)
    have hHO := Lib.hid (HO_k.out.below hRk.out)
    have hHRW := Lib.hid (HRW_k.out.mono hRk.out)
    have hB := Lib.hid (HB_k.out.trans (hRk.out.mono HB_k.out.size))
    clear HB HRk hk HRB HNB HIB HAB HO HRW HXB HYB HOX HOY HYBx
    have HB := hB
    have HRk := hRk
    clear hB hRk
    have HRB := hHRB
    clear hHRB
    have HNB := hHNB
    clear hHNB
    have HIB := hHIB
    clear hHIB
    have HAB := hHAB
    clear hHAB
    have HO := hHO
    clear hHO
    have HRW := hHRW
    clear hHRW
    have HXB := hHXB
    clear hHXB
    have HYB := hn
    clear hn
    have HOX := hHOX
    clear hHOX
    have HOY := hHOY
    clear hHOY
    obtain ⟨V4, hV⟩ : ∃ v, v = (u4.setRow gy #[.slice aM4 nM4 cM4, .slice aI4 nI4 cI4, .slice aA4 nA4 cA4]) := ⟨_, rfl⟩
    rw [← hV] at HRB HNB HIB HAB HO HRW HXB HYB HOX HOY HB HRk ⊢
    clear hV
    have HXBx : Hid (V4.heap[gx]? = some (.cells #[.slice aM3 nM3 cM3, .slice aI3 nI3 cI3, .slice aA3 nA3 cA3] 26 (0, 0))) := HXB.out
    have HYBx : Hid (V4.heap[gy]? = some (.cells #[.slice aM4 nM4 cM4, .slice aI4 nI4 cI4, .slice aA4 nA4 cA4] 26 (0, 0))) := HYB.out
    go_wp2_with (first
     | (refine wpList_load_row rfl 26 (.tmp 19) rfl gx rfl 26 #[.slice aM3 nM3 cM3, .slice aI3 nI3 cI3, .slice aA3 nA3 cA3] (0, 0) _ HXBx.out Try.underlying26 rfl HSZs3.out ?_)
     | (refine wpList_load_row rfl 26 (.tmp 20) rfl gy rfl 26 #[.slice aM4 nM4 cM4, .slice aI4 nI4 cI4, .slice aA4 nA4 cA4] (0, 0) _ HYBx.out Try.underlying26 rfl HSZs4.out ?_)
     | fail)
    refine (KRoll_same _ _ _ _ _ _ _ X.2.M X.2.I X.2.A HOX.out.in.1 HOY.out.in.1 HOX.out.in.2.1 HOY.out.in.2.1 HOX.out.in.2.2 HOY.out.in.2.2).mono ?_
    clear HXBx HYBx
    rintro e t1 ⟨rfl, hb⟩
    have HRBn := Lib.hid (HRB.out.below hb)
    clear HRB
    have HRB := HRBn
    clear HRBn
    have HNBn := Lib.hid (HNB.out.below hb)
    clear HNB
    have HNB := HNBn
    clear HNBn
    have HIBn := Lib.hid (HIB.out.below hb)
    clear HIB
    have HIB := HIBn
    clear HIBn
    have HABn := Lib.hid (HAB.out.below hb)
    clear HAB
    have HAB := HABn
    clear HABn
    have HOn := Lib.hid (HO.out.below hb)
    clear HO
    have HO := HOn
    clear HOn
    have HRWn := Lib.hid (HRW.out.mono hb)
    clear HRW
    have HRW := HRWn
    clear HRWn
    have HXBn := Lib.hid (HXB.out.below hb)
    clear HXB
    have HXB := HXBn
    clear HXBn
    have HYBn := Lib.hid (HYB.out.below hb)
    clear HYB
    have HYB := HYBn
    clear HYBn
    have HOXn := Lib.hid (HOX.out.below hb)
    clear HOX
    have HOX := HOXn
    clear HOXn
    have HOYn := Lib.hid (HOY.out.below hb)
    clear HOY
    have HOY := HOYn
    clear HOYn
    have HBn := Lib.hid (bgo HB.out hb HB.out.size)
    clear HB
    have HB := HBn
    clear HBn
    have HRkn := Lib.hid (bgo HRk.out hb HRk.out.size)
    clear HRk
    have HRk := HRkn
    clear HRkn
    clear hb
    have HXBx : Hid (t1.heap[gx]? = some (.cells #[.slice aM3 nM3 cM3, .slice aI3 nI3 cI3, .slice aA3 nA3 cA3] 26 (0, 0))) := HXB.out
    have hap3 : OwnRoll t1 wr.heap.size (.slice aM3 nM3 cM3) (.slice aI3 nI3 cI3) (.slice aA3 nA3 cA3) X.2 := HOX.out.base3 (fun q hq => by have h1 := HGE3.out q hq; have h2 := HGXY.out; omega)
    go_wp2_with (first
     | (refine wpList_load_row rfl 26 (.tmp 19) rfl gx rfl 26 #[.slice aM3 nM3 cM3, .slice aI3 nI3 cI3, .slice aA3 nA3 cA3] (0, 0) _ HXBx.out Try.underlying26 rfl HSZs3.out ?_)
     | fail)
    refine (SpoilRoll_any _ wr.heap.size _ _ _ _ hap3 HFX.out HRk.out.size).mono ?_
    clear HXBx hap3
    rintro e z1 ⟨rfl, hb⟩
    have HRn := Lib.hid (HRk.out.trans hb)
    clear HRk HB HRB HNB HIB HAB HO HRW HXB HYB HOX HOY
    have HRB := Lib.hid (HRB_k.out.below HRn.out)
    have HNB := Lib.hid (HNB_k.out.below HRn.out)
    have HIB := Lib.hid (HIB_k.out.below HRn.out)
    have HAB := Lib.hid (HAB_k.out.below HRn.out)
    have HO := Lib.hid (HO_k.out.below HRn.out)
    have HRW := Lib.hid (HRW_k.out.mono HRn.out)
    have HB := Lib.hid (HB_k.out.trans (HRn.out.mono HB_k.out.size))
    clear HRn HB_k HRB_k HNB_k HIB_k HAB_k HO_k HRW_k
    clear hb
    have HNBx : Hid (z1.heap[gn]? = some (.cells #[.slice aM nM cM, .slice aI nI cI, .slice aA nA cA] 26 (0, 0))) := HNB.out
    have HRBx : Hid (z1.heap[gr]? = some (.cells #[va, vb, vc] 26 (0, 0))) := HRB.out
    go_wp2_with (first
     | (refine wpList_load_row rfl 26 (.tmp 17) rfl gn rfl 26 #[.slice aM nM cM, .slice aI nI cI, .slice aA nA cA] (0, 0) _ HNBx.out Try.underlying26 rfl HSZn.out ?_)
     | (refine wpList_load_row rfl 26 (.tmp 8) rfl gr rfl 26 #[va, vb, vc] (0, 0) _ HRBx.out Try.underlying26 rfl HSZr.out ?_)
     | fail)
    refine (KRoll_same _ _ _ _ _ _ _ R.M R.I R.A HO.out.in.1 HRW.out.1 HO.out.in.2.1 HRW.out.2.1 HO.out.in.2.2 HRW.out.2.2).mono ?_
    clear HNBx HRBx
    rintro e z3 ⟨rfl, hb⟩
    have HRBn := Lib.hid (HRB.out.below hb)
    clear HRB
    have HRB := HRBn
    clear HRBn
    have HNBn := Lib.hid (HNB.out.below hb)
    clear HNB
    have HNB := HNBn
    clear HNBn
    have HIBn := Lib.hid (HIB.out.below hb)
    clear HIB
    have HIB := HIBn
    clear HIBn
    have HABn := Lib.hid (HAB.out.below hb)
    clear HAB
    have HAB := HABn
    clear HABn
    have HOn := Lib.hid (HO.out.below hb)
    clear HO
    have HO := HOn
    clear HOn
    have HRWn := Lib.hid (HRW.out.mono hb)
    clear HRW
    have HRW := HRWn
    clear HRWn
    have HBn := Lib.hid (bgo HB.out hb HB.out.size)
    clear HB
    have HB := HBn
    clear HBn
    clear hb
    go_wp2_with fail
    exact ⟨⟨1, by omega, by omega, rfl, HRB.out, HNB.out, HIB.out, HAB.out, HO.out, HRW.out, HB.out⟩, by simp [intOf]⟩
   ·
    skip
    have HB := HBL
    clear HBL
    have HRB_k := HRB
    have HNB_k := HNB
    have HIB_k := HIB
    have HAB_k := HAB
    have HO_k := HO
    have HRW_k := HRW
    have HB_k := HB
    have HRk : Hid (Below wr.heap.size wr wr) := Below.refl _ _
    obtain ⟨X, hX⟩ : ∃ X, X = listR R xi := ⟨_, rfl⟩
    have HXD := Lib.hid hX
    have HFX : Hid (few X.2) := by rw [hX]; exact listR_few HF1.out _
    clear hX
    have hxb : HT ((wr.alloc (.cells #[.slice none 0 0, .slice none 0 0, .slice none 0 0] 26)).alloc (.cells #[.slice none 0 0, .slice none 0 0, .slice none 0 0] 26)) wr.heap.size 26 [.slice none 0 0, .slice none 0 0, .slice none 0 0] := (HT.new (w := wr) (t := 26) (C := [.slice none 0 0, .slice none 0 0, .slice none 0 0])).below ((Below.refl _ _).alloc (Nat.le_refl _) _)
    have hyb : HT ((wr.alloc (.cells #[.slice none 0 0, .slice none 0 0, .slice none 0 0] 26)).alloc (.cells #[.slice none 0 0, .slice none 0 0, .slice none 0 0] 26)) (wr.heap.size + 1) 26 [.slice none 0 0, .slice none 0 0, .slice none 0 0] := by
     have h9 := HT.new (w := (wr.alloc (.cells #[.slice none 0 0, .slice none 0 0, .slice none 0 0] 26))) (t := 26) (C := [.slice none 0 0, .slice none 0 0, .slice none 0 0])
     rwa [show (wr.alloc (.cells #[.slice none 0 0, .slice none 0 0, .slice none 0 0] 26)).heap.size = wr.heap.size + 1 by simp] at h9
    have hb : Below wr.heap.size wr ((wr.alloc (.cells #[.slice none 0 0, .slice none 0 0, .slice none 0 0] 26)).alloc (.cells #[.slice none 0 0, .slice none 0 0, .slice none 0 0] 26)) := ((Below.refl _ _).alloc (Nat.le_refl _) _).alloc (by simp) _
    have hsz : ((wr.alloc (.cells #[.slice none 0 0, .slice none 0 0, .slice none 0 0] 26)).alloc (.cells #[.slice none 0 0, .slice none 0 0, .slice none 0 0] 26)).heap.size = wr.heap.size + 2 := by simp
    have HXB := Lib.hid hxb
    have HYB := Lib.hid hyb
    clear hxb hyb
    have HSZW := Lib.hid hsz
    clear hsz
    have HBx := Lib.hid hb
    clear hb
    go_upto_region 8 with fail
    have HRBn := Lib.hid (HRB.out.below HBx.out)
    clear HRB
    have HRB := HRBn
    clear HRBn
    have HNBn := Lib.hid (HNB.out.below HBx.out)
    clear HNB
    have HNB := HNBn
    clear HNBn
    have HIBn := Lib.hid (HIB.out.below HBx.out)
    clear HIB
    have HIB := HIBn
    clear HIBn
    have HABn := Lib.hid (HAB.out.below HBx.out)
    clear HAB
    have HAB := HABn
    clear HABn
    have HOn := Lib.hid (HO.out.below HBx.out)
    clear HO
    have HO := HOn
    clear HOn
    have HRWn := Lib.hid (HRW.out.mono HBx.out)
    clear HRW
    have HRW := HRWn
    clear HRWn
    have HBn := Lib.hid (bgo HB.out HBx.out HB.out.size)
    clear HB
    have HB := HBn
    clear HBn
    have HRkn := Lib.hid (bgo HRk.out HBx.out HRk.out.size)
    clear HRk
    have HRk := HRkn
    clear HRkn
    clear HBx
    generalize hW : ((wr.alloc (.cells #[.slice none 0 0, .slice none 0 0, .slice none 0 0] 26)).alloc (.cells #[.slice none 0 0, .slice none 0 0, .slice none 0 0] 26)) = V0 at *
    clear hW
    obtain ⟨gx, hgx⟩ : ∃ g, g = wr.heap.size := ⟨_, rfl⟩
    obtain ⟨gy, hgy⟩ : ∃ g, g = wr.heap.size + 1 := ⟨_, rfl⟩
    have HXB2 : Hid (HT V0 gx 26 [.slice none 0 0, .slice none 0 0, .slice none 0 0]) := by have h9 := HXB.out; rwa [← hgx] at h9
    have HYB2 : Hid (HT V0 gy 26 [.slice none 0 0, .slice none 0 0, .slice none 0 0]) := by have h9 := HYB.out; rwa [← hgy] at h9
    clear HXB HYB
    have HXB := HXB2
    have HYB := HYB2
    clear HXB2 HYB2
    rw [show wr.heap.size + 1 = gy from hgy.symm]
    rw [show Value.pointer (some ⟨wr.heap.size, 0, none⟩) = Value.pointer (some ⟨gx, 0, none⟩) by rw [hgx]]
    have HGXY : Hid (wr.heap.size ≤ gx ∧ gx < gy ∧ gy < V0.heap.size) := by have h9 := HSZW.out; show _ ∧ _ ∧ _; omega
    clear hgx hgy HSZW
    have HSZm : Hid ((Try.prog.info? 38).map (·.size) = some (#[.int .i64 xi.no, .int .i64 xi.cur, .int .i64 xi.mult, .int .i64 xi.add, .int .i64 xi.set, .int .i64 xi.price, .int .i64 xi.h0, .int .i64 xi.h1, .int .i64 xi.h2, .int .i64 xi.h3, .int .i64 xi.h4, .int .i64 xi.h5] : Array Value).size) := by show _ = _; rw [ins_sz]; rfl
    have HNBx : Hid (V0.heap[gn]? = some (.cells #[.slice aM nM cM, .slice aI nI cI, .slice aA nA cA] 26 (0, 0))) := HNB.out
    have HIBx : Hid (V0.heap[gi]? = some (.cells #[.int .i64 xi.no, .int .i64 xi.cur, .int .i64 xi.mult, .int .i64 xi.add, .int .i64 xi.set, .int .i64 xi.price, .int .i64 xi.h0, .int .i64 xi.h1, .int .i64 xi.h2, .int .i64 xi.h3, .int .i64 xi.h4, .int .i64 xi.h5] 38 (0, 0))) := HIB.out
    have cn := List_any V0 _ _ _ R xi HO.out.in HFEW.out
    rw [← HXD.out] at cn
    go_wp2_with (first
     | (refine wpList_load_row rfl 26 (.tmp 17) rfl gn rfl 26 #[.slice aM nM cM, .slice aI nI cI, .slice aA nA cA] (0, 0) _ HNBx.out Try.underlying26 rfl HSZn.out ?_)
     | (refine wpList_load_row rfl 38 (.tmp 11) rfl gi rfl 38 #[.int .i64 xi.no, .int .i64 xi.cur, .int .i64 xi.mult, .int .i64 xi.add, .int .i64 xi.set, .int .i64 xi.price, .int .i64 xi.h0, .int .i64 xi.h1, .int .i64 xi.h2, .int .i64 xi.h3, .int .i64 xi.h4, .int .i64 xi.h5] (0, 0) _ HIBx.out Try.underlying38 rfl HSZm.out ?_)
     | fail)
    (with_reducible refine cn.mono ?_)
    clear cn HNBx HIBx
    rintro e u3 ⟨aM3, nM3, cM3, aI3, nI3, cI3, aA3, nA3, cA3, rfl, ho, hb⟩
    have HGE3 : Hid (∀ q, ((Value.slice aM3 nM3 cM3).ownBlock = some q ∨ (Value.slice aI3 nI3 cI3).ownBlock = some q ∨ (Value.slice aA3 nA3 cA3).ownBlock = some q) → gy < q) := fun q hq => by
     have h1 := HGXY.out
     have h2 := HYB.out.lt
     rcases hq with hq | hq | hq
     ·
      have := OwnR.ge ho.1 q hq; omega
     ·
      have := OwnR.ge ho.2.1 q hq; omega
     ·
      have := OwnR.ge ho.2.2 q hq; omega
    have HOX := Lib.hid ho
    clear ho
    have HRBn := Lib.hid (HRB.out.below hb)
    clear HRB
    have HRB := HRBn
    clear HRBn
    have HNBn := Lib.hid (HNB.out.below hb)
    clear HNB
    have HNB := HNBn
    clear HNBn
    have HIBn := Lib.hid (HIB.out.below hb)
    clear HIB
    have HIB := HIBn
    clear HIBn
    have HABn := Lib.hid (HAB.out.below hb)
    clear HAB
    have HAB := HABn
    clear HABn
    have HOn := Lib.hid (HO.out.below hb)
    clear HO
    have HO := HOn
    clear HOn
    have HRWn := Lib.hid (HRW.out.mono hb)
    clear HRW
    have HRW := HRWn
    clear HRWn
    have HXBn := Lib.hid (HXB.out.below hb)
    clear HXB
    have HXB := HXBn
    clear HXBn
    have HYBn := Lib.hid (HYB.out.below hb)
    clear HYB
    have HYB := HYBn
    clear HYBn
    have HBn := Lib.hid (bgo HB.out hb HB.out.size)
    clear HB
    have HB := HBn
    clear HBn
    have HRkn := Lib.hid (bgo HRk.out hb HRk.out.size)
    clear HRk
    have HRk := HRkn
    clear HRkn
    clear hb
    have HSZs3 : Hid ((Try.prog.info? 26).map (·.size) = some (#[.slice aM3 nM3 cM3, .slice aI3 nI3 cI3, .slice aA3 nA3 cA3] : Array Value).size) := by show _ = _; rw [rol_sz]; rfl
    have HONs3 : Hid ((#[.slice aM3 nM3 cM3, .slice aI3 nI3 cI3, .slice aA3 nA3 cA3] : Array Value).all (·.oneCell') = true) := by show _ = true; simp [Value.oneCell']
    have HXBx : Hid (u3.heap[gx]? = some (.cells #[.slice none 0 0, .slice none 0 0, .slice none 0 0] 26 (0, 0))) := HXB.out
    go_upto_region 17 with (first
     | (refine wpList_store_row rfl 26 (.tmp 19) (.tmp 68) rfl gx #[.slice aM3 nM3 cM3, .slice aI3 nI3 cI3, .slice aA3 nA3 cA3] rfl rfl 26 #[.slice none 0 0, .slice none 0 0, .slice none 0 0] HXBx.out HSZs3.out rfl HONs3.out ?_)
     | fail)
    have hk : Kept (fun k => k = gx) u3 (u3.setRow gx #[.slice aM3 nM3 cM3, .slice aI3 nI3 cI3, .slice aA3 nA3 cA3]) := setRow_kept _ _ _
    have hn : Hid (HT (u3.setRow gx #[.slice aM3 nM3 cM3, .slice aI3 nI3 cI3, .slice aA3 nA3 cA3]) gx 26 [.slice aM3 nM3 cM3, .slice aI3 nI3 cI3, .slice aA3 nA3 cA3]) := HT.row HXBx.out rfl
    have hHYB := Lib.hid (HYB.out.keptS hk (fun (e : gy = gx) => by have := HGXY.out; omega))
    have hHOX := Lib.hid (HOX.out.keptQ hk (fun q hq (e : q = gx) => by have h1 := HGE3.out q hq; have h2 := HGXY.out; omega))
    have hRk := Lib.hid (HRk.out.trans (setRow_below (w := u3) (B := wr.heap.size) (g := gx) (by have := HGXY.out; omega) #[.slice aM3 nM3 cM3, .slice aI3 nI3 cI3, .slice aA3 nA3 cA3]))
    have hHRB := Lib.hid (HRB_k.out.below hRk.out)
    have hHNB := Lib.hid (HNB_k.out.below hRk.out)
    have hHIB := Lib.hid (HIB_k.out.below hRk.out)
    have hHAB := Lib.hid (HAB_k.out.below hRk.out)
    have hHO := Lib.hid (HO_k.out.below hRk.out)
    have hHRW := Lib.hid (HRW_k.out.mono hRk.out)
    have hB := Lib.hid (HB_k.out.trans (hRk.out.mono HB_k.out.size))
    clear HB HRk hk HRB HNB HIB HAB HO HRW HXB HYB HOX HXBx
    have HB := hB
    have HRk := hRk
    clear hB hRk
    have HRB := hHRB
    clear hHRB
    have HNB := hHNB
    clear hHNB
    have HIB := hHIB
    clear hHIB
    have HAB := hHAB
    clear hHAB
    have HO := hHO
    clear hHO
    have HRW := hHRW
    clear hHRW
    have HXB := hn
    clear hn
    have HYB := hHYB
    clear hHYB
    have HOX := hHOX
    clear hHOX
    obtain ⟨V3, hV⟩ : ∃ v, v = (u3.setRow gx #[.slice aM3 nM3 cM3, .slice aI3 nI3 cI3, .slice aA3 nA3 cA3]) := ⟨_, rfl⟩
    rw [← hV] at HRB HNB HIB HAB HO HRW HXB HYB HOX HB HRk ⊢
    clear hV
    have HRBx : Hid (V3.heap[gr]? = some (.cells #[va, vb, vc] 26 (0, 0))) := HRB.out
    have HIBx : Hid (V3.heap[gi]? = some (.cells #[.int .i64 xi.no, .int .i64 xi.cur, .int .i64 xi.mult, .int .i64 xi.add, .int .i64 xi.set, .int .i64 xi.price, .int .i64 xi.h0, .int .i64 xi.h1, .int .i64 xi.h2, .int .i64 xi.h3, .int .i64 xi.h4, .int .i64 xi.h5] 38 (0, 0))) := HIB.out
    have cn := rList_any V3 _ _ _ R xi HRW.out HFEW.out
    rw [← HXD.out] at cn
    go_wp2_with (first
     | (refine wpList_load_row rfl 26 (.tmp 8) rfl gr rfl 26 #[va, vb, vc] (0, 0) _ HRBx.out Try.underlying26 rfl HSZr.out ?_)
     | (refine wpList_load_row rfl 38 (.tmp 11) rfl gi rfl 38 #[.int .i64 xi.no, .int .i64 xi.cur, .int .i64 xi.mult, .int .i64 xi.add, .int .i64 xi.set, .int .i64 xi.price, .int .i64 xi.h0, .int .i64 xi.h1, .int .i64 xi.h2, .int .i64 xi.h3, .int .i64 xi.h4, .int .i64 xi.h5] (0, 0) _ HIBx.out Try.underlying38 rfl HSZm.out ?_)
     | fail)
    (with_reducible refine cn.mono ?_)
    clear cn HRBx HIBx
    rintro e u4 ⟨aM4, nM4, cM4, aI4, nI4, cI4, aA4, nA4, cA4, rfl, ho, hb⟩
    have HGE4 : Hid (∀ q, ((Value.slice aM4 nM4 cM4).ownBlock = some q ∨ (Value.slice aI4 nI4 cI4).ownBlock = some q ∨ (Value.slice aA4 nA4 cA4).ownBlock = some q) → gy < q) := fun q hq => by
     have h1 := HGXY.out
     have h2 := HYB.out.lt
     rcases hq with hq | hq | hq
     ·
      have := OwnR.ge ho.1 q hq; omega
     ·
      have := OwnR.ge ho.2.1 q hq; omega
     ·
      have := OwnR.ge ho.2.2 q hq; omega
    have HOY := Lib.hid ho
    clear ho
    have HRBn := Lib.hid (HRB.out.below hb)
    clear HRB
    have HRB := HRBn
    clear HRBn
    have HNBn := Lib.hid (HNB.out.below hb)
    clear HNB
    have HNB := HNBn
    clear HNBn
    have HIBn := Lib.hid (HIB.out.below hb)
    clear HIB
    have HIB := HIBn
    clear HIBn
    have HABn := Lib.hid (HAB.out.below hb)
    clear HAB
    have HAB := HABn
    clear HABn
    have HOn := Lib.hid (HO.out.below hb)
    clear HO
    have HO := HOn
    clear HOn
    have HRWn := Lib.hid (HRW.out.mono hb)
    clear HRW
    have HRW := HRWn
    clear HRWn
    have HXBn := Lib.hid (HXB.out.below hb)
    clear HXB
    have HXB := HXBn
    clear HXBn
    have HYBn := Lib.hid (HYB.out.below hb)
    clear HYB
    have HYB := HYBn
    clear HYBn
    have HOXn := Lib.hid (HOX.out.below hb)
    clear HOX
    have HOX := HOXn
    clear HOXn
    have HBn := Lib.hid (bgo HB.out hb HB.out.size)
    clear HB
    have HB := HBn
    clear HBn
    have HRkn := Lib.hid (bgo HRk.out hb HRk.out.size)
    clear HRk
    have HRk := HRkn
    clear HRkn
    clear hb
    have HSZs4 : Hid ((Try.prog.info? 26).map (·.size) = some (#[.slice aM4 nM4 cM4, .slice aI4 nI4 cI4, .slice aA4 nA4 cA4] : Array Value).size) := by show _ = _; rw [rol_sz]; rfl
    have HONs4 : Hid ((#[.slice aM4 nM4 cM4, .slice aI4 nI4 cI4, .slice aA4 nA4 cA4] : Array Value).all (·.oneCell') = true) := by show _ = true; simp [Value.oneCell']
    have HYBx : Hid (u4.heap[gy]? = some (.cells #[.slice none 0 0, .slice none 0 0, .slice none 0 0] 26 (0, 0))) := HYB.out
    go_upto_region 24 with (first
     | (refine wpList_store_row rfl 26 (.tmp 20) (.tmp 74) rfl gy #[.slice aM4 nM4 cM4, .slice aI4 nI4 cI4, .slice aA4 nA4 cA4] rfl rfl 26 #[.slice none 0 0, .slice none 0 0, .slice none 0 0] HYBx.out HSZs4.out rfl HONs4.out ?_)
     | fail)
    have hk : Kept (fun k => k = gy) u4 (u4.setRow gy #[.slice aM4 nM4 cM4, .slice aI4 nI4 cI4, .slice aA4 nA4 cA4]) := setRow_kept _ _ _
    have hn : Hid (HT (u4.setRow gy #[.slice aM4 nM4 cM4, .slice aI4 nI4 cI4, .slice aA4 nA4 cA4]) gy 26 [.slice aM4 nM4 cM4, .slice aI4 nI4 cI4, .slice aA4 nA4 cA4]) := HT.row HYBx.out rfl
    have hHXB := Lib.hid (HXB.out.keptS hk (fun (e : gx = gy) => by have := HGXY.out; omega))
    have hHOX := Lib.hid (HOX.out.keptQ hk (fun q hq (e : q = gy) => by have h1 := HGE3.out q hq; have h2 := HGXY.out; omega))
    have hHOY := Lib.hid (HOY.out.keptQ hk (fun q hq (e : q = gy) => by have h1 := HGE4.out q hq; have h2 := HGXY.out; omega))
    have hRk := Lib.hid (HRk.out.trans (setRow_below (w := u4) (B := wr.heap.size) (g := gy) (by have := HGXY.out; omega) #[.slice aM4 nM4 cM4, .slice aI4 nI4 cI4, .slice aA4 nA4 cA4]))
    have hHRB := Lib.hid (HRB_k.out.below hRk.out)
    have hHNB := Lib.hid (HNB_k.out.below hRk.out)
    have hHIB := Lib.hid (HIB_k.out.below hRk.out)
    have hHAB := Lib.hid (HAB_k.out.below hRk.out)
    have hHO := Lib.hid (HO_k.out.below hRk.out)
    have hHRW := Lib.hid (HRW_k.out.mono hRk.out)
    have hB := Lib.hid (HB_k.out.trans (hRk.out.mono HB_k.out.size))
    clear HB HRk hk HRB HNB HIB HAB HO HRW HXB HYB HOX HOY HYBx
    have HB := hB
    have HRk := hRk
    clear hB hRk
    have HRB := hHRB
    clear hHRB
    have HNB := hHNB
    clear hHNB
    have HIB := hHIB
    clear hHIB
    have HAB := hHAB
    clear hHAB
    have HO := hHO
    clear hHO
    have HRW := hHRW
    clear hHRW
    have HXB := hHXB
    clear hHXB
    have HYB := hn
    clear hn
    have HOX := hHOX
    clear hHOX
    have HOY := hHOY
    clear hHOY
    obtain ⟨V4, hV⟩ : ∃ v, v = (u4.setRow gy #[.slice aM4 nM4 cM4, .slice aI4 nI4 cI4, .slice aA4 nA4 cA4]) := ⟨_, rfl⟩
    rw [← hV] at HRB HNB HIB HAB HO HRW HXB HYB HOX HOY HB HRk ⊢
    clear hV
    have HXBx : Hid (V4.heap[gx]? = some (.cells #[.slice aM3 nM3 cM3, .slice aI3 nI3 cI3, .slice aA3 nA3 cA3] 26 (0, 0))) := HXB.out
    have HYBx : Hid (V4.heap[gy]? = some (.cells #[.slice aM4 nM4 cM4, .slice aI4 nI4 cI4, .slice aA4 nA4 cA4] 26 (0, 0))) := HYB.out
    go_wp2_with (first
     | (refine wpList_load_row rfl 26 (.tmp 19) rfl gx rfl 26 #[.slice aM3 nM3 cM3, .slice aI3 nI3 cI3, .slice aA3 nA3 cA3] (0, 0) _ HXBx.out Try.underlying26 rfl HSZs3.out ?_)
     | (refine wpList_load_row rfl 26 (.tmp 20) rfl gy rfl 26 #[.slice aM4 nM4 cM4, .slice aI4 nI4 cI4, .slice aA4 nA4 cA4] (0, 0) _ HYBx.out Try.underlying26 rfl HSZs4.out ?_)
     | fail)
    refine (KRoll_same _ _ _ _ _ _ _ X.2.M X.2.I X.2.A HOX.out.in.1 HOY.out.in.1 HOX.out.in.2.1 HOY.out.in.2.1 HOX.out.in.2.2 HOY.out.in.2.2).mono ?_
    clear HXBx HYBx
    rintro e t1 ⟨rfl, hb⟩
    have HRBn := Lib.hid (HRB.out.below hb)
    clear HRB
    have HRB := HRBn
    clear HRBn
    have HNBn := Lib.hid (HNB.out.below hb)
    clear HNB
    have HNB := HNBn
    clear HNBn
    have HIBn := Lib.hid (HIB.out.below hb)
    clear HIB
    have HIB := HIBn
    clear HIBn
    have HABn := Lib.hid (HAB.out.below hb)
    clear HAB
    have HAB := HABn
    clear HABn
    have HOn := Lib.hid (HO.out.below hb)
    clear HO
    have HO := HOn
    clear HOn
    have HRWn := Lib.hid (HRW.out.mono hb)
    clear HRW
    have HRW := HRWn
    clear HRWn
    have HXBn := Lib.hid (HXB.out.below hb)
    clear HXB
    have HXB := HXBn
    clear HXBn
    have HYBn := Lib.hid (HYB.out.below hb)
    clear HYB
    have HYB := HYBn
    clear HYBn
    have HOXn := Lib.hid (HOX.out.below hb)
    clear HOX
    have HOX := HOXn
    clear HOXn
    have HOYn := Lib.hid (HOY.out.below hb)
    clear HOY
    have HOY := HOYn
    clear HOYn
    have HBn := Lib.hid (bgo HB.out hb HB.out.size)
    clear HB
    have HB := HBn
    clear HBn
    have HRkn := Lib.hid (bgo HRk.out hb HRk.out.size)
    clear HRk
    have HRk := HRkn
    clear HRkn
    clear hb
    have HXBx : Hid (t1.heap[gx]? = some (.cells #[.slice aM3 nM3 cM3, .slice aI3 nI3 cI3, .slice aA3 nA3 cA3] 26 (0, 0))) := HXB.out
    have hap3 : OwnRoll t1 wr.heap.size (.slice aM3 nM3 cM3) (.slice aI3 nI3 cI3) (.slice aA3 nA3 cA3) X.2 := HOX.out.base3 (fun q hq => by have h1 := HGE3.out q hq; have h2 := HGXY.out; omega)
    go_wp2_with (first
     | (refine wpList_load_row rfl 26 (.tmp 19) rfl gx rfl 26 #[.slice aM3 nM3 cM3, .slice aI3 nI3 cI3, .slice aA3 nA3 cA3] (0, 0) _ HXBx.out Try.underlying26 rfl HSZs3.out ?_)
     | fail)
    refine (SpoilRoll_any _ wr.heap.size _ _ _ _ hap3 HFX.out HRk.out.size).mono ?_
    clear HXBx hap3
    rintro e z1 ⟨rfl, hb⟩
    have HRn := Lib.hid (HRk.out.trans hb)
    clear HRk HB HRB HNB HIB HAB HO HRW HXB HYB HOX HOY
    have HRB := Lib.hid (HRB_k.out.below HRn.out)
    have HNB := Lib.hid (HNB_k.out.below HRn.out)
    have HIB := Lib.hid (HIB_k.out.below HRn.out)
    have HAB := Lib.hid (HAB_k.out.below HRn.out)
    have HO := Lib.hid (HO_k.out.below HRn.out)
    have HRW := Lib.hid (HRW_k.out.mono HRn.out)
    have HB := Lib.hid (HB_k.out.trans (HRn.out.mono HB_k.out.size))
    clear HRn HB_k HRB_k HNB_k HIB_k HAB_k HO_k HRW_k
    clear hb
    have HNBx : Hid (z1.heap[gn]? = some (.cells #[.slice aM nM cM, .slice aI nI cI, .slice aA nA cA] 26 (0, 0))) := HNB.out
    have HRBx : Hid (z1.heap[gr]? = some (.cells #[va, vb, vc] 26 (0, 0))) := HRB.out
    go_wp2_with (first
     | (refine wpList_load_row rfl 26 (.tmp 17) rfl gn rfl 26 #[.slice aM nM cM, .slice aI nI cI, .slice aA nA cA] (0, 0) _ HNBx.out Try.underlying26 rfl HSZn.out ?_)
     | (refine wpList_load_row rfl 26 (.tmp 8) rfl gr rfl 26 #[va, vb, vc] (0, 0) _ HRBx.out Try.underlying26 rfl HSZr.out ?_)
     | fail)
    refine (KRoll_same _ _ _ _ _ _ _ R.M R.I R.A HO.out.in.1 HRW.out.1 HO.out.in.2.1 HRW.out.2.1 HO.out.in.2.2 HRW.out.2.2).mono ?_
    clear HNBx HRBx
    rintro e z3 ⟨rfl, hb⟩
    have HRBn := Lib.hid (HRB.out.below hb)
    clear HRB
    have HRB := HRBn
    clear HRBn
    have HNBn := Lib.hid (HNB.out.below hb)
    clear HNB
    have HNB := HNBn
    clear HNBn
    have HIBn := Lib.hid (HIB.out.below hb)
    clear HIB
    have HIB := HIBn
    clear HIBn
    have HABn := Lib.hid (HAB.out.below hb)
    clear HAB
    have HAB := HABn
    clear HABn
    have HOn := Lib.hid (HO.out.below hb)
    clear HO
    have HO := HOn
    clear HOn
    have HRWn := Lib.hid (HRW.out.mono hb)
    clear HRW
    have HRW := HRWn
    clear HRWn
    have HBn := Lib.hid (bgo HB.out hb HB.out.size)
    clear HB
    have HB := HBn
    clear HBn
    clear hb
    go_wp2_with fail
    exact ⟨⟨2, by omega, by omega, rfl, HRB.out, HNB.out, HIB.out, HAB.out, HO.out, HRW.out, HB.out⟩, by simp [intOf]⟩
   ·
    skip
    have HB := HBL
    clear HBL
    have HRB_k := HRB
    have HNB_k := HNB
    have HIB_k := HIB
    have HAB_k := HAB
    have HO_k := HO
    have HRW_k := HRW
    have HB_k := HB
    have HRk : Hid (Below wr.heap.size wr wr) := Below.refl _ _
    obtain ⟨X, hX⟩ : ∃ X, X = holdR R ya := ⟨_, rfl⟩
    have HXD := Lib.hid hX
    have HFX : Hid (few X.2) := by rw [hX]; exact holdR_few HF1.out _
    clear hX
    have hxb : HT ((wr.alloc (.cells #[.slice none 0 0, .slice none 0 0, .slice none 0 0] 26)).alloc (.cells #[.slice none 0 0, .slice none 0 0, .slice none 0 0] 26)) wr.heap.size 26 [.slice none 0 0, .slice none 0 0, .slice none 0 0] := (HT.new (w := wr) (t := 26) (C := [.slice none 0 0, .slice none 0 0, .slice none 0 0])).below ((Below.refl _ _).alloc (Nat.le_refl _) _)
    have hyb : HT ((wr.alloc (.cells #[.slice none 0 0, .slice none 0 0, .slice none 0 0] 26)).alloc (.cells #[.slice none 0 0, .slice none 0 0, .slice none 0 0] 26)) (wr.heap.size + 1) 26 [.slice none 0 0, .slice none 0 0, .slice none 0 0] := by
     have h9 := HT.new (w := (wr.alloc (.cells #[.slice none 0 0, .slice none 0 0, .slice none 0 0] 26))) (t := 26) (C := [.slice none 0 0, .slice none 0 0, .slice none 0 0])
     rwa [show (wr.alloc (.cells #[.slice none 0 0, .slice none 0 0, .slice none 0 0] 26)).heap.size = wr.heap.size + 1 by simp] at h9
    have hb : Below wr.heap.size wr ((wr.alloc (.cells #[.slice none 0 0, .slice none 0 0, .slice none 0 0] 26)).alloc (.cells #[.slice none 0 0, .slice none 0 0, .slice none 0 0] 26)) := ((Below.refl _ _).alloc (Nat.le_refl _) _).alloc (by simp) _
    have hsz : ((wr.alloc (.cells #[.slice none 0 0, .slice none 0 0, .slice none 0 0] 26)).alloc (.cells #[.slice none 0 0, .slice none 0 0, .slice none 0 0] 26)).heap.size = wr.heap.size + 2 := by simp
    have HXB := Lib.hid hxb
    have HYB := Lib.hid hyb
    clear hxb hyb
    have HSZW := Lib.hid hsz
    clear hsz
    have HBx := Lib.hid hb
    clear hb
    go_upto_region 8 with fail
    have HRBn := Lib.hid (HRB.out.below HBx.out)
    clear HRB
    have HRB := HRBn
    clear HRBn
    have HNBn := Lib.hid (HNB.out.below HBx.out)
    clear HNB
    have HNB := HNBn
    clear HNBn
    have HIBn := Lib.hid (HIB.out.below HBx.out)
    clear HIB
    have HIB := HIBn
    clear HIBn
    have HABn := Lib.hid (HAB.out.below HBx.out)
    clear HAB
    have HAB := HABn
    clear HABn
    have HOn := Lib.hid (HO.out.below HBx.out)
    clear HO
    have HO := HOn
    clear HOn
    have HRWn := Lib.hid (HRW.out.mono HBx.out)
    clear HRW
    have HRW := HRWn
    clear HRWn
    have HBn := Lib.hid (bgo HB.out HBx.out HB.out.size)
    clear HB
    have HB := HBn
    clear HBn
    have HRkn := Lib.hid (bgo HRk.out HBx.out HRk.out.size)
    clear HRk
    have HRk := HRkn
    clear HRkn
    clear HBx
    generalize hW : ((wr.alloc (.cells #[.slice none 0 0, .slice none 0 0, .slice none 0 0] 26)).alloc (.cells #[.slice none 0 0, .slice none 0 0, .slice none 0 0] 26)) = V0 at *
    clear hW
    obtain ⟨gx, hgx⟩ : ∃ g, g = wr.heap.size := ⟨_, rfl⟩
    obtain ⟨gy, hgy⟩ : ∃ g, g = wr.heap.size + 1 := ⟨_, rfl⟩
    have HXB2 : Hid (HT V0 gx 26 [.slice none 0 0, .slice none 0 0, .slice none 0 0]) := by have h9 := HXB.out; rwa [← hgx] at h9
    have HYB2 : Hid (HT V0 gy 26 [.slice none 0 0, .slice none 0 0, .slice none 0 0]) := by have h9 := HYB.out; rwa [← hgy] at h9
    clear HXB HYB
    have HXB := HXB2
    have HYB := HYB2
    clear HXB2 HYB2
    rw [show wr.heap.size + 1 = gy from hgy.symm]
    rw [show Value.pointer (some ⟨wr.heap.size, 0, none⟩) = Value.pointer (some ⟨gx, 0, none⟩) by rw [hgx]]
    have HGXY : Hid (wr.heap.size ≤ gx ∧ gx < gy ∧ gy < V0.heap.size) := by have h9 := HSZW.out; show _ ∧ _ ∧ _; omega
    clear hgx hgy HSZW
    have HSZm : Hid ((Try.prog.info? 42).map (·.size) = some (#[.int .i64 ya.no, .int .i64 ya.cur, .int .i64 ya.price, .int .i64 ya.cut] : Array Value).size) := by show _ = _; rw [ass_sz]; rfl
    have HNBx : Hid (V0.heap[gn]? = some (.cells #[.slice aM nM cM, .slice aI nI cI, .slice aA nA cA] 26 (0, 0))) := HNB.out
    have HABx : Hid (V0.heap[ga]? = some (.cells #[.int .i64 ya.no, .int .i64 ya.cur, .int .i64 ya.price, .int .i64 ya.cut] 42 (0, 0))) := HAB.out
    have cn := Hold_any V0 _ _ _ R ya HO.out.in HFEW.out
    rw [← HXD.out] at cn
    go_wp2_with (first
     | (refine wpList_load_row rfl 26 (.tmp 17) rfl gn rfl 26 #[.slice aM nM cM, .slice aI nI cI, .slice aA nA cA] (0, 0) _ HNBx.out Try.underlying26 rfl HSZn.out ?_)
     | (refine wpList_load_row rfl 42 (.tmp 12) rfl ga rfl 42 #[.int .i64 ya.no, .int .i64 ya.cur, .int .i64 ya.price, .int .i64 ya.cut] (0, 0) _ HABx.out Try.underlying42 rfl HSZm.out ?_)
     | fail)
    (with_reducible refine cn.mono ?_)
    clear cn HNBx HABx
    rintro e u3 ⟨aM3, nM3, cM3, aI3, nI3, cI3, aA3, nA3, cA3, rfl, ho, hb⟩
    have HGE3 : Hid (∀ q, ((Value.slice aM3 nM3 cM3).ownBlock = some q ∨ (Value.slice aI3 nI3 cI3).ownBlock = some q ∨ (Value.slice aA3 nA3 cA3).ownBlock = some q) → gy < q) := fun q hq => by
     have h1 := HGXY.out
     have h2 := HYB.out.lt
     rcases hq with hq | hq | hq
     ·
      have := OwnR.ge ho.1 q hq; omega
     ·
      have := OwnR.ge ho.2.1 q hq; omega
     ·
      have := OwnR.ge ho.2.2 q hq; omega
    have HOX := Lib.hid ho
    clear ho
    have HRBn := Lib.hid (HRB.out.below hb)
    clear HRB
    have HRB := HRBn
    clear HRBn
    have HNBn := Lib.hid (HNB.out.below hb)
    clear HNB
    have HNB := HNBn
    clear HNBn
    have HIBn := Lib.hid (HIB.out.below hb)
    clear HIB
    have HIB := HIBn
    clear HIBn
    have HABn := Lib.hid (HAB.out.below hb)
    clear HAB
    have HAB := HABn
    clear HABn
    have HOn := Lib.hid (HO.out.below hb)
    clear HO
    have HO := HOn
    clear HOn
    have HRWn := Lib.hid (HRW.out.mono hb)
    clear HRW
    have HRW := HRWn
    clear HRWn
    have HXBn := Lib.hid (HXB.out.below hb)
    clear HXB
    have HXB := HXBn
    clear HXBn
    have HYBn := Lib.hid (HYB.out.below hb)
    clear HYB
    have HYB := HYBn
    clear HYBn
    have HBn := Lib.hid (bgo HB.out hb HB.out.size)
    clear HB
    have HB := HBn
    clear HBn
    have HRkn := Lib.hid (bgo HRk.out hb HRk.out.size)
    clear HRk
    have HRk := HRkn
    clear HRkn
    clear hb
    have HSZs3 : Hid ((Try.prog.info? 26).map (·.size) = some (#[.slice aM3 nM3 cM3, .slice aI3 nI3 cI3, .slice aA3 nA3 cA3] : Array Value).size) := by show _ = _; rw [rol_sz]; rfl
    have HONs3 : Hid ((#[.slice aM3 nM3 cM3, .slice aI3 nI3 cI3, .slice aA3 nA3 cA3] : Array Value).all (·.oneCell') = true) := by show _ = true; simp [Value.oneCell']
    have HXBx : Hid (u3.heap[gx]? = some (.cells #[.slice none 0 0, .slice none 0 0, .slice none 0 0] 26 (0, 0))) := HXB.out
    go_upto_region 20 with (first
     | (refine wpList_store_row rfl 26 (.tmp 19) (.tmp 82) rfl gx #[.slice aM3 nM3 cM3, .slice aI3 nI3 cI3, .slice aA3 nA3 cA3] rfl rfl 26 #[.slice none 0 0, .slice none 0 0, .slice none 0 0] HXBx.out HSZs3.out rfl HONs3.out ?_)
     | fail)
    have hk : Kept (fun k => k = gx) u3 (u3.setRow gx #[.slice aM3 nM3 cM3, .slice aI3 nI3 cI3, .slice aA3 nA3 cA3]) := setRow_kept _ _ _
    have hn : Hid (HT (u3.setRow gx #[.slice aM3 nM3 cM3, .slice aI3 nI3 cI3, .slice aA3 nA3 cA3]) gx 26 [.slice aM3 nM3 cM3, .slice aI3 nI3 cI3, .slice aA3 nA3 cA3]) := HT.row HXBx.out rfl
    have hHYB := Lib.hid (HYB.out.keptS hk (fun (e : gy = gx) => by have := HGXY.out; omega))
    have hHOX := Lib.hid (HOX.out.keptQ hk (fun q hq (e : q = gx) => by have h1 := HGE3.out q hq; have h2 := HGXY.out; omega))
    have hRk := Lib.hid (HRk.out.trans (setRow_below (w := u3) (B := wr.heap.size) (g := gx) (by have := HGXY.out; omega) #[.slice aM3 nM3 cM3, .slice aI3 nI3 cI3, .slice aA3 nA3 cA3]))
    have hHRB := Lib.hid (HRB_k.out.below hRk.out)
    have hHNB := Lib.hid (HNB_k.out.below hRk.out)
    have hHIB := Lib.hid (HIB_k.out.below hRk.out)
    have hHAB := Lib.hid (HAB_k.out.below hRk.out)
    have hHO := Lib.hid (HO_k.out.below hRk.out)
    have hHRW := Lib.hid (HRW_k.out.mono hRk.out)
    have hB := Lib.hid (HB_k.out.trans (hRk.out.mono HB_k.out.size))
    clear HB HRk hk HRB HNB HIB HAB HO HRW HXB HYB HOX HXBx
    have HB := hB
    have HRk := hRk
    clear hB hRk
    have HRB := hHRB
    clear hHRB
    have HNB := hHNB
    clear hHNB
    have HIB := hHIB
    clear hHIB
    have HAB := hHAB
    clear hHAB
    have HO := hHO
    clear hHO
    have HRW := hHRW
    clear hHRW
    have HXB := hn
    clear hn
    have HYB := hHYB
    clear hHYB
    have HOX := hHOX
    clear hHOX
    obtain ⟨V3, hV⟩ : ∃ v, v = (u3.setRow gx #[.slice aM3 nM3 cM3, .slice aI3 nI3 cI3, .slice aA3 nA3 cA3]) := ⟨_, rfl⟩
    rw [← hV] at HRB HNB HIB HAB HO HRW HXB HYB HOX HB HRk ⊢
    clear hV
    have HRBx : Hid (V3.heap[gr]? = some (.cells #[va, vb, vc] 26 (0, 0))) := HRB.out
    have HABx : Hid (V3.heap[ga]? = some (.cells #[.int .i64 ya.no, .int .i64 ya.cur, .int .i64 ya.price, .int .i64 ya.cut] 42 (0, 0))) := HAB.out
    have cn := rHold_any V3 _ _ _ R ya HRW.out HFEW.out
    rw [← HXD.out] at cn
    go_wp2_with (first
     | (refine wpList_load_row rfl 26 (.tmp 8) rfl gr rfl 26 #[va, vb, vc] (0, 0) _ HRBx.out Try.underlying26 rfl HSZr.out ?_)
     | (refine wpList_load_row rfl 42 (.tmp 12) rfl ga rfl 42 #[.int .i64 ya.no, .int .i64 ya.cur, .int .i64 ya.price, .int .i64 ya.cut] (0, 0) _ HABx.out Try.underlying42 rfl HSZm.out ?_)
     | fail)
    (with_reducible refine cn.mono ?_)
    clear cn HRBx HABx
    rintro e u4 ⟨aM4, nM4, cM4, aI4, nI4, cI4, aA4, nA4, cA4, rfl, ho, hb⟩
    have HGE4 : Hid (∀ q, ((Value.slice aM4 nM4 cM4).ownBlock = some q ∨ (Value.slice aI4 nI4 cI4).ownBlock = some q ∨ (Value.slice aA4 nA4 cA4).ownBlock = some q) → gy < q) := fun q hq => by
     have h1 := HGXY.out
     have h2 := HYB.out.lt
     rcases hq with hq | hq | hq
     ·
      have := OwnR.ge ho.1 q hq; omega
     ·
      have := OwnR.ge ho.2.1 q hq; omega
     ·
      have := OwnR.ge ho.2.2 q hq; omega
    have HOY := Lib.hid ho
    clear ho
    have HRBn := Lib.hid (HRB.out.below hb)
    clear HRB
    have HRB := HRBn
    clear HRBn
    have HNBn := Lib.hid (HNB.out.below hb)
    clear HNB
    have HNB := HNBn
    clear HNBn
    have HIBn := Lib.hid (HIB.out.below hb)
    clear HIB
    have HIB := HIBn
    clear HIBn
    have HABn := Lib.hid (HAB.out.below hb)
    clear HAB
    have HAB := HABn
    clear HABn
    have HOn := Lib.hid (HO.out.below hb)
    clear HO
    have HO := HOn
    clear HOn
    have HRWn := Lib.hid (HRW.out.mono hb)
    clear HRW
    have HRW := HRWn
    clear HRWn
    have HXBn := Lib.hid (HXB.out.below hb)
    clear HXB
    have HXB := HXBn
    clear HXBn
    have HYBn := Lib.hid (HYB.out.below hb)
    clear HYB
    have HYB := HYBn
    clear HYBn
    have HOXn := Lib.hid (HOX.out.below hb)
    clear HOX
    have HOX := HOXn
    clear HOXn
    have HBn := Lib.hid (bgo HB.out hb HB.out.size)
    clear HB
    have HB := HBn
    clear HBn
    have HRkn := Lib.hid (bgo HRk.out hb HRk.out.size)
    clear HRk
    have HRk := HRkn
    clear HRkn
    clear hb
    have HSZs4 : Hid ((Try.prog.info? 26).map (·.size) = some (#[.slice aM4 nM4 cM4, .slice aI4 nI4 cI4, .slice aA4 nA4 cA4] : Array Value).size) := by show _ = _; rw [rol_sz]; rfl
    have HONs4 : Hid ((#[.slice aM4 nM4 cM4, .slice aI4 nI4 cI4, .slice aA4 nA4 cA4] : Array Value).all (·.oneCell') = true) := by show _ = true; simp [Value.oneCell']
    have HYBx : Hid (u4.heap[gy]? = some (.cells #[.slice none 0 0, .slice none 0 0, .slice none 0 0] 26 (0, 0))) := HYB.out
    go_upto_region 24 with (first
     | (refine wpList_store_row rfl 26 (.tmp 20) (.tmp 88) rfl gy #[.slice aM4 nM4 cM4, .slice aI4 nI4 cI4, .slice aA4 nA4 cA4] rfl rfl 26 #[.slice none 0 0, .slice none 0 0, .slice none 0 0] HYBx.out HSZs4.out rfl HONs4.out ?_)
     | fail)
    have hk : Kept (fun k => k = gy) u4 (u4.setRow gy #[.slice aM4 nM4 cM4, .slice aI4 nI4 cI4, .slice aA4 nA4 cA4]) := setRow_kept _ _ _
    have hn : Hid (HT (u4.setRow gy #[.slice aM4 nM4 cM4, .slice aI4 nI4 cI4, .slice aA4 nA4 cA4]) gy 26 [.slice aM4 nM4 cM4, .slice aI4 nI4 cI4, .slice aA4 nA4 cA4]) := HT.row HYBx.out rfl
    have hHXB := Lib.hid (HXB.out.keptS hk (fun (e : gx = gy) => by have := HGXY.out; omega))
    have hHOX := Lib.hid (HOX.out.keptQ hk (fun q hq (e : q = gy) => by have h1 := HGE3.out q hq; have h2 := HGXY.out; omega))
    have hHOY := Lib.hid (HOY.out.keptQ hk (fun q hq (e : q = gy) => by have h1 := HGE4.out q hq; have h2 := HGXY.out; omega))
    have hRk := Lib.hid (HRk.out.trans (setRow_below (w := u4) (B := wr.heap.size) (g := gy) (by have := HGXY.out; omega) #[.slice aM4 nM4 cM4, .slice aI4 nI4 cI4, .slice aA4 nA4 cA4]))
    have hHRB := Lib.hid (HRB_k.out.below hRk.out)
    have hHNB := Lib.hid (HNB_k.out.below hRk.out)
    have hHIB := Lib.hid (HIB_k.out.below hRk.out)
    have hHAB := Lib.hid (HAB_k.out.below hRk.out)
    have hHO := Lib.hid (HO_k.out.below hRk.out)
    have hHRW := Lib.hid (HRW_k.out.mono hRk.out)
    have hB := Lib.hid (HB_k.out.trans (hRk.out.mono HB_k.out.size))
    clear HB HRk hk HRB HNB HIB HAB HO HRW HXB HYB HOX HOY HYBx
    have HB := hB
    have HRk := hRk
    clear hB hRk
    have HRB := hHRB
    clear hHRB
    have HNB := hHNB
    clear hHNB
    have HIB := hHIB
    clear hHIB
    have HAB := hHAB
    clear hHAB
    have HO := hHO
    clear hHO
    have HRW := hHRW
    clear hHRW
    have HXB := hHXB
    clear hHXB
    have HYB := hn
    clear hn
    have HOX := hHOX
    clear hHOX
    have HOY := hHOY
    clear hHOY
    obtain ⟨V4, hV⟩ : ∃ v, v = (u4.setRow gy #[.slice aM4 nM4 cM4, .slice aI4 nI4 cI4, .slice aA4 nA4 cA4]) := ⟨_, rfl⟩
    rw [← hV] at HRB HNB HIB HAB HO HRW HXB HYB HOX HOY HB HRk ⊢
    clear hV
    have HXBx : Hid (V4.heap[gx]? = some (.cells #[.slice aM3 nM3 cM3, .slice aI3 nI3 cI3, .slice aA3 nA3 cA3] 26 (0, 0))) := HXB.out
    have HYBx : Hid (V4.heap[gy]? = some (.cells #[.slice aM4 nM4 cM4, .slice aI4 nI4 cI4, .slice aA4 nA4 cA4] 26 (0, 0))) := HYB.out
    go_wp2_with (first
     | (refine wpList_load_row rfl 26 (.tmp 19) rfl gx rfl 26 #[.slice aM3 nM3 cM3, .slice aI3 nI3 cI3, .slice aA3 nA3 cA3] (0, 0) _ HXBx.out Try.underlying26 rfl HSZs3.out ?_)
     | (refine wpList_load_row rfl 26 (.tmp 20) rfl gy rfl 26 #[.slice aM4 nM4 cM4, .slice aI4 nI4 cI4, .slice aA4 nA4 cA4] (0, 0) _ HYBx.out Try.underlying26 rfl HSZs4.out ?_)
     | fail)
    refine (KRoll_same _ _ _ _ _ _ _ X.2.M X.2.I X.2.A HOX.out.in.1 HOY.out.in.1 HOX.out.in.2.1 HOY.out.in.2.1 HOX.out.in.2.2 HOY.out.in.2.2).mono ?_
    clear HXBx HYBx
    rintro e t1 ⟨rfl, hb⟩
    have HRBn := Lib.hid (HRB.out.below hb)
    clear HRB
    have HRB := HRBn
    clear HRBn
    have HNBn := Lib.hid (HNB.out.below hb)
    clear HNB
    have HNB := HNBn
    clear HNBn
    have HIBn := Lib.hid (HIB.out.below hb)
    clear HIB
    have HIB := HIBn
    clear HIBn
    have HABn := Lib.hid (HAB.out.below hb)
    clear HAB
    have HAB := HABn
    clear HABn
    have HOn := Lib.hid (HO.out.below hb)
    clear HO
    have HO := HOn
    clear HOn
    have HRWn := Lib.hid (HRW.out.mono hb)
    clear HRW
    have HRW := HRWn
    clear HRWn
    have HXBn := Lib.hid (HXB.out.below hb)
    clear HXB
    have HXB := HXBn
    clear HXBn
    have HYBn := Lib.hid (HYB.out.below hb)
    clear HYB
    have HYB := HYBn
    clear HYBn
    have HOXn := Lib.hid (HOX.out.below hb)
    clear HOX
    have HOX := HOXn
    clear HOXn
    have HOYn := Lib.hid (HOY.out.below hb)
    clear HOY
    have HOY := HOYn
    clear HOYn
    have HBn := Lib.hid (bgo HB.out hb HB.out.size)
    clear HB
    have HB := HBn
    clear HBn
    have HRkn := Lib.hid (bgo HRk.out hb HRk.out.size)
    clear HRk
    have HRk := HRkn
    clear HRkn
    clear hb
    have HXBx : Hid (t1.heap[gx]? = some (.cells #[.slice aM3 nM3 cM3, .slice aI3 nI3 cI3, .slice aA3 nA3 cA3] 26 (0, 0))) := HXB.out
    have hap3 : OwnRoll t1 wr.heap.size (.slice aM3 nM3 cM3) (.slice aI3 nI3 cI3) (.slice aA3 nA3 cA3) X.2 := HOX.out.base3 (fun q hq => by have h1 := HGE3.out q hq; have h2 := HGXY.out; omega)
    go_wp2_with (first
     | (refine wpList_load_row rfl 26 (.tmp 19) rfl gx rfl 26 #[.slice aM3 nM3 cM3, .slice aI3 nI3 cI3, .slice aA3 nA3 cA3] (0, 0) _ HXBx.out Try.underlying26 rfl HSZs3.out ?_)
     | fail)
    refine (SpoilRoll_any _ wr.heap.size _ _ _ _ hap3 HFX.out HRk.out.size).mono ?_
    clear HXBx hap3
    rintro e z1 ⟨rfl, hb⟩
    have HRn := Lib.hid (HRk.out.trans hb)
    clear HRk HB HRB HNB HIB HAB HO HRW HXB HYB HOX HOY
    have HRB := Lib.hid (HRB_k.out.below HRn.out)
    have HNB := Lib.hid (HNB_k.out.below HRn.out)
    have HIB := Lib.hid (HIB_k.out.below HRn.out)
    have HAB := Lib.hid (HAB_k.out.below HRn.out)
    have HO := Lib.hid (HO_k.out.below HRn.out)
    have HRW := Lib.hid (HRW_k.out.mono HRn.out)
    have HB := Lib.hid (HB_k.out.trans (HRn.out.mono HB_k.out.size))
    clear HRn HB_k HRB_k HNB_k HIB_k HAB_k HO_k HRW_k
    clear hb
    have HNBx : Hid (z1.heap[gn]? = some (.cells #[.slice aM nM cM, .slice aI nI cI, .slice aA nA cA] 26 (0, 0))) := HNB.out
    have HRBx : Hid (z1.heap[gr]? = some (.cells #[va, vb, vc] 26 (0, 0))) := HRB.out
    go_wp2_with (first
     | (refine wpList_load_row rfl 26 (.tmp 17) rfl gn rfl 26 #[.slice aM nM cM, .slice aI nI cI, .slice aA nA cA] (0, 0) _ HNBx.out Try.underlying26 rfl HSZn.out ?_)
     | (refine wpList_load_row rfl 26 (.tmp 8) rfl gr rfl 26 #[va, vb, vc] (0, 0) _ HRBx.out Try.underlying26 rfl HSZr.out ?_)
     | fail)
    refine (KRoll_same _ _ _ _ _ _ _ R.M R.I R.A HO.out.in.1 HRW.out.1 HO.out.in.2.1 HRW.out.2.1 HO.out.in.2.2 HRW.out.2.2).mono ?_
    clear HNBx HRBx
    rintro e z3 ⟨rfl, hb⟩
    have HRBn := Lib.hid (HRB.out.below hb)
    clear HRB
    have HRB := HRBn
    clear HRBn
    have HNBn := Lib.hid (HNB.out.below hb)
    clear HNB
    have HNB := HNBn
    clear HNBn
    have HIBn := Lib.hid (HIB.out.below hb)
    clear HIB
    have HIB := HIBn
    clear HIBn
    have HABn := Lib.hid (HAB.out.below hb)
    clear HAB
    have HAB := HABn
    clear HABn
    have HOn := Lib.hid (HO.out.below hb)
    clear HO
    have HO := HOn
    clear HOn
    have HRWn := Lib.hid (HRW.out.mono hb)
    clear HRW
    have HRW := HRWn
    clear HRWn
    have HBn := Lib.hid (bgo HB.out hb HB.out.size)
    clear HB
    have HB := HBn
    clear HBn
    clear hb
    go_wp2_with fail
    exact ⟨⟨3, by omega, by omega, rfl, HRB.out, HNB.out, HIB.out, HAB.out, HO.out, HRW.out, HB.out⟩, by simp [intOf]⟩
   ·
    skip
    have HB := HBL
    clear HBL
    have HRB_k := HRB
    have HNB_k := HNB
    have HIB_k := HIB
    have HAB_k := HAB
    have HO_k := HO
    have HRW_k := HRW
    have HB_k := HB
    have HRk : Hid (Below wr.heap.size wr wr) := Below.refl _ _
    obtain ⟨X, hX⟩ : ∃ X, X = tellR R no price := ⟨_, rfl⟩
    have HXD := Lib.hid hX
    have HFX : Hid (few X.2) := by rw [hX]; exact tellR_few HF1.out _ _
    clear hX
    have hxb : HT ((wr.alloc (.cells #[.slice none 0 0, .slice none 0 0, .slice none 0 0] 26)).alloc (.cells #[.slice none 0 0, .slice none 0 0, .slice none 0 0] 26)) wr.heap.size 26 [.slice none 0 0, .slice none 0 0, .slice none 0 0] := (HT.new (w := wr) (t := 26) (C := [.slice none 0 0, .slice none 0 0, .slice none 0 0])).below ((Below.refl _ _).alloc (Nat.le_refl _) _)
    have hyb : HT ((wr.alloc (.cells #[.slice none 0 0, .slice none 0 0, .slice none 0 0] 26)).alloc (.cells #[.slice none 0 0, .slice none 0 0, .slice none 0 0] 26)) (wr.heap.size + 1) 26 [.slice none 0 0, .slice none 0 0, .slice none 0 0] := by
     have h9 := HT.new (w := (wr.alloc (.cells #[.slice none 0 0, .slice none 0 0, .slice none 0 0] 26))) (t := 26) (C := [.slice none 0 0, .slice none 0 0, .slice none 0 0])
     rwa [show (wr.alloc (.cells #[.slice none 0 0, .slice none 0 0, .slice none 0 0] 26)).heap.size = wr.heap.size + 1 by simp] at h9
    have hb : Below wr.heap.size wr ((wr.alloc (.cells #[.slice none 0 0, .slice none 0 0, .slice none 0 0] 26)).alloc (.cells #[.slice none 0 0, .slice none 0 0, .slice none 0 0] 26)) := ((Below.refl _ _).alloc (Nat.le_refl _) _).alloc (by simp) _
    have hsz : ((wr.alloc (.cells #[.slice none 0 0, .slice none 0 0, .slice none 0 0] 26)).alloc (.cells #[.slice none 0 0, .slice none 0 0, .slice none 0 0] 26)).heap.size = wr.heap.size + 2 := by simp
    have HXB := Lib.hid hxb
    have HYB := Lib.hid hyb
    clear hxb hyb
    have HSZW := Lib.hid hsz
    clear hsz
    have HBx := Lib.hid hb
    clear hb
    go_upto_region 8 with fail
    have HRBn := Lib.hid (HRB.out.below HBx.out)
    clear HRB
    have HRB := HRBn
    clear HRBn
    have HNBn := Lib.hid (HNB.out.below HBx.out)
    clear HNB
    have HNB := HNBn
    clear HNBn
    have HIBn := Lib.hid (HIB.out.below HBx.out)
    clear HIB
    have HIB := HIBn
    clear HIBn
    have HABn := Lib.hid (HAB.out.below HBx.out)
    clear HAB
    have HAB := HABn
    clear HABn
    have HOn := Lib.hid (HO.out.below HBx.out)
    clear HO
    have HO := HOn
    clear HOn
    have HRWn := Lib.hid (HRW.out.mono HBx.out)
    clear HRW
    have HRW := HRWn
    clear HRWn
    have HBn := Lib.hid (bgo HB.out HBx.out HB.out.size)
    clear HB
    have HB := HBn
    clear HBn
    have HRkn := Lib.hid (bgo HRk.out HBx.out HRk.out.size)
    clear HRk
    have HRk := HRkn
    clear HRkn
    clear HBx
    generalize hW : ((wr.alloc (.cells #[.slice none 0 0, .slice none 0 0, .slice none 0 0] 26)).alloc (.cells #[.slice none 0 0, .slice none 0 0, .slice none 0 0] 26)) = V0 at *
    clear hW
    obtain ⟨gx, hgx⟩ : ∃ g, g = wr.heap.size := ⟨_, rfl⟩
    obtain ⟨gy, hgy⟩ : ∃ g, g = wr.heap.size + 1 := ⟨_, rfl⟩
    have HXB2 : Hid (HT V0 gx 26 [.slice none 0 0, .slice none 0 0, .slice none 0 0]) := by have h9 := HXB.out; rwa [← hgx] at h9
    have HYB2 : Hid (HT V0 gy 26 [.slice none 0 0, .slice none 0 0, .slice none 0 0]) := by have h9 := HYB.out; rwa [← hgy] at h9
    clear HXB HYB
    have HXB := HXB2
    have HYB := HYB2
    clear HXB2 HYB2
    rw [show wr.heap.size + 1 = gy from hgy.symm]
    rw [show Value.pointer (some ⟨wr.heap.size, 0, none⟩) = Value.pointer (some ⟨gx, 0, none⟩) by rw [hgx]]
    have HGXY : Hid (wr.heap.size ≤ gx ∧ gx < gy ∧ gy < V0.heap.size) := by have h9 := HSZW.out; show _ ∧ _ ∧ _; omega
    clear hgx hgy HSZW
    have HNBx : Hid (V0.heap[gn]? = some (.cells #[.slice aM nM cM, .slice aI nI cI, .slice aA nA cA] 26 (0, 0))) := HNB.out
    have cn := Tell_any V0 _ _ _ R no price HO.out.in HFEW.out
    rw [← HXD.out] at cn
    go_wp2_with (first
     | (refine wpList_load_row rfl 26 (.tmp 17) rfl gn rfl 26 #[.slice aM nM cM, .slice aI nI cI, .slice aA nA cA] (0, 0) _ HNBx.out Try.underlying26 rfl HSZn.out ?_)
     | fail)
    (with_reducible refine cn.mono ?_)
    clear cn HNBx
    rintro e u3 ⟨aM3, nM3, cM3, aI3, nI3, cI3, aA3, nA3, cA3, rfl, ho, hb⟩
    have HGE3 : Hid (∀ q, ((Value.slice aM3 nM3 cM3).ownBlock = some q ∨ (Value.slice aI3 nI3 cI3).ownBlock = some q ∨ (Value.slice aA3 nA3 cA3).ownBlock = some q) → gy < q) := fun q hq => by
     have h1 := HGXY.out
     have h2 := HYB.out.lt
     rcases hq with hq | hq | hq
     ·
      have := OwnR.ge ho.1 q hq; omega
     ·
      have := OwnR.ge ho.2.1 q hq; omega
     ·
      have := OwnR.ge ho.2.2 q hq; omega
    have HOX := Lib.hid ho
    clear ho
    have HRBn := Lib.hid (HRB.out.below hb)
    clear HRB
    have HRB := HRBn
    clear HRBn
    have HNBn := Lib.hid (HNB.out.below hb)
    clear HNB
    have HNB := HNBn
    clear HNBn
    have HIBn := Lib.hid (HIB.out.below hb)
    clear HIB
    have HIB := HIBn
    clear HIBn
    have HABn := Lib.hid (HAB.out.below hb)
    clear HAB
    have HAB := HABn
    clear HABn
    have HOn := Lib.hid (HO.out.below hb)
    clear HO
    have HO := HOn
    clear HOn
    have HRWn := Lib.hid (HRW.out.mono hb)
    clear HRW
    have HRW := HRWn
    clear HRWn
    have HXBn := Lib.hid (HXB.out.below hb)
    clear HXB
    have HXB := HXBn
    clear HXBn
    have HYBn := Lib.hid (HYB.out.below hb)
    clear HYB
    have HYB := HYBn
    clear HYBn
    have HBn := Lib.hid (bgo HB.out hb HB.out.size)
    clear HB
    have HB := HBn
    clear HBn
    have HRkn := Lib.hid (bgo HRk.out hb HRk.out.size)
    clear HRk
    have HRk := HRkn
    clear HRkn
    clear hb
    have HSZs3 : Hid ((Try.prog.info? 26).map (·.size) = some (#[.slice aM3 nM3 cM3, .slice aI3 nI3 cI3, .slice aA3 nA3 cA3] : Array Value).size) := by show _ = _; rw [rol_sz]; rfl
    have HONs3 : Hid ((#[.slice aM3 nM3 cM3, .slice aI3 nI3 cI3, .slice aA3 nA3 cA3] : Array Value).all (·.oneCell') = true) := by show _ = true; simp [Value.oneCell']
    have HXBx : Hid (u3.heap[gx]? = some (.cells #[.slice none 0 0, .slice none 0 0, .slice none 0 0] 26 (0, 0))) := HXB.out
    go_upto_region 23 with (first
     | (refine wpList_store_row rfl 26 (.tmp 19) (.tmp 97) rfl gx #[.slice aM3 nM3 cM3, .slice aI3 nI3 cI3, .slice aA3 nA3 cA3] rfl rfl 26 #[.slice none 0 0, .slice none 0 0, .slice none 0 0] HXBx.out HSZs3.out rfl HONs3.out ?_)
     | fail)
    have hk : Kept (fun k => k = gx) u3 (u3.setRow gx #[.slice aM3 nM3 cM3, .slice aI3 nI3 cI3, .slice aA3 nA3 cA3]) := setRow_kept _ _ _
    have hn : Hid (HT (u3.setRow gx #[.slice aM3 nM3 cM3, .slice aI3 nI3 cI3, .slice aA3 nA3 cA3]) gx 26 [.slice aM3 nM3 cM3, .slice aI3 nI3 cI3, .slice aA3 nA3 cA3]) := HT.row HXBx.out rfl
    have hHYB := Lib.hid (HYB.out.keptS hk (fun (e : gy = gx) => by have := HGXY.out; omega))
    have hHOX := Lib.hid (HOX.out.keptQ hk (fun q hq (e : q = gx) => by have h1 := HGE3.out q hq; have h2 := HGXY.out; omega))
    have hRk := Lib.hid (HRk.out.trans (setRow_below (w := u3) (B := wr.heap.size) (g := gx) (by have := HGXY.out; omega) #[.slice aM3 nM3 cM3, .slice aI3 nI3 cI3, .slice aA3 nA3 cA3]))
    have hHRB := Lib.hid (HRB_k.out.below hRk.out)
    have hHNB := Lib.hid (HNB_k.out.below hRk.out)
    have hHIB := Lib.hid (HIB_k.out.below hRk.out)
    have hHAB := Lib.hid (HAB_k.out.below hRk.out)
    have hHO := Lib.hid (HO_k.out.below hRk.out)
    have hHRW := Lib.hid (HRW_k.out.mono hRk.out)
    have hB := Lib.hid (HB_k.out.trans (hRk.out.mono HB_k.out.size))
    clear HB HRk hk HRB HNB HIB HAB HO HRW HXB HYB HOX HXBx
    have HB := hB
    have HRk := hRk
    clear hB hRk
    have HRB := hHRB
    clear hHRB
    have HNB := hHNB
    clear hHNB
    have HIB := hHIB
    clear hHIB
    have HAB := hHAB
    clear hHAB
    have HO := hHO
    clear hHO
    have HRW := hHRW
    clear hHRW
    have HXB := hn
    clear hn
    have HYB := hHYB
    clear hHYB
    have HOX := hHOX
    clear hHOX
    obtain ⟨V3, hV⟩ : ∃ v, v = (u3.setRow gx #[.slice aM3 nM3 cM3, .slice aI3 nI3 cI3, .slice aA3 nA3 cA3]) := ⟨_, rfl⟩
    rw [← hV] at HRB HNB HIB HAB HO HRW HXB HYB HOX HB HRk ⊢
    clear hV
    have HRBx : Hid (V3.heap[gr]? = some (.cells #[va, vb, vc] 26 (0, 0))) := HRB.out
    have cn := rTell_any V3 _ _ _ R no price HRW.out HFEW.out
    rw [← HXD.out] at cn
    go_wp2_with (first
     | (refine wpList_load_row rfl 26 (.tmp 8) rfl gr rfl 26 #[va, vb, vc] (0, 0) _ HRBx.out Try.underlying26 rfl HSZr.out ?_)
     | fail)
    (with_reducible refine cn.mono ?_)
    clear cn HRBx
    rintro e u4 ⟨aM4, nM4, cM4, aI4, nI4, cI4, aA4, nA4, cA4, rfl, ho, hb⟩
    have HGE4 : Hid (∀ q, ((Value.slice aM4 nM4 cM4).ownBlock = some q ∨ (Value.slice aI4 nI4 cI4).ownBlock = some q ∨ (Value.slice aA4 nA4 cA4).ownBlock = some q) → gy < q) := fun q hq => by
     have h1 := HGXY.out
     have h2 := HYB.out.lt
     rcases hq with hq | hq | hq
     ·
      have := OwnR.ge ho.1 q hq; omega
     ·
      have := OwnR.ge ho.2.1 q hq; omega
     ·
      have := OwnR.ge ho.2.2 q hq; omega
    have HOY := Lib.hid ho
    clear ho
    have HRBn := Lib.hid (HRB.out.below hb)
    clear HRB
    have HRB := HRBn
    clear HRBn
    have HNBn := Lib.hid (HNB.out.below hb)
    clear HNB
    have HNB := HNBn
    clear HNBn
    have HIBn := Lib.hid (HIB.out.below hb)
    clear HIB
    have HIB := HIBn
    clear HIBn
    have HABn := Lib.hid (HAB.out.below hb)
    clear HAB
    have HAB := HABn
    clear HABn
    have HOn := Lib.hid (HO.out.below hb)
    clear HO
    have HO := HOn
    clear HOn
    have HRWn := Lib.hid (HRW.out.mono hb)
    clear HRW
    have HRW := HRWn
    clear HRWn
    have HXBn := Lib.hid (HXB.out.below hb)
    clear HXB
    have HXB := HXBn
    clear HXBn
    have HYBn := Lib.hid (HYB.out.below hb)
    clear HYB
    have HYB := HYBn
    clear HYBn
    have HOXn := Lib.hid (HOX.out.below hb)
    clear HOX
    have HOX := HOXn
    clear HOXn
    have HBn := Lib.hid (bgo HB.out hb HB.out.size)
    clear HB
    have HB := HBn
    clear HBn
    have HRkn := Lib.hid (bgo HRk.out hb HRk.out.size)
    clear HRk
    have HRk := HRkn
    clear HRkn
    clear hb
    have HSZs4 : Hid ((Try.prog.info? 26).map (·.size) = some (#[.slice aM4 nM4 cM4, .slice aI4 nI4 cI4, .slice aA4 nA4 cA4] : Array Value).size) := by show _ = _; rw [rol_sz]; rfl
    have HONs4 : Hid ((#[.slice aM4 nM4 cM4, .slice aI4 nI4 cI4, .slice aA4 nA4 cA4] : Array Value).all (·.oneCell') = true) := by show _ = true; simp [Value.oneCell']
    have HYBx : Hid (u4.heap[gy]? = some (.cells #[.slice none 0 0, .slice none 0 0, .slice none 0 0] 26 (0, 0))) := HYB.out
    go_upto_region 24 with (first
     | (refine wpList_store_row rfl 26 (.tmp 20) (.tmp 104) rfl gy #[.slice aM4 nM4 cM4, .slice aI4 nI4 cI4, .slice aA4 nA4 cA4] rfl rfl 26 #[.slice none 0 0, .slice none 0 0, .slice none 0 0] HYBx.out HSZs4.out rfl HONs4.out ?_)
     | fail)
    have hk : Kept (fun k => k = gy) u4 (u4.setRow gy #[.slice aM4 nM4 cM4, .slice aI4 nI4 cI4, .slice aA4 nA4 cA4]) := setRow_kept _ _ _
    have hn : Hid (HT (u4.setRow gy #[.slice aM4 nM4 cM4, .slice aI4 nI4 cI4, .slice aA4 nA4 cA4]) gy 26 [.slice aM4 nM4 cM4, .slice aI4 nI4 cI4, .slice aA4 nA4 cA4]) := HT.row HYBx.out rfl
    have hHXB := Lib.hid (HXB.out.keptS hk (fun (e : gx = gy) => by have := HGXY.out; omega))
    have hHOX := Lib.hid (HOX.out.keptQ hk (fun q hq (e : q = gy) => by have h1 := HGE3.out q hq; have h2 := HGXY.out; omega))
    have hHOY := Lib.hid (HOY.out.keptQ hk (fun q hq (e : q = gy) => by have h1 := HGE4.out q hq; have h2 := HGXY.out; omega))
    have hRk := Lib.hid (HRk.out.trans (setRow_below (w := u4) (B := wr.heap.size) (g := gy) (by have := HGXY.out; omega) #[.slice aM4 nM4 cM4, .slice aI4 nI4 cI4, .slice aA4 nA4 cA4]))
    have hHRB := Lib.hid (HRB_k.out.below hRk.out)
    have hHNB := Lib.hid (HNB_k.out.below hRk.out)
    have hHIB := Lib.hid (HIB_k.out.below hRk.out)
    have hHAB := Lib.hid (HAB_k.out.below hRk.out)
    have hHO := Lib.hid (HO_k.out.below hRk.out)
    have hHRW := Lib.hid (HRW_k.out.mono hRk.out)
    have hB := Lib.hid (HB_k.out.trans (hRk.out.mono HB_k.out.size))
    clear HB HRk hk HRB HNB HIB HAB HO HRW HXB HYB HOX HOY HYBx
    have HB := hB
    have HRk := hRk
    clear hB hRk
    have HRB := hHRB
    clear hHRB
    have HNB := hHNB
    clear hHNB
    have HIB := hHIB
    clear hHIB
    have HAB := hHAB
    clear hHAB
    have HO := hHO
    clear hHO
    have HRW := hHRW
    clear hHRW
    have HXB := hHXB
    clear hHXB
    have HYB := hn
    clear hn
    have HOX := hHOX
    clear hHOX
    have HOY := hHOY
    clear hHOY
    obtain ⟨V4, hV⟩ : ∃ v, v = (u4.setRow gy #[.slice aM4 nM4 cM4, .slice aI4 nI4 cI4, .slice aA4 nA4 cA4]) := ⟨_, rfl⟩
    rw [← hV] at HRB HNB HIB HAB HO HRW HXB HYB HOX HOY HB HRk ⊢
    clear hV
    have HXBx : Hid (V4.heap[gx]? = some (.cells #[.slice aM3 nM3 cM3, .slice aI3 nI3 cI3, .slice aA3 nA3 cA3] 26 (0, 0))) := HXB.out
    have HYBx : Hid (V4.heap[gy]? = some (.cells #[.slice aM4 nM4 cM4, .slice aI4 nI4 cI4, .slice aA4 nA4 cA4] 26 (0, 0))) := HYB.out
    go_wp2_with (first
     | (refine wpList_load_row rfl 26 (.tmp 19) rfl gx rfl 26 #[.slice aM3 nM3 cM3, .slice aI3 nI3 cI3, .slice aA3 nA3 cA3] (0, 0) _ HXBx.out Try.underlying26 rfl HSZs3.out ?_)
     | (refine wpList_load_row rfl 26 (.tmp 20) rfl gy rfl 26 #[.slice aM4 nM4 cM4, .slice aI4 nI4 cI4, .slice aA4 nA4 cA4] (0, 0) _ HYBx.out Try.underlying26 rfl HSZs4.out ?_)
     | fail)
    refine (KRoll_same _ _ _ _ _ _ _ X.2.M X.2.I X.2.A HOX.out.in.1 HOY.out.in.1 HOX.out.in.2.1 HOY.out.in.2.1 HOX.out.in.2.2 HOY.out.in.2.2).mono ?_
    clear HXBx HYBx
    rintro e t1 ⟨rfl, hb⟩
    have HRBn := Lib.hid (HRB.out.below hb)
    clear HRB
    have HRB := HRBn
    clear HRBn
    have HNBn := Lib.hid (HNB.out.below hb)
    clear HNB
    have HNB := HNBn
    clear HNBn
    have HIBn := Lib.hid (HIB.out.below hb)
    clear HIB
    have HIB := HIBn
    clear HIBn
    have HABn := Lib.hid (HAB.out.below hb)
    clear HAB
    have HAB := HABn
    clear HABn
    have HOn := Lib.hid (HO.out.below hb)
    clear HO
    have HO := HOn
    clear HOn
    have HRWn := Lib.hid (HRW.out.mono hb)
    clear HRW
    have HRW := HRWn
    clear HRWn
    have HXBn := Lib.hid (HXB.out.below hb)
    clear HXB
    have HXB := HXBn
    clear HXBn
    have HYBn := Lib.hid (HYB.out.below hb)
    clear HYB
    have HYB := HYBn
    clear HYBn
    have HOXn := Lib.hid (HOX.out.below hb)
    clear HOX
    have HOX := HOXn
    clear HOXn
    have HOYn := Lib.hid (HOY.out.below hb)
    clear HOY
    have HOY := HOYn
    clear HOYn
    have HBn := Lib.hid (bgo HB.out hb HB.out.size)
    clear HB
    have HB := HBn
    clear HBn
    have HRkn := Lib.hid (bgo HRk.out hb HRk.out.size)
    clear HRk
    have HRk := HRkn
    clear HRkn
    clear hb
    have HXBx : Hid (t1.heap[gx]? = some (.cells #[.slice aM3 nM3 cM3, .slice aI3 nI3 cI3, .slice aA3 nA3 cA3] 26 (0, 0))) := HXB.out
    have hap3 : OwnRoll t1 wr.heap.size (.slice aM3 nM3 cM3) (.slice aI3 nI3 cI3) (.slice aA3 nA3 cA3) X.2 := HOX.out.base3 (fun q hq => by have h1 := HGE3.out q hq; have h2 := HGXY.out; omega)
    go_wp2_with (first
     | (refine wpList_load_row rfl 26 (.tmp 19) rfl gx rfl 26 #[.slice aM3 nM3 cM3, .slice aI3 nI3 cI3, .slice aA3 nA3 cA3] (0, 0) _ HXBx.out Try.underlying26 rfl HSZs3.out ?_)
     | fail)
    refine (SpoilRoll_any _ wr.heap.size _ _ _ _ hap3 HFX.out HRk.out.size).mono ?_
    clear HXBx hap3
    rintro e z1 ⟨rfl, hb⟩
    have HRn := Lib.hid (HRk.out.trans hb)
    clear HRk HB HRB HNB HIB HAB HO HRW HXB HYB HOX HOY
    have HRB := Lib.hid (HRB_k.out.below HRn.out)
    have HNB := Lib.hid (HNB_k.out.below HRn.out)
    have HIB := Lib.hid (HIB_k.out.below HRn.out)
    have HAB := Lib.hid (HAB_k.out.below HRn.out)
    have HO := Lib.hid (HO_k.out.below HRn.out)
    have HRW := Lib.hid (HRW_k.out.mono HRn.out)
    have HB := Lib.hid (HB_k.out.trans (HRn.out.mono HB_k.out.size))
    clear HRn HB_k HRB_k HNB_k HIB_k HAB_k HO_k HRW_k
    clear hb
    have HNBx : Hid (z1.heap[gn]? = some (.cells #[.slice aM nM cM, .slice aI nI cI, .slice aA nA cA] 26 (0, 0))) := HNB.out
    have HRBx : Hid (z1.heap[gr]? = some (.cells #[va, vb, vc] 26 (0, 0))) := HRB.out
    go_wp2_with (first
     | (refine wpList_load_row rfl 26 (.tmp 17) rfl gn rfl 26 #[.slice aM nM cM, .slice aI nI cI, .slice aA nA cA] (0, 0) _ HNBx.out Try.underlying26 rfl HSZn.out ?_)
     | (refine wpList_load_row rfl 26 (.tmp 8) rfl gr rfl 26 #[va, vb, vc] (0, 0) _ HRBx.out Try.underlying26 rfl HSZr.out ?_)
     | fail)
    refine (KRoll_same _ _ _ _ _ _ _ R.M R.I R.A HO.out.in.1 HRW.out.1 HO.out.in.2.1 HRW.out.2.1 HO.out.in.2.2 HRW.out.2.2).mono ?_
    clear HNBx HRBx
    rintro e z3 ⟨rfl, hb⟩
    have HRBn := Lib.hid (HRB.out.below hb)
    clear HRB
    have HRB := HRBn
    clear HRBn
    have HNBn := Lib.hid (HNB.out.below hb)
    clear HNB
    have HNB := HNBn
    clear HNBn
    have HIBn := Lib.hid (HIB.out.below hb)
    clear HIB
    have HIB := HIBn
    clear HIBn
    have HABn := Lib.hid (HAB.out.below hb)
    clear HAB
    have HAB := HABn
    clear HABn
    have HOn := Lib.hid (HO.out.below hb)
    clear HO
    have HO := HOn
    clear HOn
    have HRWn := Lib.hid (HRW.out.mono hb)
    clear HRW
    have HRW := HRWn
    clear HRWn
    have HBn := Lib.hid (bgo HB.out hb HB.out.size)
    clear HB
    have HB := HBn
    clear HBn
    clear hb
    go_wp2_with fail
    exact ⟨⟨4, by omega, by omega, rfl, HRB.out, HNB.out, HIB.out, HAB.out, HO.out, HRW.out, HB.out⟩, by simp [intOf]⟩
   ·
    skip
    have HB := HBL
    clear HBL
    have HRB_k := HRB
    have HNB_k := HNB
    have HIB_k := HIB
    have HAB_k := HAB
    have HO_k := HO
    have HRW_k := HRW
    have HB_k := HB
    have HRk : Hid (Below wr.heap.size wr wr) := Below.refl _ _
    obtain ⟨X, hX⟩ : ∃ X, X = stateR R who st := ⟨_, rfl⟩
    have HXD := Lib.hid hX
    have HFX : Hid (few X.2) := by rw [hX]; exact stateR_few HF1.out _ _
    clear hX
    have hxb : HT ((wr.alloc (.cells #[.slice none 0 0, .slice none 0 0, .slice none 0 0] 26)).alloc (.cells #[.slice none 0 0, .slice none 0 0, .slice none 0 0] 26)) wr.heap.size 26 [.slice none 0 0, .slice none 0 0, .slice none 0 0] := (HT.new (w := wr) (t := 26) (C := [.slice none 0 0, .slice none 0 0, .slice none 0 0])).below ((Below.refl _ _).alloc (Nat.le_refl _) _)
    have hyb : HT ((wr.alloc (.cells #[.slice none 0 0, .slice none 0 0, .slice none 0 0] 26)).alloc (.cells #[.slice none 0 0, .slice none 0 0, .slice none 0 0] 26)) (wr.heap.size + 1) 26 [.slice none 0 0, .slice none 0 0, .slice none 0 0] := by
     have h9 := HT.new (w := (wr.alloc (.cells #[.slice none 0 0, .slice none 0 0, .slice none 0 0] 26))) (t := 26) (C := [.slice none 0 0, .slice none 0 0, .slice none 0 0])
     rwa [show (wr.alloc (.cells #[.slice none 0 0, .slice none 0 0, .slice none 0 0] 26)).heap.size = wr.heap.size + 1 by simp] at h9
    have hb : Below wr.heap.size wr ((wr.alloc (.cells #[.slice none 0 0, .slice none 0 0, .slice none 0 0] 26)).alloc (.cells #[.slice none 0 0, .slice none 0 0, .slice none 0 0] 26)) := ((Below.refl _ _).alloc (Nat.le_refl _) _).alloc (by simp) _
    have hsz : ((wr.alloc (.cells #[.slice none 0 0, .slice none 0 0, .slice none 0 0] 26)).alloc (.cells #[.slice none 0 0, .slice none 0 0, .slice none 0 0] 26)).heap.size = wr.heap.size + 2 := by simp
    have HXB := Lib.hid hxb
    have HYB := Lib.hid hyb
    clear hxb hyb
    have HSZW := Lib.hid hsz
    clear hsz
    have HBx := Lib.hid hb
    clear hb
    go_upto_region 8 with fail
    have HRBn := Lib.hid (HRB.out.below HBx.out)
    clear HRB
    have HRB := HRBn
    clear HRBn
    have HNBn := Lib.hid (HNB.out.below HBx.out)
    clear HNB
    have HNB := HNBn
    clear HNBn
    have HIBn := Lib.hid (HIB.out.below HBx.out)
    clear HIB
    have HIB := HIBn
    clear HIBn
    have HABn := Lib.hid (HAB.out.below HBx.out)
    clear HAB
    have HAB := HABn
    clear HABn
    have HOn := Lib.hid (HO.out.below HBx.out)
    clear HO
    have HO := HOn
    clear HOn
    have HRWn := Lib.hid (HRW.out.mono HBx.out)
    clear HRW
    have HRW := HRWn
    clear HRWn
    have HBn := Lib.hid (bgo HB.out HBx.out HB.out.size)
    clear HB
    have HB := HBn
    clear HBn
    have HRkn := Lib.hid (bgo HRk.out HBx.out HRk.out.size)
    clear HRk
    have HRk := HRkn
    clear HRkn
    clear HBx
    generalize hW : ((wr.alloc (.cells #[.slice none 0 0, .slice none 0 0, .slice none 0 0] 26)).alloc (.cells #[.slice none 0 0, .slice none 0 0, .slice none 0 0] 26)) = V0 at *
    clear hW
    obtain ⟨gx, hgx⟩ : ∃ g, g = wr.heap.size := ⟨_, rfl⟩
    obtain ⟨gy, hgy⟩ : ∃ g, g = wr.heap.size + 1 := ⟨_, rfl⟩
    have HXB2 : Hid (HT V0 gx 26 [.slice none 0 0, .slice none 0 0, .slice none 0 0]) := by have h9 := HXB.out; rwa [← hgx] at h9
    have HYB2 : Hid (HT V0 gy 26 [.slice none 0 0, .slice none 0 0, .slice none 0 0]) := by have h9 := HYB.out; rwa [← hgy] at h9
    clear HXB HYB
    have HXB := HXB2
    have HYB := HYB2
    clear HXB2 HYB2
    rw [show wr.heap.size + 1 = gy from hgy.symm]
    rw [show Value.pointer (some ⟨wr.heap.size, 0, none⟩) = Value.pointer (some ⟨gx, 0, none⟩) by rw [hgx]]
    have HGXY : Hid (wr.heap.size ≤ gx ∧ gx < gy ∧ gy < V0.heap.size) := by have h9 := HSZW.out; show _ ∧ _ ∧ _; omega
    clear hgx hgy HSZW
    have HNBx : Hid (V0.heap[gn]? = some (.cells #[.slice aM nM cM, .slice aI nI cI, .slice aA nA cA] 26 (0, 0))) := HNB.out
    have cn := Put_any V0 _ _ _ R who st HO.out.in HFEW.out
    rw [← HXD.out] at cn
    go_wp2_with (first
     | (refine wpList_load_row rfl 26 (.tmp 17) rfl gn rfl 26 #[.slice aM nM cM, .slice aI nI cI, .slice aA nA cA] (0, 0) _ HNBx.out Try.underlying26 rfl HSZn.out ?_)
     | fail)
    (with_reducible refine cn.mono ?_)
    clear cn HNBx
    rintro e u3 ⟨aM3, nM3, cM3, aI3, nI3, cI3, aA3, nA3, cA3, rfl, ho, hb⟩
    have HGE3 : Hid (∀ q, ((Value.slice aM3 nM3 cM3).ownBlock = some q ∨ (Value.slice aI3 nI3 cI3).ownBlock = some q ∨ (Value.slice aA3 nA3 cA3).ownBlock = some q) → gy < q) := fun q hq => by
     have h1 := HGXY.out
     have h2 := HYB.out.lt
     rcases hq with hq | hq | hq
     ·
      have := OwnR.ge ho.1 q hq; omega
     ·
      have := OwnR.ge ho.2.1 q hq; omega
     ·
      have := OwnR.ge ho.2.2 q hq; omega
    have HOX := Lib.hid ho
    clear ho
    have HRBn := Lib.hid (HRB.out.below hb)
    clear HRB
    have HRB := HRBn
    clear HRBn
    have HNBn := Lib.hid (HNB.out.below hb)
    clear HNB
    have HNB := HNBn
    clear HNBn
    have HIBn := Lib.hid (HIB.out.below hb)
    clear HIB
    have HIB := HIBn
    clear HIBn
    have HABn := Lib.hid (HAB.out.below hb)
    clear HAB
    have HAB := HABn
    clear HABn
    have HOn := Lib.hid (HO.out.below hb)
    clear HO
    have HO := HOn
    clear HOn
    have HRWn := Lib.hid (HRW.out.mono hb)
    clear HRW
    have HRW := HRWn
    clear HRWn
    have HXBn := Lib.hid (HXB.out.below hb)
    clear HXB
    have HXB := HXBn
    clear HXBn
    have HYBn := Lib.hid (HYB.out.below hb)
    clear HYB
    have HYB := HYBn
    clear HYBn
    have HBn := Lib.hid (bgo HB.out hb HB.out.size)
    clear HB
    have HB := HBn
    clear HBn
    have HRkn := Lib.hid (bgo HRk.out hb HRk.out.size)
    clear HRk
    have HRk := HRkn
    clear HRkn
    clear hb
    have HSZs3 : Hid ((Try.prog.info? 26).map (·.size) = some (#[.slice aM3 nM3 cM3, .slice aI3 nI3 cI3, .slice aA3 nA3 cA3] : Array Value).size) := by show _ = _; rw [rol_sz]; rfl
    have HONs3 : Hid ((#[.slice aM3 nM3 cM3, .slice aI3 nI3 cI3, .slice aA3 nA3 cA3] : Array Value).all (·.oneCell') = true) := by show _ = true; simp [Value.oneCell']
    have HXBx : Hid (u3.heap[gx]? = some (.cells #[.slice none 0 0, .slice none 0 0, .slice none 0 0] 26 (0, 0))) := HXB.out
    go_upto_region 11 with (first
     | (refine wpList_store_row rfl 26 (.tmp 19) (.tmp 37) rfl gx #[.slice aM3 nM3 cM3, .slice aI3 nI3 cI3, .slice aA3 nA3 cA3] rfl rfl 26 #[.slice none 0 0, .slice none 0 0, .slice none 0 0] HXBx.out HSZs3.out rfl HONs3.out ?_)
     | fail)
    have hk : Kept (fun k => k = gx) u3 (u3.setRow gx #[.slice aM3 nM3 cM3, .slice aI3 nI3 cI3, .slice aA3 nA3 cA3]) := setRow_kept _ _ _
    have hn : Hid (HT (u3.setRow gx #[.slice aM3 nM3 cM3, .slice aI3 nI3 cI3, .slice aA3 nA3 cA3]) gx 26 [.slice aM3 nM3 cM3, .slice aI3 nI3 cI3, .slice aA3 nA3 cA3]) := HT.row HXBx.out rfl
    have hHYB := Lib.hid (HYB.out.keptS hk (fun (e : gy = gx) => by have := HGXY.out; omega))
    have hHOX := Lib.hid (HOX.out.keptQ hk (fun q hq (e : q = gx) => by have h1 := HGE3.out q hq; have h2 := HGXY.out; omega))
    have hRk := Lib.hid (HRk.out.trans (setRow_below (w := u3) (B := wr.heap.size) (g := gx) (by have := HGXY.out; omega) #[.slice aM3 nM3 cM3, .slice aI3 nI3 cI3, .slice aA3 nA3 cA3]))
    have hHRB := Lib.hid (HRB_k.out.below hRk.out)
    have hHNB := Lib.hid (HNB_k.out.below hRk.out)
    have hHIB := Lib.hid (HIB_k.out.below hRk.out)
    have hHAB := Lib.hid (HAB_k.out.below hRk.out)
    have hHO := Lib.hid (HO_k.out.below hRk.out)
    have hHRW := Lib.hid (HRW_k.out.mono hRk.out)
    have hB := Lib.hid (HB_k.out.trans (hRk.out.mono HB_k.out.size))
    clear HB HRk hk HRB HNB HIB HAB HO HRW HXB HYB HOX HXBx
    have HB := hB
    have HRk := hRk
    clear hB hRk
    have HRB := hHRB
    clear hHRB
    have HNB := hHNB
    clear hHNB
    have HIB := hHIB
    clear hHIB
    have HAB := hHAB
    clear hHAB
    have HO := hHO
    clear hHO
    have HRW := hHRW
    clear hHRW
    have HXB := hn
    clear hn
    have HYB := hHYB
    clear hHYB
    have HOX := hHOX
    clear hHOX
    obtain ⟨V3, hV⟩ : ∃ v, v = (u3.setRow gx #[.slice aM3 nM3 cM3, .slice aI3 nI3 cI3, .slice aA3 nA3 cA3]) := ⟨_, rfl⟩
    rw [← hV] at HRB HNB HIB HAB HO HRW HXB HYB HOX HB HRk ⊢
    clear hV
    have HRBx : Hid (V3.heap[gr]? = some (.cells #[va, vb, vc] 26 (0, 0))) := HRB.out
    have cn := rPut_any V3 _ _ _ R who st HRW.out HFEW.out
    rw [← HXD.out] at cn
    go_wp2_with (first
     | (refine wpList_load_row rfl 26 (.tmp 8) rfl gr rfl 26 #[va, vb, vc] (0, 0) _ HRBx.out Try.underlying26 rfl HSZr.out ?_)
     | fail)
    (with_reducible refine cn.mono ?_)
    clear cn HRBx
    rintro e u4 ⟨aM4, nM4, cM4, aI4, nI4, cI4, aA4, nA4, cA4, rfl, ho, hb⟩
    have HGE4 : Hid (∀ q, ((Value.slice aM4 nM4 cM4).ownBlock = some q ∨ (Value.slice aI4 nI4 cI4).ownBlock = some q ∨ (Value.slice aA4 nA4 cA4).ownBlock = some q) → gy < q) := fun q hq => by
     have h1 := HGXY.out
     have h2 := HYB.out.lt
     rcases hq with hq | hq | hq
     ·
      have := OwnR.ge ho.1 q hq; omega
     ·
      have := OwnR.ge ho.2.1 q hq; omega
     ·
      have := OwnR.ge ho.2.2 q hq; omega
    have HOY := Lib.hid ho
    clear ho
    have HRBn := Lib.hid (HRB.out.below hb)
    clear HRB
    have HRB := HRBn
    clear HRBn
    have HNBn := Lib.hid (HNB.out.below hb)
    clear HNB
    have HNB := HNBn
    clear HNBn
    have HIBn := Lib.hid (HIB.out.below hb)
    clear HIB
    have HIB := HIBn
    clear HIBn
    have HABn := Lib.hid (HAB.out.below hb)
    clear HAB
    have HAB := HABn
    clear HABn
    have HOn := Lib.hid (HO.out.below hb)
    clear HO
    have HO := HOn
    clear HOn
    have HRWn := Lib.hid (HRW.out.mono hb)
    clear HRW
    have HRW := HRWn
    clear HRWn
    have HXBn := Lib.hid (HXB.out.below hb)
    clear HXB
    have HXB := HXBn
    clear HXBn
    have HYBn := Lib.hid (HYB.out.below hb)
    clear HYB
    have HYB := HYBn
    clear HYBn
    have HOXn := Lib.hid (HOX.out.below hb)
    clear HOX
    have HOX := HOXn
    clear HOXn
    have HBn := Lib.hid (bgo HB.out hb HB.out.size)
    clear HB
    have HB := HBn
    clear HBn
    have HRkn := Lib.hid (bgo HRk.out hb HRk.out.size)
    clear HRk
    have HRk := HRkn
    clear HRkn
    clear hb
    have HSZs4 : Hid ((Try.prog.info? 26).map (·.size) = some (#[.slice aM4 nM4 cM4, .slice aI4 nI4 cI4, .slice aA4 nA4 cA4] : Array Value).size) := by show _ = _; rw [rol_sz]; rfl
    have HONs4 : Hid ((#[.slice aM4 nM4 cM4, .slice aI4 nI4 cI4, .slice aA4 nA4 cA4] : Array Value).all (·.oneCell') = true) := by show _ = true; simp [Value.oneCell']
    have HYBx : Hid (u4.heap[gy]? = some (.cells #[.slice none 0 0, .slice none 0 0, .slice none 0 0] 26 (0, 0))) := HYB.out
    go_upto_region 24 with (first
     | (refine wpList_store_row rfl 26 (.tmp 20) (.tmp 44) rfl gy #[.slice aM4 nM4 cM4, .slice aI4 nI4 cI4, .slice aA4 nA4 cA4] rfl rfl 26 #[.slice none 0 0, .slice none 0 0, .slice none 0 0] HYBx.out HSZs4.out rfl HONs4.out ?_)
     | fail)
    have hk : Kept (fun k => k = gy) u4 (u4.setRow gy #[.slice aM4 nM4 cM4, .slice aI4 nI4 cI4, .slice aA4 nA4 cA4]) := setRow_kept _ _ _
    have hn : Hid (HT (u4.setRow gy #[.slice aM4 nM4 cM4, .slice aI4 nI4 cI4, .slice aA4 nA4 cA4]) gy 26 [.slice aM4 nM4 cM4, .slice aI4 nI4 cI4, .slice aA4 nA4 cA4]) := HT.row HYBx.out rfl
    have hHXB := Lib.hid (HXB.out.keptS hk (fun (e : gx = gy) => by have := HGXY.out; omega))
    have hHOX := Lib.hid (HOX.out.keptQ hk (fun q hq (e : q = gy) => by have h1 := HGE3.out q hq; have h2 := HGXY.out; omega))
    have hHOY := Lib.hid (HOY.out.keptQ hk (fun q hq (e : q = gy) => by have h1 := HGE4.out q hq; have h2 := HGXY.out; omega))
    have hRk := Lib.hid (HRk.out.trans (setRow_below (w := u4) (B := wr.heap.size) (g := gy) (by have := HGXY.out; omega) #[.slice aM4 nM4 cM4, .slice aI4 nI4 cI4, .slice aA4 nA4 cA4]))
    have hHRB := Lib.hid (HRB_k.out.below hRk.out)
    have hHNB := Lib.hid (HNB_k.out.below hRk.out)
    have hHIB := Lib.hid (HIB_k.out.below hRk.out)
    have hHAB := Lib.hid (HAB_k.out.below hRk.out)
    have hHO := Lib.hid (HO_k.out.below hRk.out)
    have hHRW := Lib.hid (HRW_k.out.mono hRk.out)
    have hB := Lib.hid (HB_k.out.trans (hRk.out.mono HB_k.out.size))
    clear HB HRk hk HRB HNB HIB HAB HO HRW HXB HYB HOX HOY HYBx
    have HB := hB
    have HRk := hRk
    clear hB hRk
    have HRB := hHRB
    clear hHRB
    have HNB := hHNB
    clear hHNB
    have HIB := hHIB
    clear hHIB
    have HAB := hHAB
    clear hHAB
    have HO := hHO
    clear hHO
    have HRW := hHRW
    clear hHRW
    have HXB := hHXB
    clear hHXB
    have HYB := hn
    clear hn
    have HOX := hHOX
    clear hHOX
    have HOY := hHOY
    clear hHOY
    obtain ⟨V4, hV⟩ : ∃ v, v = (u4.setRow gy #[.slice aM4 nM4 cM4, .slice aI4 nI4 cI4, .slice aA4 nA4 cA4]) := ⟨_, rfl⟩
    rw [← hV] at HRB HNB HIB HAB HO HRW HXB HYB HOX HOY HB HRk ⊢
    clear hV
    have HXBx : Hid (V4.heap[gx]? = some (.cells #[.slice aM3 nM3 cM3, .slice aI3 nI3 cI3, .slice aA3 nA3 cA3] 26 (0, 0))) := HXB.out
    have HYBx : Hid (V4.heap[gy]? = some (.cells #[.slice aM4 nM4 cM4, .slice aI4 nI4 cI4, .slice aA4 nA4 cA4] 26 (0, 0))) := HYB.out
    go_wp2_with (first
     | (refine wpList_load_row rfl 26 (.tmp 19) rfl gx rfl 26 #[.slice aM3 nM3 cM3, .slice aI3 nI3 cI3, .slice aA3 nA3 cA3] (0, 0) _ HXBx.out Try.underlying26 rfl HSZs3.out ?_)
     | (refine wpList_load_row rfl 26 (.tmp 20) rfl gy rfl 26 #[.slice aM4 nM4 cM4, .slice aI4 nI4 cI4, .slice aA4 nA4 cA4] (0, 0) _ HYBx.out Try.underlying26 rfl HSZs4.out ?_)
     | fail)
    refine (KRoll_same _ _ _ _ _ _ _ X.2.M X.2.I X.2.A HOX.out.in.1 HOY.out.in.1 HOX.out.in.2.1 HOY.out.in.2.1 HOX.out.in.2.2 HOY.out.in.2.2).mono ?_
    clear HXBx HYBx
    rintro e t1 ⟨rfl, hb⟩
    have HRBn := Lib.hid (HRB.out.below hb)
    clear HRB
    have HRB := HRBn
    clear HRBn
    have HNBn := Lib.hid (HNB.out.below hb)
    clear HNB
    have HNB := HNBn
    clear HNBn
    have HIBn := Lib.hid (HIB.out.below hb)
    clear HIB
    have HIB := HIBn
    clear HIBn
    have HABn := Lib.hid (HAB.out.below hb)
    clear HAB
    have HAB := HABn
    clear HABn
    have HOn := Lib.hid (HO.out.below hb)
    clear HO
    have HO := HOn
    clear HOn
    have HRWn := Lib.hid (HRW.out.mono hb)
    clear HRW
    have HRW := HRWn
    clear HRWn
    have HXBn := Lib.hid (HXB.out.below hb)
    clear HXB
    have HXB := HXBn
    clear HXBn
    have HYBn := Lib.hid (HYB.out.below hb)
    clear HYB
    have HYB := HYBn
    clear HYBn
    have HOXn := Lib.hid (HOX.out.below hb)
    clear HOX
    have HOX := HOXn
    clear HOXn
    have HOYn := Lib.hid (HOY.out.below hb)
    clear HOY
    have HOY := HOYn
    clear HOYn
    have HBn := Lib.hid (bgo HB.out hb HB.out.size)
    clear HB
    have HB := HBn
    clear HBn
    have HRkn := Lib.hid (bgo HRk.out hb HRk.out.size)
    clear HRk
    have HRk := HRkn
    clear HRkn
    clear hb
    have HXBx : Hid (t1.heap[gx]? = some (.cells #[.slice aM3 nM3 cM3, .slice aI3 nI3 cI3, .slice aA3 nA3 cA3] 26 (0, 0))) := HXB.out
    have hap3 : OwnRoll t1 wr.heap.size (.slice aM3 nM3 cM3) (.slice aI3 nI3 cI3) (.slice aA3 nA3 cA3) X.2 := HOX.out.base3 (fun q hq => by have h1 := HGE3.out q hq; have h2 := HGXY.out; omega)
    go_wp2_with (first
     | (refine wpList_load_row rfl 26 (.tmp 19) rfl gx rfl 26 #[.slice aM3 nM3 cM3, .slice aI3 nI3 cI3, .slice aA3 nA3 cA3] (0, 0) _ HXBx.out Try.underlying26 rfl HSZs3.out ?_)
     | fail)
    refine (SpoilRoll_any _ wr.heap.size _ _ _ _ hap3 HFX.out HRk.out.size).mono ?_
    clear HXBx hap3
    rintro e z1 ⟨rfl, hb⟩
    have HRn := Lib.hid (HRk.out.trans hb)
    clear HRk HB HRB HNB HIB HAB HO HRW HXB HYB HOX HOY
    have HRB := Lib.hid (HRB_k.out.below HRn.out)
    have HNB := Lib.hid (HNB_k.out.below HRn.out)
    have HIB := Lib.hid (HIB_k.out.below HRn.out)
    have HAB := Lib.hid (HAB_k.out.below HRn.out)
    have HO := Lib.hid (HO_k.out.below HRn.out)
    have HRW := Lib.hid (HRW_k.out.mono HRn.out)
    have HB := Lib.hid (HB_k.out.trans (HRn.out.mono HB_k.out.size))
    clear HRn HB_k HRB_k HNB_k HIB_k HAB_k HO_k HRW_k
    clear hb
    have HNBx : Hid (z1.heap[gn]? = some (.cells #[.slice aM nM cM, .slice aI nI cI, .slice aA nA cA] 26 (0, 0))) := HNB.out
    have HRBx : Hid (z1.heap[gr]? = some (.cells #[va, vb, vc] 26 (0, 0))) := HRB.out
    go_wp2_with (first
     | (refine wpList_load_row rfl 26 (.tmp 17) rfl gn rfl 26 #[.slice aM nM cM, .slice aI nI cI, .slice aA nA cA] (0, 0) _ HNBx.out Try.underlying26 rfl HSZn.out ?_)
     | (refine wpList_load_row rfl 26 (.tmp 8) rfl gr rfl 26 #[va, vb, vc] (0, 0) _ HRBx.out Try.underlying26 rfl HSZr.out ?_)
     | fail)
    refine (KRoll_same _ _ _ _ _ _ _ R.M R.I R.A HO.out.in.1 HRW.out.1 HO.out.in.2.1 HRW.out.2.1 HO.out.in.2.2 HRW.out.2.2).mono ?_
    clear HNBx HRBx
    rintro e z3 ⟨rfl, hb⟩
    have HRBn := Lib.hid (HRB.out.below hb)
    clear HRB
    have HRB := HRBn
    clear HRBn
    have HNBn := Lib.hid (HNB.out.below hb)
    clear HNB
    have HNB := HNBn
    clear HNBn
    have HIBn := Lib.hid (HIB.out.below hb)
    clear HIB
    have HIB := HIBn
    clear HIBn
    have HABn := Lib.hid (HAB.out.below hb)
    clear HAB
    have HAB := HABn
    clear HABn
    have HOn := Lib.hid (HO.out.below hb)
    clear HO
    have HO := HOn
    clear HOn
    have HRWn := Lib.hid (HRW.out.mono hb)
    clear HRW
    have HRW := HRWn
    clear HRWn
    have HBn := Lib.hid (bgo HB.out hb HB.out.size)
    clear HB
    have HB := HBn
    clear HBn
    clear hb
    go_wp2_with fail
    exact ⟨⟨5, by omega, by omega, rfl, HRB.out, HNB.out, HIB.out, HAB.out, HO.out, HRW.out, HB.out⟩, by simp [intOf]⟩
   ·
    subst hz
    go_wp2_with fail
    refine (wakes11_any wr).mono ?_
    rintro e wz ⟨rfl, hb⟩
    go_wp2_with fail
    go_ret
    exact ⟨rfl, bgo HBL.out hb HBL.out.size⟩
end Cam
