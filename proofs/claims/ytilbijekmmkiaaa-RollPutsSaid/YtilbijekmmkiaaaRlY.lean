import Derived.Test.YtilbijekmmkiaaaRlU
import Derived.Test.YtilbijekmmkiaaaRlHh
import Derived.Test.YtilbijekmmkiaaaRlHl
import Derived.Test.YtilbijekmmkiaaaRlHp
import Derived.Test.YtilbijekmmkiaaaRlHt
/- roll: acts of a script; do. -/
namespace Cam
open Go Go.RowKit Go.Proofs

structure AcT where
  dv : Int
  av : Int
  bv : Int
  i : InT
  h : AsT
def AcT.vs (c : AcT) : List Value := [.int .i64 c.dv, .int .i64 c.av, .int .i64 c.bv, .int .i64 c.i.no, .int .i64 c.i.cur, .int .i64 c.i.mult, .int .i64 c.i.add, .int .i64 c.i.set, .int .i64 c.i.price, .int .i64 c.i.h0, .int .i64 c.i.h1, .int .i64 c.i.h2, .int .i64 c.i.h3, .int .i64 c.i.h4, .int .i64 c.i.h5, .int .i64 c.h.no, .int .i64 c.h.cur, .int .i64 c.h.price, .int .i64 c.h.cut]
theorem AcT.len (c : AcT) : c.vs.length = 19 := rfl
theorem act_sz : (Try.prog.info? 64).map (·.size) = some 19 := by kernel_rfl
def ck6 (k : Int) : Int := (IntKind.u64.wrap k).tmod 6
theorem ck6_cases (k : Int) : ck6 k = 0 ∨ ck6 k = 1 ∨ ck6 k = 2 ∨ ck6 k = 3 ∨ ck6 k = 4 ∨ ck6 k = 5 := by
  unfold ck6
  rw [IntKind.wrap_u64, Int.tmod_eq_emod_of_nonneg (by omega)]
  omega
/-- what an act makes of a roll -/
noncomputable def doR (R : RollT) (c : AcT) : Int × RollT :=
  if ck6 c.dv = 0 then admitR R c.av c.bv else if ck6 c.dv = 1 then listR R c.i else if ck6 c.dv = 2 then holdR R c.h else if ck6 c.dv = 3 then tellR R c.av c.bv else if ck6 c.dv = 4 then (0, turnR R) else stateR R c.av c.bv

set_option maxRecDepth 100000 in
set_option maxHeartbeats 6400000 in
theorem do_any (w : World) (va vb vc : Value) (R : RollT) (c : AcT) (h : RollIn w va vb vc R) (hf : few R) :
    Calls Try.prog 41 #[.agg #[va, vb, vc], .agg #[.int .i64 c.dv, .int .i64 c.av, .int .i64 c.bv, .int .i64 c.i.no, .int .i64 c.i.cur, .int .i64 c.i.mult, .int .i64 c.i.add, .int .i64 c.i.set, .int .i64 c.i.price, .int .i64 c.i.h0, .int .i64 c.i.h1, .int .i64 c.i.h2, .int .i64 c.i.h3, .int .i64 c.i.h4, .int .i64 c.i.h5, .int .i64 c.h.no, .int .i64 c.h.cur, .int .i64 c.h.price, .int .i64 c.h.cut]] w (RetPost w (doR R c)) := by
  have HR := Lib.hid h
  have HFEW := Lib.hid hf
  clear h hf
  have hHRB : HT (w.alloc (.cells #[va, vb, vc] 26)) w.heap.size 26 [va, vb, vc] := by
    have := HT.new (w := w) (t := 26) (C := [va, vb, vc])
    exact this
  have hHRB := hHRB.below (w' := ((w.alloc (.cells #[va, vb, vc] 26)).alloc (.cells #[.int .i64 c.dv, .int .i64 c.av, .int .i64 c.bv, .int .i64 c.i.no, .int .i64 c.i.cur, .int .i64 c.i.mult, .int .i64 c.i.add, .int .i64 c.i.set, .int .i64 c.i.price, .int .i64 c.i.h0, .int .i64 c.i.h1, .int .i64 c.i.h2, .int .i64 c.i.h3, .int .i64 c.i.h4, .int .i64 c.i.h5, .int .i64 c.h.no, .int .i64 c.h.cur, .int .i64 c.h.price, .int .i64 c.h.cut] 64))) ((Below.refl _ _).alloc (Nat.le_refl _) _)
  have hHRB := hHRB.below (w' := (((w.alloc (.cells #[va, vb, vc] 26)).alloc (.cells #[.int .i64 c.dv, .int .i64 c.av, .int .i64 c.bv, .int .i64 c.i.no, .int .i64 c.i.cur, .int .i64 c.i.mult, .int .i64 c.i.add, .int .i64 c.i.set, .int .i64 c.i.price, .int .i64 c.i.h0, .int .i64 c.i.h1, .int .i64 c.i.h2, .int .i64 c.i.h3, .int .i64 c.i.h4, .int .i64 c.i.h5, .int .i64 c.h.no, .int .i64 c.h.cur, .int .i64 c.h.price, .int .i64 c.h.cut] 64)).alloc (.cells #[.slice none 0 0, .slice none 0 0, .slice none 0 0] 26))) ((Below.refl _ _).alloc (Nat.le_refl _) _)
  have HRB := Lib.hid hHRB
  clear hHRB
  have hHAB : HT ((w.alloc (.cells #[va, vb, vc] 26)).alloc (.cells #[.int .i64 c.dv, .int .i64 c.av, .int .i64 c.bv, .int .i64 c.i.no, .int .i64 c.i.cur, .int .i64 c.i.mult, .int .i64 c.i.add, .int .i64 c.i.set, .int .i64 c.i.price, .int .i64 c.i.h0, .int .i64 c.i.h1, .int .i64 c.i.h2, .int .i64 c.i.h3, .int .i64 c.i.h4, .int .i64 c.i.h5, .int .i64 c.h.no, .int .i64 c.h.cur, .int .i64 c.h.price, .int .i64 c.h.cut] 64)) (w.heap.size + 1) 64 [.int .i64 c.dv, .int .i64 c.av, .int .i64 c.bv, .int .i64 c.i.no, .int .i64 c.i.cur, .int .i64 c.i.mult, .int .i64 c.i.add, .int .i64 c.i.set, .int .i64 c.i.price, .int .i64 c.i.h0, .int .i64 c.i.h1, .int .i64 c.i.h2, .int .i64 c.i.h3, .int .i64 c.i.h4, .int .i64 c.i.h5, .int .i64 c.h.no, .int .i64 c.h.cur, .int .i64 c.h.price, .int .i64 c.h.cut] := by
    have := HT.new (w := (w.alloc (.cells #[va, vb, vc] 26))) (t := 64) (C := [.int .i64 c.dv, .int .i64 c.av, .int .i64 c.bv, .int .i64 c.i.no, .int .i64 c.i.cur, .int .i64 c.i.mult, .int .i64 c.i.add, .int .i64 c.i.set, .int .i64 c.i.price, .int .i64 c.i.h0, .int .i64 c.i.h1, .int .i64 c.i.h2, .int .i64 c.i.h3, .int .i64 c.i.h4, .int .i64 c.i.h5, .int .i64 c.h.no, .int .i64 c.h.cur, .int .i64 c.h.price, .int .i64 c.h.cut])
    rwa [show (w.alloc (.cells #[va, vb, vc] 26)).heap.size = (w.heap.size + 1) by simp] at this
  have hHAB := hHAB.below (w' := (((w.alloc (.cells #[va, vb, vc] 26)).alloc (.cells #[.int .i64 c.dv, .int .i64 c.av, .int .i64 c.bv, .int .i64 c.i.no, .int .i64 c.i.cur, .int .i64 c.i.mult, .int .i64 c.i.add, .int .i64 c.i.set, .int .i64 c.i.price, .int .i64 c.i.h0, .int .i64 c.i.h1, .int .i64 c.i.h2, .int .i64 c.i.h3, .int .i64 c.i.h4, .int .i64 c.i.h5, .int .i64 c.h.no, .int .i64 c.h.cur, .int .i64 c.h.price, .int .i64 c.h.cut] 64)).alloc (.cells #[.slice none 0 0, .slice none 0 0, .slice none 0 0] 26))) ((Below.refl _ _).alloc (Nat.le_refl _) _)
  have HAB := Lib.hid hHAB
  clear hHAB
  have hHZB : HT (((w.alloc (.cells #[va, vb, vc] 26)).alloc (.cells #[.int .i64 c.dv, .int .i64 c.av, .int .i64 c.bv, .int .i64 c.i.no, .int .i64 c.i.cur, .int .i64 c.i.mult, .int .i64 c.i.add, .int .i64 c.i.set, .int .i64 c.i.price, .int .i64 c.i.h0, .int .i64 c.i.h1, .int .i64 c.i.h2, .int .i64 c.i.h3, .int .i64 c.i.h4, .int .i64 c.i.h5, .int .i64 c.h.no, .int .i64 c.h.cur, .int .i64 c.h.price, .int .i64 c.h.cut] 64)).alloc (.cells #[.slice none 0 0, .slice none 0 0, .slice none 0 0] 26)) (w.heap.size + 2) 26 [.slice none 0 0, .slice none 0 0, .slice none 0 0] := by
    have := HT.new (w := ((w.alloc (.cells #[va, vb, vc] 26)).alloc (.cells #[.int .i64 c.dv, .int .i64 c.av, .int .i64 c.bv, .int .i64 c.i.no, .int .i64 c.i.cur, .int .i64 c.i.mult, .int .i64 c.i.add, .int .i64 c.i.set, .int .i64 c.i.price, .int .i64 c.i.h0, .int .i64 c.i.h1, .int .i64 c.i.h2, .int .i64 c.i.h3, .int .i64 c.i.h4, .int .i64 c.i.h5, .int .i64 c.h.no, .int .i64 c.h.cur, .int .i64 c.h.price, .int .i64 c.h.cut] 64))) (t := 26) (C := [.slice none 0 0, .slice none 0 0, .slice none 0 0])
    rwa [show ((w.alloc (.cells #[va, vb, vc] 26)).alloc (.cells #[.int .i64 c.dv, .int .i64 c.av, .int .i64 c.bv, .int .i64 c.i.no, .int .i64 c.i.cur, .int .i64 c.i.mult, .int .i64 c.i.add, .int .i64 c.i.set, .int .i64 c.i.price, .int .i64 c.i.h0, .int .i64 c.i.h1, .int .i64 c.i.h2, .int .i64 c.i.h3, .int .i64 c.i.h4, .int .i64 c.i.h5, .int .i64 c.h.no, .int .i64 c.h.cur, .int .i64 c.h.price, .int .i64 c.h.cut] 64)).heap.size = (w.heap.size + 2) by simp] at this
  have HZB := Lib.hid hHZB
  clear hHZB
  have hB : Below w.heap.size w (((w.alloc (.cells #[va, vb, vc] 26)).alloc (.cells #[.int .i64 c.dv, .int .i64 c.av, .int .i64 c.bv, .int .i64 c.i.no, .int .i64 c.i.cur, .int .i64 c.i.mult, .int .i64 c.i.add, .int .i64 c.i.set, .int .i64 c.i.price, .int .i64 c.i.h0, .int .i64 c.i.h1, .int .i64 c.i.h2, .int .i64 c.i.h3, .int .i64 c.i.h4, .int .i64 c.i.h5, .int .i64 c.h.no, .int .i64 c.h.cur, .int .i64 c.h.price, .int .i64 c.h.cut] 64)).alloc (.cells #[.slice none 0 0, .slice none 0 0, .slice none 0 0] 26)) := ((((Below.refl _ _).alloc (by simp <;> omega) _).alloc (by simp <;> omega) _).alloc (by simp <;> omega) _)
  have HB := Lib.hid hB
  clear hB
  have hS : w.heap.size + 3 ≤ (((w.alloc (.cells #[va, vb, vc] 26)).alloc (.cells #[.int .i64 c.dv, .int .i64 c.av, .int .i64 c.bv, .int .i64 c.i.no, .int .i64 c.i.cur, .int .i64 c.i.mult, .int .i64 c.i.add, .int .i64 c.i.set, .int .i64 c.i.price, .int .i64 c.i.h0, .int .i64 c.i.h1, .int .i64 c.i.h2, .int .i64 c.i.h3, .int .i64 c.i.h4, .int .i64 c.i.h5, .int .i64 c.h.no, .int .i64 c.h.cur, .int .i64 c.h.price, .int .i64 c.h.cut] 64)).alloc (.cells #[.slice none 0 0, .slice none 0 0, .slice none 0 0] 26)).heap.size := by simp <;> omega
  have HLE := Lib.hid hS
  clear hS
  have hck := ck6_cases c.dv
  obtain ⟨r, hr⟩ : ∃ r, r = ck6 c.dv := ⟨_, rfl⟩
  rw [← hr] at hck
  have HRD := Lib.hid hr
  unfold ck6 at hr
  have HRK := Lib.hid hr
  have HCK := Lib.hid hck
  clear hr hck
  go_enter Try.func41, Try.ntmps41
  go_upto_region 1 with fail
  generalize hW : (((w.alloc (.cells #[va, vb, vc] 26)).alloc (.cells #[.int .i64 c.dv, .int .i64 c.av, .int .i64 c.bv, .int .i64 c.i.no, .int .i64 c.i.cur, .int .i64 c.i.mult, .int .i64 c.i.add, .int .i64 c.i.set, .int .i64 c.i.price, .int .i64 c.i.h0, .int .i64 c.i.h1, .int .i64 c.i.h2, .int .i64 c.i.h3, .int .i64 c.i.h4, .int .i64 c.i.h5, .int .i64 c.h.no, .int .i64 c.h.cur, .int .i64 c.h.price, .int .i64 c.h.cut] 64)).alloc (.cells #[.slice none 0 0, .slice none 0 0, .slice none 0 0] 26)) = W0 at *
  clear hW
  have hc0 := HAB.out.cell (j := 0) rfl
  go_upto_region 2 with fail
  clear hc0
  rcases HCK.out with rfl | rfl | rfl | rfl | rfl | rfl
  · have hr := HRK.out.symm
    have HDO : Hid (doR R c = admitR R c.av c.bv) := by show _ = _; have e := HRD.out.symm; unfold doR; rw [if_pos e]
    have cn := Admit_any W0 va vb vc R c.av c.bv (HR.out.mono HB.out) HFEW.out
    obtain ⟨X, hX⟩ : ∃ z, z = admitR R c.av c.bv := ⟨_, rfl⟩
    rw [← hX] at cn HDO
    clear hX
    have HSZr : Hid ((Try.prog.info? 26).map (·.size) = some (#[va, vb, vc] : Array Value).size) := by show _ = _; rw [rol_sz]; rfl
    have HRBx : Hid (W0.heap[w.heap.size]? = some (.cells #[va, vb, vc] 26 (0, 0))) := HRB.out
    have hc1 := HAB.out.cell (j := 1) rfl
    have hc2 := HAB.out.cell (j := 2) rfl
    go_wp2_with (first
      | (refine wpList_load_row rfl 26 (.tmp 2) rfl w.heap.size rfl 26 #[va, vb, vc] (0, 0) _ HRBx.out Try.underlying26 rfl HSZr.out ?_)
      | fail)
    refine cn.mono ?_
    clear cn HRBx hr hc1 hc2
    rintro e wt ⟨aM, nM, cM, aI, nI, cI, aA, nA, cA, rfl, ho, hb⟩
    have HO := Lib.hid (ho.base (base' := w.heap.size + 3) HLE.out)
    clear ho
    have HRBn := Lib.hid (HRB.out.below hb)
    clear HRB
    have HRB := HRBn
    clear HRBn
    have HABn := Lib.hid (HAB.out.below hb)
    clear HAB
    have HAB := HABn
    clear HABn
    have HZBn := Lib.hid (HZB.out.below hb)
    clear HZB
    have HZB := HZBn
    clear HZBn
    have HBn := Lib.hid (bgo HB.out hb HB.out.size)
    clear HB
    have HB := HBn
    clear HBn
    have HLEn := Lib.hid (Nat.le_trans HLE.out (Below.size hb))
    clear HLE
    have HLE := HLEn
    clear HLEn
    clear hb
    have HSZz : Hid ((Try.prog.info? 26).map (·.size) = some (#[.slice aM nM cM, .slice aI nI cI, .slice aA nA cA] : Array Value).size) := by show _ = _; rw [rol_sz]; rfl
    have HONz : Hid ((#[.slice aM nM cM, .slice aI nI cI, .slice aA nA cA] : Array Value).all (·.oneCell') = true) := by show _ = true; simp [Value.oneCell']
    have HZBx : Hid (wt.heap[(w.heap.size + 2)]? = some (.cells #[.slice none 0 0, .slice none 0 0, .slice none 0 0] 26 (0, 0))) := HZB.out
    go_wp2_with (first
      | (refine wpList_store_row rfl 26 (.tmp 4) (.tmp 18) rfl (w.heap.size + 2) #[.slice aM nM cM, .slice aI nI cI, .slice aA nA cA] rfl rfl 26 #[.slice none 0 0, .slice none 0 0, .slice none 0 0] HZBx.out HSZz.out rfl HONz.out ?_)
      | fail)
    have hk := setRow_kept wt (w.heap.size + 2) #[.slice aM nM cM, .slice aI nI cI, .slice aA nA cA]
    refine bodyPost_ret (results_ht rfl (HT.row HZBx.out rfl) rfl rfl Try.underlying26 rfl rol_sz) rfl ?_
    rw [HDO.out]
    exact ⟨_, _, _, _, _, _, _, _, _, rfl, (HO.out.keptS hk (fun j h1 (e : j = (w.heap.size + 2)) => by omega)).base (by omega), HB.out.trans (setRow_below (by omega) _)⟩
  · have hr := HRK.out.symm
    have HDO : Hid (doR R c = listR R c.i) := by show _ = _; have e := HRD.out.symm; unfold doR; rw [if_neg (by omega)]; rw [if_pos e]
    have cn := List_any W0 va vb vc R c.i (HR.out.mono HB.out) HFEW.out
    obtain ⟨X, hX⟩ : ∃ z, z = listR R c.i := ⟨_, rfl⟩
    rw [← hX] at cn HDO
    clear hX
    have HSZr : Hid ((Try.prog.info? 26).map (·.size) = some (#[va, vb, vc] : Array Value).size) := by show _ = _; rw [rol_sz]; rfl
    have HRBx : Hid (W0.heap[w.heap.size]? = some (.cells #[va, vb, vc] 26 (0, 0))) := HRB.out
    have HMR : Hid (W0.rangeAt (w.heap.size + 1) 3 [.int .i64 c.i.no, .int .i64 c.i.cur, .int .i64 c.i.mult, .int .i64 c.i.add, .int .i64 c.i.set, .int .i64 c.i.price, .int .i64 c.i.h0, .int .i64 c.i.h1, .int .i64 c.i.h2, .int .i64 c.i.h3, .int .i64 c.i.h4, .int .i64 c.i.h5]) := Lib.hid (fun j v h => HAB.out.cell (by rcases j with _ | _ | _ | _ | _ | _ | _ | _ | _ | _ | _ | _ | j; all_goals first | exact h | (simp at h)))
    have HSZm : Hid ((Try.prog.info? 38).map (·.size) = some 12) := by show _ = _; exact ins_sz
    go_wp2_with (first
      | (refine wpList_load_row rfl 26 (.tmp 2) rfl w.heap.size rfl 26 #[va, vb, vc] (0, 0) _ HRBx.out Try.underlying26 rfl HSZr.out ?_)
      | (refine wpList_load_mid rfl 38 (.tmp 23) rfl (w.heap.size + 1) 3 rfl [.int .i64 c.i.no, .int .i64 c.i.cur, .int .i64 c.i.mult, .int .i64 c.i.add, .int .i64 c.i.set, .int .i64 c.i.price, .int .i64 c.i.h0, .int .i64 c.i.h1, .int .i64 c.i.h2, .int .i64 c.i.h3, .int .i64 c.i.h4, .int .i64 c.i.h5] _ HMR.out Try.underlying38 rfl HSZm.out ?_)
      | fail)
    refine cn.mono ?_
    clear cn HRBx hr HMR
    rintro e wt ⟨aM, nM, cM, aI, nI, cI, aA, nA, cA, rfl, ho, hb⟩
    have HO := Lib.hid (ho.base (base' := w.heap.size + 3) HLE.out)
    clear ho
    have HRBn := Lib.hid (HRB.out.below hb)
    clear HRB
    have HRB := HRBn
    clear HRBn
    have HABn := Lib.hid (HAB.out.below hb)
    clear HAB
    have HAB := HABn
    clear HABn
    have HZBn := Lib.hid (HZB.out.below hb)
    clear HZB
    have HZB := HZBn
    clear HZBn
    have HBn := Lib.hid (bgo HB.out hb HB.out.size)
    clear HB
    have HB := HBn
    clear HBn
    have HLEn := Lib.hid (Nat.le_trans HLE.out (Below.size hb))
    clear HLE
    have HLE := HLEn
    clear HLEn
    clear hb
    have HSZz : Hid ((Try.prog.info? 26).map (·.size) = some (#[.slice aM nM cM, .slice aI nI cI, .slice aA nA cA] : Array Value).size) := by show _ = _; rw [rol_sz]; rfl
    have HONz : Hid ((#[.slice aM nM cM, .slice aI nI cI, .slice aA nA cA] : Array Value).all (·.oneCell') = true) := by show _ = true; simp [Value.oneCell']
    have HZBx : Hid (wt.heap[(w.heap.size + 2)]? = some (.cells #[.slice none 0 0, .slice none 0 0, .slice none 0 0] 26 (0, 0))) := HZB.out
    go_wp2_with (first
      | (refine wpList_store_row rfl 26 (.tmp 4) (.tmp 26) rfl (w.heap.size + 2) #[.slice aM nM cM, .slice aI nI cI, .slice aA nA cA] rfl rfl 26 #[.slice none 0 0, .slice none 0 0, .slice none 0 0] HZBx.out HSZz.out rfl HONz.out ?_)
      | fail)
    have hk := setRow_kept wt (w.heap.size + 2) #[.slice aM nM cM, .slice aI nI cI, .slice aA nA cA]
    refine bodyPost_ret (results_ht rfl (HT.row HZBx.out rfl) rfl rfl Try.underlying26 rfl rol_sz) rfl ?_
    rw [HDO.out]
    exact ⟨_, _, _, _, _, _, _, _, _, rfl, (HO.out.keptS hk (fun j h1 (e : j = (w.heap.size + 2)) => by omega)).base (by omega), HB.out.trans (setRow_below (by omega) _)⟩
  · have hr := HRK.out.symm
    have HDO : Hid (doR R c = holdR R c.h) := by show _ = _; have e := HRD.out.symm; unfold doR; rw [if_neg (by omega)]; rw [if_neg (by omega)]; rw [if_pos e]
    have cn := Hold_any W0 va vb vc R c.h (HR.out.mono HB.out) HFEW.out
    obtain ⟨X, hX⟩ : ∃ z, z = holdR R c.h := ⟨_, rfl⟩
    rw [← hX] at cn HDO
    clear hX
    have HSZr : Hid ((Try.prog.info? 26).map (·.size) = some (#[va, vb, vc] : Array Value).size) := by show _ = _; rw [rol_sz]; rfl
    have HRBx : Hid (W0.heap[w.heap.size]? = some (.cells #[va, vb, vc] 26 (0, 0))) := HRB.out
    have HMR : Hid (W0.rangeAt (w.heap.size + 1) 15 [.int .i64 c.h.no, .int .i64 c.h.cur, .int .i64 c.h.price, .int .i64 c.h.cut]) := Lib.hid (fun j v h => HAB.out.cell (by rcases j with _ | _ | _ | _ | j; all_goals first | exact h | (simp at h)))
    have HSZm : Hid ((Try.prog.info? 42).map (·.size) = some 4) := by show _ = _; exact ass_sz
    go_wp2_with (first
      | (refine wpList_load_row rfl 26 (.tmp 2) rfl w.heap.size rfl 26 #[va, vb, vc] (0, 0) _ HRBx.out Try.underlying26 rfl HSZr.out ?_)
      | (refine wpList_load_mid rfl 42 (.tmp 31) rfl (w.heap.size + 1) 15 rfl [.int .i64 c.h.no, .int .i64 c.h.cur, .int .i64 c.h.price, .int .i64 c.h.cut] _ HMR.out Try.underlying42 rfl HSZm.out ?_)
      | fail)
    refine cn.mono ?_
    clear cn HRBx hr HMR
    rintro e wt ⟨aM, nM, cM, aI, nI, cI, aA, nA, cA, rfl, ho, hb⟩
    have HO := Lib.hid (ho.base (base' := w.heap.size + 3) HLE.out)
    clear ho
    have HRBn := Lib.hid (HRB.out.below hb)
    clear HRB
    have HRB := HRBn
    clear HRBn
    have HABn := Lib.hid (HAB.out.below hb)
    clear HAB
    have HAB := HABn
    clear HABn
    have HZBn := Lib.hid (HZB.out.below hb)
    clear HZB
    have HZB := HZBn
    clear HZBn
    have HBn := Lib.hid (bgo HB.out hb HB.out.size)
    clear HB
    have HB := HBn
    clear HBn
    have HLEn := Lib.hid (Nat.le_trans HLE.out (Below.size hb))
    clear HLE
    have HLE := HLEn
    clear HLEn
    clear hb
    have HSZz : Hid ((Try.prog.info? 26).map (·.size) = some (#[.slice aM nM cM, .slice aI nI cI, .slice aA nA cA] : Array Value).size) := by show _ = _; rw [rol_sz]; rfl
    have HONz : Hid ((#[.slice aM nM cM, .slice aI nI cI, .slice aA nA cA] : Array Value).all (·.oneCell') = true) := by show _ = true; simp [Value.oneCell']
    have HZBx : Hid (wt.heap[(w.heap.size + 2)]? = some (.cells #[.slice none 0 0, .slice none 0 0, .slice none 0 0] 26 (0, 0))) := HZB.out
    go_wp2_with (first
      | (refine wpList_store_row rfl 26 (.tmp 4) (.tmp 34) rfl (w.heap.size + 2) #[.slice aM nM cM, .slice aI nI cI, .slice aA nA cA] rfl rfl 26 #[.slice none 0 0, .slice none 0 0, .slice none 0 0] HZBx.out HSZz.out rfl HONz.out ?_)
      | fail)
    have hk := setRow_kept wt (w.heap.size + 2) #[.slice aM nM cM, .slice aI nI cI, .slice aA nA cA]
    refine bodyPost_ret (results_ht rfl (HT.row HZBx.out rfl) rfl rfl Try.underlying26 rfl rol_sz) rfl ?_
    rw [HDO.out]
    exact ⟨_, _, _, _, _, _, _, _, _, rfl, (HO.out.keptS hk (fun j h1 (e : j = (w.heap.size + 2)) => by omega)).base (by omega), HB.out.trans (setRow_below (by omega) _)⟩
  · have hr := HRK.out.symm
    have HDO : Hid (doR R c = tellR R c.av c.bv) := by show _ = _; have e := HRD.out.symm; unfold doR; rw [if_neg (by omega)]; rw [if_neg (by omega)]; rw [if_neg (by omega)]; rw [if_pos e]
    have cn := Tell_any W0 va vb vc R c.av c.bv (HR.out.mono HB.out) HFEW.out
    obtain ⟨X, hX⟩ : ∃ z, z = tellR R c.av c.bv := ⟨_, rfl⟩
    rw [← hX] at cn HDO
    clear hX
    have HSZr : Hid ((Try.prog.info? 26).map (·.size) = some (#[va, vb, vc] : Array Value).size) := by show _ = _; rw [rol_sz]; rfl
    have HRBx : Hid (W0.heap[w.heap.size]? = some (.cells #[va, vb, vc] 26 (0, 0))) := HRB.out
    have hc1 := HAB.out.cell (j := 1) rfl
    have hc2 := HAB.out.cell (j := 2) rfl
    go_wp2_with (first
      | (refine wpList_load_row rfl 26 (.tmp 2) rfl w.heap.size rfl 26 #[va, vb, vc] (0, 0) _ HRBx.out Try.underlying26 rfl HSZr.out ?_)
      | fail)
    refine cn.mono ?_
    clear cn HRBx hr hc1 hc2
    rintro e wt ⟨aM, nM, cM, aI, nI, cI, aA, nA, cA, rfl, ho, hb⟩
    have HO := Lib.hid (ho.base (base' := w.heap.size + 3) HLE.out)
    clear ho
    have HRBn := Lib.hid (HRB.out.below hb)
    clear HRB
    have HRB := HRBn
    clear HRBn
    have HABn := Lib.hid (HAB.out.below hb)
    clear HAB
    have HAB := HABn
    clear HABn
    have HZBn := Lib.hid (HZB.out.below hb)
    clear HZB
    have HZB := HZBn
    clear HZBn
    have HBn := Lib.hid (bgo HB.out hb HB.out.size)
    clear HB
    have HB := HBn
    clear HBn
    have HLEn := Lib.hid (Nat.le_trans HLE.out (Below.size hb))
    clear HLE
    have HLE := HLEn
    clear HLEn
    clear hb
    have HSZz : Hid ((Try.prog.info? 26).map (·.size) = some (#[.slice aM nM cM, .slice aI nI cI, .slice aA nA cA] : Array Value).size) := by show _ = _; rw [rol_sz]; rfl
    have HONz : Hid ((#[.slice aM nM cM, .slice aI nI cI, .slice aA nA cA] : Array Value).all (·.oneCell') = true) := by show _ = true; simp [Value.oneCell']
    have HZBx : Hid (wt.heap[(w.heap.size + 2)]? = some (.cells #[.slice none 0 0, .slice none 0 0, .slice none 0 0] 26 (0, 0))) := HZB.out
    go_wp2_with (first
      | (refine wpList_store_row rfl 26 (.tmp 4) (.tmp 44) rfl (w.heap.size + 2) #[.slice aM nM cM, .slice aI nI cI, .slice aA nA cA] rfl rfl 26 #[.slice none 0 0, .slice none 0 0, .slice none 0 0] HZBx.out HSZz.out rfl HONz.out ?_)
      | fail)
    have hk := setRow_kept wt (w.heap.size + 2) #[.slice aM nM cM, .slice aI nI cI, .slice aA nA cA]
    refine bodyPost_ret (results_ht rfl (HT.row HZBx.out rfl) rfl rfl Try.underlying26 rfl rol_sz) rfl ?_
    rw [HDO.out]
    exact ⟨_, _, _, _, _, _, _, _, _, rfl, (HO.out.keptS hk (fun j h1 (e : j = (w.heap.size + 2)) => by omega)).base (by omega), HB.out.trans (setRow_below (by omega) _)⟩
  · have hr := HRK.out.symm
    have HDO : Hid (doR R c = (0, turnR R)) := by show _ = _; have e := HRD.out.symm; unfold doR; rw [if_neg (by omega)]; rw [if_neg (by omega)]; rw [if_neg (by omega)]; rw [if_neg (by omega)]; rw [if_pos e]
    have cn := Turn_any W0 va vb vc R (HR.out.mono HB.out) HFEW.out
    have HSZr : Hid ((Try.prog.info? 26).map (·.size) = some (#[va, vb, vc] : Array Value).size) := by show _ = _; rw [rol_sz]; rfl
    have HRBx : Hid (W0.heap[w.heap.size]? = some (.cells #[va, vb, vc] 26 (0, 0))) := HRB.out
    go_wp2_with (first
      | (refine wpList_load_row rfl 26 (.tmp 2) rfl w.heap.size rfl 26 #[va, vb, vc] (0, 0) _ HRBx.out Try.underlying26 rfl HSZr.out ?_)
      | fail)
    refine cn.mono ?_
    clear cn HRBx hr
    rintro e wt ⟨aM, nM, cM, aI, nI, cI, aA, nA, cA, rfl, ho, hap, hb⟩
    clear hap
    have HO := Lib.hid (ho.base (base' := w.heap.size + 3) HLE.out)
    clear ho
    have HRBn := Lib.hid (HRB.out.below hb)
    clear HRB
    have HRB := HRBn
    clear HRBn
    have HABn := Lib.hid (HAB.out.below hb)
    clear HAB
    have HAB := HABn
    clear HABn
    have HZBn := Lib.hid (HZB.out.below hb)
    clear HZB
    have HZB := HZBn
    clear HZBn
    have HBn := Lib.hid (bgo HB.out hb HB.out.size)
    clear HB
    have HB := HBn
    clear HBn
    have HLEn := Lib.hid (Nat.le_trans HLE.out (Below.size hb))
    clear HLE
    have HLE := HLEn
    clear HLEn
    clear hb
    have HSZz : Hid ((Try.prog.info? 26).map (·.size) = some (#[.slice aM nM cM, .slice aI nI cI, .slice aA nA cA] : Array Value).size) := by show _ = _; rw [rol_sz]; rfl
    have HONz : Hid ((#[.slice aM nM cM, .slice aI nI cI, .slice aA nA cA] : Array Value).all (·.oneCell') = true) := by show _ = true; simp [Value.oneCell']
    have HZBx : Hid (wt.heap[(w.heap.size + 2)]? = some (.cells #[.slice none 0 0, .slice none 0 0, .slice none 0 0] 26 (0, 0))) := HZB.out
    go_wp2_with (first
      | (refine wpList_store_row rfl 26 (.tmp 4) (.tmp 49) rfl (w.heap.size + 2) #[.slice aM nM cM, .slice aI nI cI, .slice aA nA cA] rfl rfl 26 #[.slice none 0 0, .slice none 0 0, .slice none 0 0] HZBx.out HSZz.out rfl HONz.out ?_)
      | fail)
    have hk := setRow_kept wt (w.heap.size + 2) #[.slice aM nM cM, .slice aI nI cI, .slice aA nA cA]
    refine bodyPost_ret (results_ht rfl (HT.row HZBx.out rfl) rfl rfl Try.underlying26 rfl rol_sz) rfl ?_
    rw [HDO.out]
    exact ⟨_, _, _, _, _, _, _, _, _, rfl, (HO.out.keptS hk (fun j h1 (e : j = (w.heap.size + 2)) => by omega)).base (by omega), HB.out.trans (setRow_below (by omega) _)⟩
  · have hr := HRK.out.symm
    have HDO : Hid (doR R c = stateR R c.av c.bv) := by show _ = _; have e := HRD.out.symm; unfold doR; rw [if_neg (by omega)]; rw [if_neg (by omega)]; rw [if_neg (by omega)]; rw [if_neg (by omega)]; rw [if_neg (by omega)]
    have cn := Put_any W0 va vb vc R c.av c.bv (HR.out.mono HB.out) HFEW.out
    obtain ⟨X, hX⟩ : ∃ z, z = stateR R c.av c.bv := ⟨_, rfl⟩
    rw [← hX] at cn HDO
    clear hX
    have HSZr : Hid ((Try.prog.info? 26).map (·.size) = some (#[va, vb, vc] : Array Value).size) := by show _ = _; rw [rol_sz]; rfl
    have HRBx : Hid (W0.heap[w.heap.size]? = some (.cells #[va, vb, vc] 26 (0, 0))) := HRB.out
    have hc1 := HAB.out.cell (j := 1) rfl
    have hc2 := HAB.out.cell (j := 2) rfl
    go_wp2_with (first
      | (refine wpList_load_row rfl 26 (.tmp 2) rfl w.heap.size rfl 26 #[va, vb, vc] (0, 0) _ HRBx.out Try.underlying26 rfl HSZr.out ?_)
      | fail)
    refine cn.mono ?_
    clear cn HRBx hr hc1 hc2
    rintro e wt ⟨aM, nM, cM, aI, nI, cI, aA, nA, cA, rfl, ho, hb⟩
    have HO := Lib.hid (ho.base (base' := w.heap.size + 3) HLE.out)
    clear ho
    have HRBn := Lib.hid (HRB.out.below hb)
    clear HRB
    have HRB := HRBn
    clear HRBn
    have HABn := Lib.hid (HAB.out.below hb)
    clear HAB
    have HAB := HABn
    clear HABn
    have HZBn := Lib.hid (HZB.out.below hb)
    clear HZB
    have HZB := HZBn
    clear HZBn
    have HBn := Lib.hid (bgo HB.out hb HB.out.size)
    clear HB
    have HB := HBn
    clear HBn
    have HLEn := Lib.hid (Nat.le_trans HLE.out (Below.size hb))
    clear HLE
    have HLE := HLEn
    clear HLEn
    clear hb
    have HSZz : Hid ((Try.prog.info? 26).map (·.size) = some (#[.slice aM nM cM, .slice aI nI cI, .slice aA nA cA] : Array Value).size) := by show _ = _; rw [rol_sz]; rfl
    have HONz : Hid ((#[.slice aM nM cM, .slice aI nI cI, .slice aA nA cA] : Array Value).all (·.oneCell') = true) := by show _ = true; simp [Value.oneCell']
    have HZBx : Hid (wt.heap[(w.heap.size + 2)]? = some (.cells #[.slice none 0 0, .slice none 0 0, .slice none 0 0] 26 (0, 0))) := HZB.out
    go_wp2_with (first
      | (refine wpList_store_row rfl 26 (.tmp 4) (.tmp 56) rfl (w.heap.size + 2) #[.slice aM nM cM, .slice aI nI cI, .slice aA nA cA] rfl rfl 26 #[.slice none 0 0, .slice none 0 0, .slice none 0 0] HZBx.out HSZz.out rfl HONz.out ?_)
      | fail)
    have hk := setRow_kept wt (w.heap.size + 2) #[.slice aM nM cM, .slice aI nI cI, .slice aA nA cA]
    refine bodyPost_ret (results_ht rfl (HT.row HZBx.out rfl) rfl rfl Try.underlying26 rfl rol_sz) rfl ?_
    rw [HDO.out]
    exact ⟨_, _, _, _, _, _, _, _, _, rfl, (HO.out.keptS hk (fun j h1 (e : j = (w.heap.size + 2)) => by omega)).base (by omega), HB.out.trans (setRow_below (by omega) _)⟩
end Cam
