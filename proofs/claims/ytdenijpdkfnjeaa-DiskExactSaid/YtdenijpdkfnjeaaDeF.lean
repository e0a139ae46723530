import Derived.Test.YtdenijpdkfnjeaaDeB
/- DiskExact: fill. -/
namespace Cam
open Go Go.RowKit Go.Proofs

theorem bvs_set1 (l : List UInt8) (j : Nat) (c : UInt8) : (bvs l).set j (.int .u8 (c.toNat : Int)) = bvs (l.set j c) := by
  unfold bvs
  rw [List.map_set]
set_option maxHeartbeats 3200000 in
set_option maxRecDepth 100000 in
theorem fill_any (w : World) (do_ at_ : Int) (b : UInt8) (pv : Value) (i : Nat) (hi : i < 300) :
    Calls Try.prog 32 #[.agg #[.int .i64 do_, .int .i64 at_, .int .u8 (b.toNat : Int), pv], .int .i64 (i : Int)] w fun e w' => e = .returned (.agg (bvs (fillB b i)).toArray) ∧ Below w.heap.size w w' := by
  obtain ⟨c1, hc1⟩ : ∃ c, c = UInt8.ofNat (i % 256) := ⟨_, rfl⟩
  obtain ⟨c2, hc2⟩ : ∃ c, c = UInt8.ofNat (i / 7) := ⟨_, rfl⟩
  have e1 : (i : Int) % 256 = (c1.toNat : Int) := by rw [hc1, UInt8.toNat_ofNat']; omega
  have e2 : (i : Int).tdiv 7 = ((i / 7 : Nat) : Int) := by rw [Int.tdiv_eq_ediv_of_nonneg (by omega)]; rfl
  obtain ⟨q, hq⟩ : ∃ z, z = i / 7 := ⟨_, rfl⟩
  rw [← hq] at e2 hc2
  have e3 : (q : Int) % 256 = (c2.toNat : Int) := by rw [hc2, UInt8.toNat_ofNat']; omega
  have hF : fillB b i = ((fill64 b).set 0 c1).set 63 c2 := by
    unfold fillB
    rw [← hq, ← hc2]
    have : UInt8.ofNat i = c1 := by
      rw [hc1]
      apply UInt8.toNat_inj.1
      rw [UInt8.toNat_ofNat', UInt8.toNat_ofNat']
      omega
    rw [this]
  have hi0 : (0 : Int) ≤ i ∧ (i : Int) < 300 := by omega
  have hq0 : (0 : Int) ≤ q ∧ (q : Int) < 300 := by omega
  have hbA : Below w.heap.size w (w.alloc (.cells #[.int .i64 do_, .int .i64 at_, .int .u8 (b.toNat : Int), pv] 52)) := (Below.refl _ _).alloc (Nat.le_refl _) _
  have hbZ : Below w.heap.size w ((w.alloc (.cells #[.int .i64 do_, .int .i64 at_, .int .u8 (b.toNat : Int), pv] 52)).alloc (.cells (bvs zero64).toArray 29)) := hbA.alloc hbA.size _
  have hcell : ((w.alloc (.cells #[.int .i64 do_, .int .i64 at_, .int .u8 (b.toNat : Int), pv] 52)).alloc (.cells #[.int .u8 0, .int .u8 0, .int .u8 0, .int .u8 0, .int .u8 0, .int .u8 0, .int .u8 0, .int .u8 0, .int .u8 0, .int .u8 0, .int .u8 0, .int .u8 0, .int .u8 0, .int .u8 0, .int .u8 0, .int .u8 0, .int .u8 0, .int .u8 0, .int .u8 0, .int .u8 0, .int .u8 0, .int .u8 0, .int .u8 0, .int .u8 0, .int .u8 0, .int .u8 0, .int .u8 0, .int .u8 0, .int .u8 0, .int .u8 0, .int .u8 0, .int .u8 0, .int .u8 0, .int .u8 0, .int .u8 0, .int .u8 0, .int .u8 0, .int .u8 0, .int .u8 0, .int .u8 0, .int .u8 0, .int .u8 0, .int .u8 0, .int .u8 0, .int .u8 0, .int .u8 0, .int .u8 0, .int .u8 0, .int .u8 0, .int .u8 0, .int .u8 0, .int .u8 0, .int .u8 0, .int .u8 0, .int .u8 0, .int .u8 0, .int .u8 0, .int .u8 0, .int .u8 0, .int .u8 0, .int .u8 0, .int .u8 0, .int .u8 0, .int .u8 0] 29)).cell? ⟨w.heap.size, 2, none⟩ = some (.int .u8 (b.toNat : Int)) := by
    have h1 : HT (w.alloc (.cells #[.int .i64 do_, .int .i64 at_, .int .u8 (b.toNat : Int), pv] 52)) w.heap.size 52 [.int .i64 do_, .int .i64 at_, .int .u8 (b.toNat : Int), pv] := HT.new
    exact (h1.below ((Below.refl _ _).alloc (Nat.le_refl _) (.cells (bvs zero64).toArray 29))).cell (j := 2) rfl
  have hz : HC ((w.alloc (.cells #[.int .i64 do_, .int .i64 at_, .int .u8 (b.toNat : Int), pv] 52)).alloc (.cells (bvs zero64).toArray 29)) (w.heap.size + 1) (bvs zero64) := by
    have h1 : HC ((w.alloc (.cells #[.int .i64 do_, .int .i64 at_, .int .u8 (b.toNat : Int), pv] 52)).alloc (.cells (bvs zero64).toArray 29)) (w.alloc (.cells #[.int .i64 do_, .int .i64 at_, .int .u8 (b.toNat : Int), pv] 52)).heap.size (bvs zero64) := HC.new
    rw [show (w.alloc (.cells #[.int .i64 do_, .int .i64 at_, .int .u8 (b.toNat : Int), pv] 52)).heap.size = w.heap.size + 1 by simp] at h1
    exact h1
  have hbl := Block_fill ((w.alloc (.cells #[.int .i64 do_, .int .i64 at_, .int .u8 (b.toNat : Int), pv] 52)).alloc (.cells (bvs zero64).toArray 29)) b
  obtain ⟨fb, hfb⟩ : ∃ z, z = fill64 b := ⟨_, rfl⟩
  have h64 : fb.length = 64 := by rw [hfb]; exact fill64_length b
  have hf0 : fb[0]? = some b := by rw [hfb]; rfl
  have hf63 : fb[63]? = some b := by rw [hfb]; rfl
  rw [← hfb] at hbl hF
  have HF := Lib.hid hF
  have H64 := Lib.hid h64
  have HF0 := Lib.hid hf0
  have HF63 := Lib.hid hf63
  have HBZ := Lib.hid hbZ
  have HZ := Lib.hid hz
  clear hc1 hc2 hq hF hbA hbZ hz hfb h64 hf0 hf63
  go_enter Try.func32, Try.ntmps32
  go_wp2_with fail
  refine hbl.mono ?_
  clear hbl hcell
  rintro e w3 ⟨rfl, hb3⟩
  have h64 := H64.out
  obtain ⟨x1, x2, x3⟩ := box_world1 w3 fb h64
  have HB3 := Lib.hid (HBZ.out.trans (hb3.mono HBZ.out.size))
  have HBX := Lib.hid (HB3.out.trans (x1.mono HB3.out.size))
  have HZX := Lib.hid ((HZ.out.below hb3).below x1)
  have HX2 := Lib.hid x2
  have HX3 := Lib.hid x3
  have Hsz := Lib.hid (size64_of h64)
  obtain ⟨gr, hgr⟩ : ∃ z, z = w.heap.size + 1 := ⟨_, rfl⟩
  have HGR : Hid (gr ≠ w3.heap.size ∧ w.heap.size ≤ gr ∧ gr < w3.heap.size) := by
    have h8 := HZ.out.lt
    have h9 := hb3.size
    exact ⟨by omega, by omega, by omega⟩
  have hcx0 : ((w3.alloc (.cells (bvs zero64).toArray 29)).setCells w3.heap.size 0 (bvs fb)).cell? ⟨w3.heap.size, 0, none⟩ = some (.int .u8 (b.toNat : Int)) := x2.cell (by unfold bvs; rw [List.getElem?_map, HF0.out]; rfl)
  have hcx63 : ((w3.alloc (.cells (bvs zero64).toArray 29)).setCells w3.heap.size 0 (bvs fb)).cell? ⟨w3.heap.size, 63, none⟩ = some (.int .u8 (b.toNat : Int)) := x2.cell (by unfold bvs; rw [List.getElem?_map, HF63.out]; rfl)
  have hfx : ∀ j, ((w3.alloc (.cells (bvs zero64).toArray 29)).setCells w3.heap.size 0 (bvs fb)).frozen? ⟨w3.heap.size, j, none⟩ = false := fun j => x2.frozen j
  obtain ⟨W, hW⟩ : ∃ z, z = ((w3.alloc (.cells (bvs zero64).toArray 29)).setCells w3.heap.size 0 (bvs fb)) := ⟨_, rfl⟩
  rw [← hW] at hcx0 hcx63 hfx HX2 HZX HBX
  have HWX := Lib.hid hW
  obtain ⟨fb2, hfb2⟩ : ∃ z, z = (fb.set 0 c1).set 63 c2 := ⟨_, rfl⟩
  have h642 : fb2.length = 64 := by rw [hfb2, List.length_set, List.length_set]; exact H64.out
  have hW2 : HC ((W.setCell ⟨w3.heap.size, 0, none⟩ (.int .u8 (c1.toNat : Int))).setCell ⟨w3.heap.size, 63, none⟩ (.int .u8 (c2.toNat : Int))) w3.heap.size (bvs fb2) := by
    have h8 := (HX2.out.put 0 (.int .u8 (c1.toNat : Int))).put 63 (.int .u8 (c2.toNat : Int))
    rw [bvs_set1, bvs_set1, ← hfb2] at h8
    exact h8
  have hk2 : Kept (fun z => z = w3.heap.size) W ((W.setCell ⟨w3.heap.size, 0, none⟩ (.int .u8 (c1.toNat : Int))).setCell ⟨w3.heap.size, 63, none⟩ (.int .u8 (c2.toNat : Int))) := ((Kept.refl (fun z => z = w3.heap.size) W).setCell _ _ rfl).trans ((Kept.refl (fun z => z = w3.heap.size) _).setCell _ _ rfl) (fun _ _ e => e)
  have hz2 := HZX.out.kept hk2 (by have := HGR.out.1; omega)
  have hfin := hz2.puts (vs := bvs fb2) (o := 0) (by rw [bvs_length, bvs_length, h642, zero64_length]; omega)
  rw [splice_all _ _ (by rw [h642, zero64_length])] at hfin
  have Hfin := Lib.hid hfin
  have HL := Lib.hid hW2.bytes
  have Hsz2 := Lib.hid (size64_of h642)
  have hrm := hz2.room (m := fb2) zero64_length h642
  have HRM := Lib.hid hrm
  have HBF : Hid (Below w.heap.size w (((W.setCell ⟨w3.heap.size, 0, none⟩ (.int .u8 (c1.toNat : Int))).setCell ⟨w3.heap.size, 63, none⟩ (.int .u8 (c2.toNat : Int))).setCells (w.heap.size + 1) 0 (bvs fb2))) := by
    have h1 : Below w.heap.size w ((W.setCell ⟨w3.heap.size, 0, none⟩ (.int .u8 (c1.toNat : Int))).setCell ⟨w3.heap.size, 63, none⟩ (.int .u8 (c2.toNat : Int))) := HBX.out.trans (hk2.below (fun z hz e => by have := HB3.out.size; omega) HBX.out.size)
    exact h1.trans ((setCells_kept _ _ _ _).below (fun z hz e => by omega) h1.size)
  have HF2 : Hid (fillB b i = fb2) := HF.out.trans hfb2.symm
  have HGE := Lib.hid hgr
  have H642 := Lib.hid h642
  clear x1 x2 x3 hb3 h64 hW hfb2 h642 hW2 hk2 hz2 hfin hrm hgr
  go_wp2_with (first
    | (refine wpList_store_mid rfl 29 (.tmp 5) (.tmp 8) rfl w3.heap.size 0 (bvs fb).toArray rfl rfl HX3.out (by simpa using Hsz.out) (all_oneCell_toArray (bs_oneCell _)) ?_; change wpList _ _ _ _ _ ((w3.alloc (.cells (bvs zero64).toArray 29)).setCells w3.heap.size 0 (bvs fb)); rw [← HWX.out])
    | (refine wpList_load_mid rfl 29 (.tmp 5) rfl w3.heap.size 0 rfl (bvs fb2) _ HL.out Try.underlying29 rfl Hsz2.out ?_)
    | (refine wpList_store_mid rfl 29 (.tmp 4) (.tmp 16) rfl (w.heap.size + 1) 0 (bvs fb2).toArray rfl rfl HRM.out (by simpa using Hsz2.out) (all_oneCell_toArray (bs_oneCell _)) ?_)
    | fail)
  rw [HF2.out]
  exact bodyPost_ret (ret_row rfl Hfin.out H642.out rfl) rfl ⟨rfl, HBF.out⟩
end Cam
