import Derived.Test.YtdenijpdkfnjeaaPdS
/- the page's disk: Read. -/
namespace Cam
open Go Go.RowKit Go.Proofs

set_option maxHeartbeats 3200000 in
set_option maxRecDepth 100000 in
theorem pread_any (w : World) (g gs : Nat) (vo : Value) (n : Nat) (D : DK) (h : PMem w g gs vo n D) (hfull : D.now = sets D.syn D.op) (at_ : Int) :
    Calls Try.prog 25 #[.pointer (some ⟨g, 0, none⟩), .int .i64 at_] w fun e w' => (∃ b : List UInt8, e = .returned (.tuple #[.agg (bvs b).toArray, .int .i64 (dRight n D at_)]) ∧ (dRight n D at_ = 0 → D.now[at_.toNat]? = some b) ∧ (dRight n D at_ ≠ 0 → b = zero64)) ∧ Below w.heap.size w w' := by
  have hz : HC (w.alloc (.cells (bvs zero64).toArray 29)) w.heap.size (bvs zero64) := HC.new
  have hbA : Below w.heap.size w (w.alloc (.cells (bvs zero64).toArray 29)) := (Below.refl _ _).alloc (Nat.le_refl _) _
  have hA := h.below hbA
  have hc3 : (w.alloc (.cells #[.int .u8 0, .int .u8 0, .int .u8 0, .int .u8 0, .int .u8 0, .int .u8 0, .int .u8 0, .int .u8 0, .int .u8 0, .int .u8 0, .int .u8 0, .int .u8 0, .int .u8 0, .int .u8 0, .int .u8 0, .int .u8 0, .int .u8 0, .int .u8 0, .int .u8 0, .int .u8 0, .int .u8 0, .int .u8 0, .int .u8 0, .int .u8 0, .int .u8 0, .int .u8 0, .int .u8 0, .int .u8 0, .int .u8 0, .int .u8 0, .int .u8 0, .int .u8 0, .int .u8 0, .int .u8 0, .int .u8 0, .int .u8 0, .int .u8 0, .int .u8 0, .int .u8 0, .int .u8 0, .int .u8 0, .int .u8 0, .int .u8 0, .int .u8 0, .int .u8 0, .int .u8 0, .int .u8 0, .int .u8 0, .int .u8 0, .int .u8 0, .int .u8 0, .int .u8 0, .int .u8 0, .int .u8 0, .int .u8 0, .int .u8 0, .int .u8 0, .int .u8 0, .int .u8 0, .int .u8 0, .int .u8 0, .int .u8 0, .int .u8 0, .int .u8 0] 29)).cell? ⟨g, 3, none⟩ = some (.bool D.off) := hA.cells.2.2.2.1
  obtain ⟨o, ho⟩ : ∃ z, z = D.off := ⟨_, rfl⟩
  rw [← ho] at hc3
  cases o with
  | true =>
    have hr : dRight n D at_ = 7 := by unfold dRight; rw [if_pos ho.symm]
    clear ho hbA
    have Hroom := Lib.hid (hz.room (m := zero64) zero64_length zero64_length)
    have hfin := hz.puts (vs := bvs zero64) (o := 0) (by rw [bvs_length, zero64_length]; omega)
    rw [splice_all _ _ rfl] at hfin
    have Hfin := Lib.hid hfin
    have Hsz := Lib.hid (size64_of zero64_length)
    have HR := Lib.hid hr
    clear hz hfin h hA hr
    go_enter Try.func25, Try.ntmps25
    go_wp2_with (first
      | (refine wpList_store_mid rfl 29 (.tmp 4) (.tmp 10) rfl w.heap.size 0 (bvs zero64).toArray rfl rfl Hroom.out (by simpa using Hsz.out) (all_oneCell_toArray (bs_oneCell _)) ?_)
      | fail)
    refine bodyPost_ret (results_row2 rfl Hfin.out rfl rfl Try.underlying29 rfl Hsz.out) rfl ⟨⟨zero64, (by rw [HR.out]; rfl), (fun e => absurd e (by rw [HR.out]; decide)), (fun _ => rfl)⟩, ?_⟩
    exact ((Below.refl _ _).alloc (Nat.le_refl _) _).trans ((setCells_kept _ _ _ _).below (fun j hj e => by omega) (by simp))
  | false =>
    have hbl := pblock_any (w.alloc (.cells (bvs zero64).toArray 29)) g gs vo n D hA at_
    by_cases hin : 0 ≤ at_ ∧ at_ < (n : Int)
    · rw [decide_eq_true hin] at hbl
      have hr : dRight n D at_ = 0 := by unfold dRight; rw [if_neg (by rw [← ho]; decide), if_neg (by omega)]
      obtain ⟨k, rfl⟩ : ∃ k : Nat, at_ = (k : Int) := ⟨at_.toNat, by omega⟩
      have hse := psee_any (w.alloc (.cells (bvs zero64).toArray 29)) g gs vo n D hA k (by omega)
      have HR := Lib.hid hr
      have HZ := Lib.hid hz
      have HFU := Lib.hid hfull
      have HBA := Lib.hid hbA
      clear hz h hA hr hfull ho hin hbA
      go_enter Try.func25, Try.ntmps25
      go_wp2_with fail
      refine hbl.mono ?_
      clear hbl
      rintro e w1 ⟨rfl, rfl⟩
      clear hc3
      go_wp2_with fail
      refine hse.mono ?_
      clear hse
      rintro e w2 ⟨⟨b, rfl, hb64, hbk⟩, hb2⟩
      have hz2 := HZ.out.below hb2
      have Hroom := Lib.hid (hz2.room (m := b) zero64_length hb64)
      have hfin := hz2.puts (vs := bvs b) (o := 0) (by rw [bvs_length, bvs_length, hb64, zero64_length]; omega)
      rw [splice_all _ _ (by rw [hb64, zero64_length])] at hfin
      have Hfin := Lib.hid hfin
      have Hsz := Lib.hid (size64_of hb64)
      have HBK := Lib.hid hbk
      have HB2 := Lib.hid (HBA.out.trans (hb2.mono HBA.out.size))
      clear hz2 hfin hb64 hbk hb2
      go_wp2_with (first
        | (refine wpList_store_mid rfl 29 (.tmp 4) (.tmp 18) rfl w.heap.size 0 (bvs b).toArray rfl rfl Hroom.out (by simpa using Hsz.out) (all_oneCell_toArray (bs_oneCell _)) ?_)
        | fail)
      refine bodyPost_ret (results_row2 rfl Hfin.out rfl rfl Try.underlying29 rfl Hsz.out) rfl ⟨⟨b, (by rw [HR.out]; rfl), (fun _ => by rw [Int.toNat_natCast, HFU.out]; exact HBK.out), (fun e => absurd HR.out e)⟩, ?_⟩
      exact HB2.out.trans ((setCells_kept _ _ _ _).below (fun j hj e => by omega) HB2.out.size)
    · rw [decide_eq_false hin] at hbl
      have hr : dRight n D at_ = 3 := by unfold dRight; rw [if_neg (by rw [← ho]; decide), if_pos (by omega)]
      clear hin ho hbA
      have Hroom := Lib.hid (hz.room (m := zero64) zero64_length zero64_length)
      have hfin := hz.puts (vs := bvs zero64) (o := 0) (by rw [bvs_length, zero64_length]; omega)
      rw [splice_all _ _ rfl] at hfin
      have Hfin := Lib.hid hfin
      have Hsz := Lib.hid (size64_of zero64_length)
      have HR := Lib.hid hr
      clear hz hfin h hA hr
      go_enter Try.func25, Try.ntmps25
      go_wp2_with fail
      refine hbl.mono ?_
      clear hbl
      rintro e w1 ⟨rfl, rfl⟩
      go_wp2_with (first
        | (refine wpList_store_mid rfl 29 (.tmp 4) (.tmp 15) rfl w.heap.size 0 (bvs zero64).toArray rfl rfl Hroom.out (by simpa using Hsz.out) (all_oneCell_toArray (bs_oneCell _)) ?_)
        | fail)
      refine bodyPost_ret (results_row2 rfl Hfin.out rfl rfl Try.underlying29 rfl Hsz.out) rfl ⟨⟨zero64, (by rw [HR.out]; rfl), (fun e => absurd e (by rw [HR.out]; decide)), (fun _ => rfl)⟩, ?_⟩
      exact ((Below.refl _ _).alloc (Nat.le_refl _) _).trans ((setCells_kept _ _ _ _).below (fun j hj e => by omega) (by simp))
end Cam
