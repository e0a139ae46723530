import Derived.Test.YtdenijpdkfnjeaaDkKa
import Derived.Test.YtdenijpdkfnjeaaDkB
/- cambistlaw06.wakes. -/
namespace Cam
open Go Go.RowKit Go.Proofs
def fill64 (c : UInt8) : List UInt8 := List.replicate 64 c
theorem fill64_length (c : UInt8) : (fill64 c).length = 64 := by simp [fill64]
theorem Block_fill (w : World) (c : UInt8) : Calls Try.prog 11 #[.int .u8 (c.toNat : Int)] w fun e w' => e = .returned (.agg (bvs (fill64 c)).toArray) ∧ Below w.heap.size w w' := Block_any w c

def wk1 : DK := dSynced (dPut (DK.new 2) 0 (fill64 1))
def wk2 : DK := dStart (dCrash (dPut wk1 0 (fill64 2)) [3])
theorem wk2_now : wk2.now[0]? = some (mixB 2 (fill64 1) (fill64 2)) := by rfl

set_option maxRecDepth 100000 in
set_option maxHeartbeats 3200000 in
theorem wakes_any (w : World) : Calls Try.prog 16 #[] w fun e w' => e = .returned (.bool true) ∧ Below w.heap.size w w' := by
  have bl1 := fun w => Block_fill w 1
  have bl2 := fun w => Block_fill w 2
  obtain ⟨b, hb⟩ : ∃ b, b = mixB 2 (fill64 1) (fill64 2) := ⟨_, rfl⟩
  have hbl : b.length = 64 := by rw [hb]; rfl
  have hb0 : (bvs b)[0]? = some (.int .u8 2) := by rw [hb]; rfl
  have hb1 : (bvs b)[1]? = some (.int .u8 2) := by rw [hb]; rfl
  have hb2 : (bvs b)[2]? = some (.int .u8 1) := by rw [hb]; rfl
  have hnow : wk2.now[0]? = some b := by rw [hb]; exact wk2_now
  have Hnow := Lib.hid hnow
  have Hbl := Lib.hid hbl
  have Hb0 := Lib.hid hb0
  have Hb1 := Lib.hid hb1
  have Hb2 := Lib.hid hb2
  clear hb hbl hb0 hb1 hb2 hnow
  go_enter Try.func16, Try.ntmps16
  go_wp2_with fail
  refine (New_ok w 2 (by omega) (by omega)).mono ?_
  rintro e w1 ⟨g, gs, gn, rfl, hd1, f1, f2, f3, hb1⟩
  have hfar : Far w.heap.size g gs gn (.slice none 0 0) := ⟨f3, f1, f2, fun k hk => by cases hk⟩
  have hs1 := hb1.size
  clear f1 f2 f3
  go_wp2_with fail
  refine (bl1 _).mono ?_
  rintro e w2 ⟨rfl, hb2⟩
  have hd2 := hd1.below hb2
  have hbb2 := hb1.next hb2
  clear hd1 hb1 hb2
  go_wp2_with fail
  refine (Write_on w2 g gs gn _ 2 _ hd2 0 (fill64 1) rfl rfl (by omega) (fill64_length 1) (by decide)).mono ?_
  rintro e w3 ⟨rfl, vo3, hd3, hk3, ho3⟩
  have hbb3 := hbb2.trans (hfar.below hk3 hbb2.size)
  have hfar3 := hfar.next ho3 hbb2.size
  clear hd2 hbb2 hk3 ho3 hfar
  go_wp2_with fail
  refine (Sync_on w3 g gs gn _ 2 _ hd3 rfl rfl).mono ?_
  rintro e w4 ⟨rfl, vo4, hd4, hk4, ho4⟩
  have hbb4 := hbb3.trans (hfar3.below hk4 hbb3.size)
  have hfar4 := hfar3.next ho4 hbb3.size
  clear hd3 hbb3 hk4 ho4 hfar3
  go_wp2_with fail
  refine (bl2 _).mono ?_
  rintro e w5 ⟨rfl, hb5⟩
  have hd5 := hd4.below hb5
  have hbb5 := hbb4.next hb5
  clear hd4 hbb4 hb5
  go_wp2_with fail
  refine (Write_on w5 g gs gn _ 2 _ hd5 0 (fill64 2) rfl rfl (by omega) (fill64_length 2) (by decide)).mono ?_
  rintro e w6 ⟨rfl, vo6, hd6, hk6, ho6⟩
  have hbb6 := hbb5.trans (hfar4.below hk6 hbb5.size)
  have hfar6 := hfar4.next ho6 hbb5.size
  clear hd5 hbb5 hk6 ho6 hfar4
  have hd6A := hd6.alloc (.cells #[.int .i64 3] 3)
  have hbb6A := hbb6.alloc hbb6.size (.cells #[.int .i64 3] 3)
  have hlit : ∀ w', Kept (DS g gs gn vo6) (w6.alloc (.cells #[.int .i64 3] 3)) w' → Is w' (.slice (some ⟨w6.heap.size, 0, none⟩) 1 1) [3] := fun w' hk =>
    (Is.lit1 w6 3 3).kept1 hk (fun _ k hi hs => by
      obtain ⟨ad, n, c, hv, rfl⟩ := hi
      simp only [Value.slice.injEq, Option.some.injEq] at hv
      obtain ⟨rfl, _, _⟩ := hv
      have h1 := hd6.hd.lt
      obtain ⟨l1, l2, l3⟩ := hd6.lt
      rcases hs with e | e | e | e
      · simp at e; omega
      · simp at e; omega
      · simp at e; omega
      · have := (hd6.row _ e).2
        simp at this)
  have hcr := Crash_any _ g gs gn vo6 2 _ hd6A (.slice (some ⟨w6.heap.size, 0, none⟩) 1 1) [3] hlit
  clear hd6 hd6A hbb6 hlit
  go_wp2_with fail
  refine hcr.mono ?_
  rintro e w7 ⟨rfl, vo7, hd7, hk7, ho7⟩
  have hbb7 := hbb6A.trans (hfar6.below hk7 hbb6A.size)
  have hfar7 := hfar6.next ho7 hbb6A.size
  clear hcr hk7 ho7 hfar6 hbb6A
  go_wp2_with fail
  refine (Start_any w7 g gs gn _ 2 _ hd7).mono ?_
  rintro e w8 ⟨rfl, vo8, hd8, hk8, ho8⟩
  have hbb8 := hbb7.trans (hfar7.below hk8 hbb7.size)
  clear hd7 hbb7 hk8 ho8 hfar7
  go_wp2_with fail
  refine (Read_on w8 g gs gn _ 2 wk2 hd8 rfl 0 (by omega) b Hnow.out).mono ?_
  rintro e w9 ⟨rfl, hb9⟩
  have hbb9 := hbb8.next hb9
  clear hd8 hbb8 hb9
  have hbox := (HC.new (w := w9) (C := bvs zero64) (t := 29))
  have Hroom := Lib.hid (hbox.room (m := b) zero64_length Hbl.out)
  have hbx := hbox.puts (vs := bvs b) (o := 0) (by rw [bvs_length, bvs_length, Hbl.out, zero64_length]; omega)
  rw [splice_all _ _ (by rw [Hbl.out, zero64_length])] at hbx
  have hx0 := hbx.cell Hb0.out
  have hx1 := hbx.cell Hb1.out
  have hx2 := hbx.cell Hb2.out
  have Hsz := Lib.hid (size64_of Hbl.out)
  have HBB := Lib.hid ((hbb9.alloc hbb9.size (.cells (bvs zero64).toArray 29)).trans ((setCells_kept w9.heap.size (bvs b) 0 _).below (fun j hj e => by have := hbb9.size; omega) (by have := hbb9.size; simp; omega)))
  clear hbox hbx hbb9
  go_wp2_with (first
    | (refine wpList_store_mid rfl 29 (.tmp 3) (.tmp 30) rfl w9.heap.size 0 (bvs b).toArray rfl rfl Hroom.out (by simpa using Hsz.out) (all_oneCell_toArray (bs_oneCell _)) ?_; change wpList _ _ _ _ _ ((w9.alloc (.cells (bvs zero64).toArray 29)).setCells w9.heap.size 0 (bvs b)))
    | fail)
  go_ret
  exact ⟨rfl, HBB.out⟩

end Cam
