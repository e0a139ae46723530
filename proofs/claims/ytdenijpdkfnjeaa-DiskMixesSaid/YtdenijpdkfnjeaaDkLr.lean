import Derived.Test.YtdenijpdkfnjeaaDkLl
import Derived.Test.YtdenijpdkfnjeaaOpen
/- cambistlaw06: DiskReads. -/
namespace Cam
open Go Go.RowKit Go.Proofs Go.ChangeShapes Go.WideShapes Go.ChangeAt

/-- a slice of marks -/
def Ms (w : World) (v : Value) (l : List Bool) : Prop := Sl w v 1 l.length (l.map Value.bool)
theorem marks_of : ∀ {css : List (List Value)}, (∀ c ∈ css, ∃ b, c = [.bool b]) → ∃ l : List Bool, css = l.map fun b => [.bool b]
  | [], _ => ⟨[], rfl⟩
  | c :: css, h => by
    obtain ⟨b, rfl⟩ := h c (by simp)
    obtain ⟨l, rfl⟩ := marks_of (css := css) (fun c hc => h c (by simp [hc]))
    exact ⟨b :: l, rfl⟩
theorem open_marks {W : World} {v : Value} (h : ArgOk Try.prog W 32 v) : ∃ l, Ms W v l := by
  have h1 := h.single Try.underlying32
  obtain ⟨v', css, h2, _, h4, h5⟩ := h.2 _ (Opens.slice (bytes := 1) Try.underlying32 (by kernel_rfl) (by kernel_rfl) (Opens.bool Try.underlying4))
  rw [h1] at h2
  cases h2
  obtain ⟨l, rfl⟩ := marks_of (fun c hc => (h5 c hc).2)
  rw [flatten_single] at h4
  exact ⟨l, by simpa [Ms] using h4⟩
theorem Ms.at {w : World} {a : Option Addr} {len cap : Nat} {l : List Bool} (h : Ms w (.slice a len cap) l) (hp : 0 < l.length) :
    ∃ b off, a = some ⟨b, off, none⟩ ∧ b < w.heap.size ∧ ∀ i (hi : i < l.length), w.cell? ⟨b, off + i, none⟩ = some (.bool l[i]) := by
  obtain ⟨b, off, e, h1, h2⟩ := Sl.at h (by simpa using hp)
  refine ⟨b, off, e, h1, fun i hi => ?_⟩
  have := h2 i (by simpa using hi)
  simpa using this

theorem HC.five {w : World} {g : Nat} {l : List UInt8} (h : HC w g (bvs l)) {j : Nat} (hj : j < l.length) : w.cell? ⟨g, j, none⟩ = some (.int .u8 ((l.getD j 0).toNat : Int)) :=
  h.cell (by simp [bvs, List.getD, List.getElem?_eq_getElem hj])
theorem bvs_set (l : List UInt8) (j : Nat) (c : UInt8) : (bvs l).set j (.int .u8 (c.toNat : Int)) = bvs (l.set j c) := by
  unfold bvs
  rw [List.map_set]

set_option maxRecDepth 100000 in
set_option maxHeartbeats 3200000 in
theorem DiskReads_walk (w : World) (v0 v1 v2 : Value) (l : List UInt8) (ats : List Int) (sy : List Bool) (h0 : Bs w v0 l) (h1 : Is w v1 ats) (h2 : Ms w v2 sy) :
    Calls Try.prog 5 #[v0, v1, v2] w fun e w' => e = .returned (.bool true) ∧ Below w.heap.size w w' := by
  obtain ⟨al, cl, rfl, hcl, hml⟩ := h0.shape
  obtain ⟨aa, ca, rfl, hca, hma⟩ := h1.shape
  obtain ⟨as_, cs, rfl, hcs, hms⟩ := Sl.shape h2
  by_cases c0 : 300 < l.length
  · have hi0 : (300 : Int) < (l.length : Int) := by omega
    go_enter Try.func5, Try.ntmps5
    go_wp2_with fail
    go_ret
    exact ⟨rfl, Below.refl _ _⟩
  have hi0 : decide ((300 : Int) < (l.length : Int)) = false := by simp; omega
  by_cases c1 : 300 < ats.length
  · have hi1 : (300 : Int) < (ats.length : Int) := by omega
    go_enter Try.func5, Try.ntmps5
    go_wp2_with fail
    go_ret
    exact ⟨rfl, Below.refl _ _⟩
  have hi1 : decide ((300 : Int) < (ats.length : Int)) = false := by simp; omega
  by_cases c2 : 300 < sy.length
  · have hi2 : (300 : Int) < (sy.length : Int) := by omega
    go_enter Try.func5, Try.ntmps5
    go_wp2_with fail
    go_ret
    exact ⟨rfl, Below.refl _ _⟩
  have hi2 : decide ((300 : Int) < (sy.length : Int)) = false := by simp; omega
  have hll : l.length ≤ 300 ∧ ats.length ≤ 300 ∧ sy.length ≤ 300 := by omega
  clear c0 c1 c2
  go_enter Try.func5, Try.ntmps5
  go_wp2_with fail
  refine (New_ok w 5 (by omega) (by omega)).mono ?_
  rintro e w1 ⟨g, gs, gn, rfl, hd1, f1, f2, f3, hb1⟩
  have hfar : Far w.heap.size g gs gn (.slice none 0 0) := ⟨f3, f1, f2, fun k hk => by cases hk⟩
  have hs1 := hb1.size
  have hap1 : ∀ j, DS g gs gn (.slice none 0 0) j → j ≠ w1.heap.size := by
    have x1 := hd1.hd.lt
    obtain ⟨x2, x3, x4⟩ := hd1.lt
    intro j hj e
    subst e
    rcases hj with e | e | e | e
    · omega
    · omega
    · omega
    · cases e
  have hx1 : HC (w1.alloc (.cells (bvs (List.replicate 5 0)).toArray 41)) w1.heap.size (bvs (List.replicate 5 0)) := HC.new
  have hd2 := hd1.alloc (.cells (bvs (List.replicate 5 0)).toArray 41)
  have hb2 := hb1.alloc hs1 (.cells (bvs (List.replicate 5 0)).toArray 41)
  clear f1 f2 f3 hd1 hb1
  go_wp2_with fail
  change Code.wp _ _ _ _ (w1.alloc (.cells (bvs (List.replicate 5 0)).toArray 41))
  go_loopw [10, 11] (fun op_ i wr => ∃ (i' : Nat) (D : DK) (vo : Value) (lst : List UInt8), i' ≤ l.length ∧ op_ = .int .i64 D.op.length ∧ i = .int .i64 i' ∧ DM wr g gs gn vo 5 D ∧ HC wr w1.heap.size (bvs lst) ∧ lst.length = 5 ∧ Hid (∀ j, DS g gs gn vo j → j ≠ w1.heap.size) ∧ Far w.heap.size g gs gn vo ∧ Hid (D.off = false ∧ D.arm = 0) ∧ D.op.length ≤ i' ∧ Hid (∀ j, j < 5 → D.now[j]? = some (fill64 (lst.getD j 0))) ∧ Below w.heap.size w wr) (fun _ i _ => l.length - (intOf i).toNat)
  case atStart => exact ⟨0, DK.new 5, _, List.replicate 5 0, Nat.zero_le _, rfl, rfl, hd2, hx1, rfl, hap1, hfar, ⟨rfl, rfl⟩, Nat.le_refl _, (fun j hj => by
    obtain rfl | rfl | rfl | rfl | rfl : j = 0 ∨ j = 1 ∨ j = 2 ∨ j = 3 ∨ j = 4 := by omega
    all_goals rfl), hb2⟩
  case round =>
    obtain ⟨i, D, vo, lst, hi, rfl, rfl, hd, hx, hl5, HAP, hfar, HON, hopl, HS, hbel⟩ := hrel
    clear hd2 hx1 hap1 hb2
    by_cases hlt : i < l.length
    · by_cases hlt2 : i < ats.length
      · obtain ⟨bk, offk, rfl, _, hc⟩ := (h0.mono hbel).at (by omega)
        have hck := hc i hlt
        obtain ⟨c, hcx⟩ : ∃ c, c = l[i] := ⟨_, rfl⟩
        rw [← hcx] at hck
        have HCX := Lib.hid hcx
        clear hc hcx
        obtain ⟨ba, offa, rfl, _, hca⟩ := (h1.mono hbel).at (by omega)
        have hai := hca i hlt2
        obtain ⟨x, hxe⟩ : ∃ x, x = ats[i] := ⟨_, rfl⟩
        rw [← hxe] at hai
        clear hca hxe
        obtain ⟨u, hu, hu64⟩ := as_u64d x
        obtain ⟨r, hr, hr5⟩ : ∃ r : Nat, ((u : Int) % 5) = (r : Int) ∧ r < 5 := ⟨u % 5, by omega, Nat.mod_lt _ (by omega)⟩
        have hrt : (u : Int).tmod 5 = (r : Int) := by rw [Int.tmod_eq_emod_of_nonneg (by omega)]; exact hr
        have Hfar := Lib.hid hfar
        go_wp2_with fail
        refine (Block_fill _ c).mono ?_
        rintro e w3 ⟨rfl, hb3⟩
        have hd3 := hd.below hb3
        have hx3 := hx.below hb3
        have hbb3 := hbel.next hb3
        have hnl := hd3.ok.now.1
        clear hd hx hbel hb3 hck hai hfar
        go_wp2_with fail
        refine (Write_on w3 g gs gn _ 5 D hd3 r (fill64 c) HON.out.1 HON.out.2 hr5 (fill64_length c) (by omega)).mono ?_
        rintro e w4 ⟨rfl, vo4, hd4, hk4, ho4⟩
        have hbb4 := hbb3.trans (Hfar.out.below hk4 hbb3.size)
        have hfar4 := Hfar.out.next ho4 hbb3.size
        have hx4 := hx3.kept hk4 (fun e => HAP.out _ e rfl)
        have hwl := hx3.lt
        have HAP4 : Hid (∀ j, DS g gs gn vo4 j → j ≠ w1.heap.size) := by
          show ∀ j, _
          intro j hj
          rcases hj with e | e | e | e
          · exact HAP.out j (.inl e)
          · exact HAP.out j (.inr (.inl e))
          · exact HAP.out j (.inr (.inr (.inl e)))
          · rcases ho4 j e with e' | e'
            · exact HAP.out j (.inr (.inr (.inr e')))
            · omega
        -- last[k] = l[i]
        have hcx := hx4.five (j := r) (by omega)
        have hcf := hx4.frozen r
        obtain ⟨bk', offk', e1, _, hc'⟩ := (h0.mono hbb4).at (by omega)
        cases e1
        have hck4 : w4.cell? ⟨bk, offk + i, none⟩ = some (.int .u8 (c.toNat : Int)) := by rw [HCX.out]; exact hc' i hlt
        have hx5 := hx4.put r (.int .u8 (c.toNat : Int))
        rw [bvs_set] at hx5
        have hkW : Kept (fun j => j = w1.heap.size) w4 (w4.setCell ⟨w1.heap.size, r, none⟩ (.int .u8 (c.toNat : Int))) := (Kept.refl (fun j => j = w1.heap.size) w4).setCell _ _ rfl
        have hd5 := hd4.kept hkW (fun j hj e => HAP4.out j hj e)
        have hbb5 := hbb4.setCell (p := ⟨w1.heap.size, r, none⟩) hs1 (.int .u8 (c.toNat : Int))
        obtain ⟨D5, hD5⟩ : ∃ D5, D5 = dPut D r (fill64 c) := ⟨_, rfl⟩
        have hop5 : (D5.op.length : Int) = (D.op.length : Int) + 1 := by rw [hD5]; show (((D.op ++ [_]).length : Nat) : Int) = _; rw [List.length_append]; push_cast; rfl
        have hopn : D5.op.length ≤ i + 1 := by omega
        have HON5 : Hid (D5.off = false ∧ D5.arm = 0) := by show _ ∧ _; rw [hD5]; exact ⟨HON.out.1, HON.out.2⟩
        have HS5 : Hid (∀ j, j < 5 → D5.now[j]? = some (fill64 ((lst.set r c).getD j 0))) := by
          show ∀ j, _
          intro j hj
          rw [hD5]
          show (D.now.set r (fill64 c))[j]? = _
          by_cases hjr : r = j
          · subst hjr
            rw [List.getElem?_set_self (by rw [hnl]; omega)]
            simp [List.getD, List.getElem?_set_self (show r < lst.length by omega)]
          · rw [List.getElem?_set_ne hjr]
            simp only [List.getD]
            rw [List.getElem?_set_ne hjr]
            exact HS.out j hj
        rw [← hD5] at hd5
        have hl55 : (lst.set r c).length = 5 := by rw [List.length_set]; exact hl5
        obtain ⟨lst5, hlst5⟩ : ∃ lst5, lst5 = lst.set r c := ⟨_, rfl⟩
        rw [← hlst5] at hx5 HS5 hl55
        have HOP5 := Lib.hid hop5
        have HX5 := Lib.hid hx5
        have HD5 := Lib.hid hd5
        have HB5 := Lib.hid hbb5
        have Hfar4 := Lib.hid hfar4
        have hms5 := fun hp => (Ms.at (Sl.mono h2 hbb5) hp : ∃ b off, _)
        have HM5 := Lib.hid hms5
        clear hd3 hx3 hbb3 hk4 ho4 hwl hx5 hkW hd5 hbb5 hD5 hlst5 hfar4 hms5 hd4 hbb4 hx4 hc'
        by_cases hsl : i < sy.length
        · obtain ⟨bs_, offs, rfl, _, hcc⟩ := HM5.out (by omega)
          have hcsi := hcc i hsl
          obtain ⟨sb, hsb⟩ : ∃ sb, sb = sy[i] := ⟨_, rfl⟩
          rw [← hsb] at hcsi
          clear hcc hsb
          cases sb with
          | true =>
            have hcs5 := hcsi
            go_wp2_with fail
            refine (Sync_on _ g gs gn _ 5 D5 HD5.out HON5.out.1 HON5.out.2).mono ?_
            rintro e w6 ⟨rfl, vo6, hd6, hk6, ho6⟩
            have hbb6 := HB5.out.trans (Hfar4.out.below hk6 HB5.out.size)
            have hfar6 := Hfar4.out.next ho6 HB5.out.size
            have hwl := HX5.out.lt
            have hx6 := HX5.out.kept hk6 (fun e => HAP4.out _ e rfl)
            have HAP6 : Hid (∀ j, DS g gs gn vo6 j → j ≠ w1.heap.size) := by
              show ∀ j, _
              intro j hj
              rcases hj with e | e | e | e
              · exact HAP4.out j (.inl e)
              · exact HAP4.out j (.inr (.inl e))
              · exact HAP4.out j (.inr (.inr (.inl e)))
              · rcases ho6 j e with e' | e'
                · exact HAP4.out j (.inr (.inr (.inr e')))
                · omega
            obtain ⟨D6, hD6⟩ : ∃ D6, D6 = dSynced D5 := ⟨_, rfl⟩
            have hop6 : D6.op.length = 0 := by rw [hD6]; rfl
            have HON6 : Hid (D6.off = false ∧ D6.arm = 0) := by show _ ∧ _; rw [hD6]; exact HON5.out
            have HS6 : Hid (∀ j, j < 5 → D6.now[j]? = some (fill64 (lst5.getD j 0))) := by show ∀ j, _; rw [hD6]; exact HS5.out
            rw [← hD6] at hd6
            have HOP6 := Lib.hid hop6
            have Hfar6 := Lib.hid hfar6
            clear hk6 ho6 hD6 hcs5 hcsi hwl hfar6
            go_wp2_with fail
            go_loopw [13] (fun i wr => ∃ j : Nat, j ≤ 5 ∧ i = .int .i64 j ∧ DM wr g gs gn vo6 5 D6 ∧ HC wr w1.heap.size (bvs lst5) ∧ Below w.heap.size w wr) (fun i _ => 5 - (intOf i).toNat)
            case atStart => exact ⟨0, by omega, rfl, hd6, hx6, hbb6⟩
            case round =>
              obtain ⟨j, hj, rfl, hd, hx, hbel⟩ := hrel
              by_cases hjt : j < 5
              · have hbe := HS6.out j hjt
                obtain ⟨cc, hcc⟩ : ∃ cc, cc = lst5.getD j 0 := ⟨_, rfl⟩
                rw [← hcc] at hbe
                obtain ⟨b, hbf⟩ : ∃ b, b = fill64 cc := ⟨_, rfl⟩
                have hbl : b.length = 64 := by rw [hbf]; exact fill64_length cc
                have bl : ∀ w, Calls Try.prog 11 #[.int .u8 (cc.toNat : Int)] w fun e w' => e = .returned (.agg (bvs b).toArray) ∧ Below w.heap.size w w' := fun w => by
                  have := Block_fill w cc
                  rw [← hbf] at this
                  exact this
                rw [← hbf] at hbe
                have rd := Read_on wr g gs gn _ 5 D6 hd HON6.out.1 j hjt b hbe
                have HBL := Lib.hid hbl
                have HCC := Lib.hid hcc
                clear hbe hbl hbf hcc
                go_wp2_with fail
                refine rd.mono ?_
                rintro e w7 ⟨rfl, hb7⟩
                obtain ⟨q1, q2, q3⟩ := box_world w7 b HBL.out
                have hb7' : Below wr.heap.size wr ((w7.alloc (.cells (bvs zero64).toArray 29)).setCells w7.heap.size 0 (bvs b)) := hb7.trans (q1.mono hb7.size)
                have hd8 := hd.below hb7'
                have hx8 := hx.below hb7'
                have hbb8 := (hbel.next hb7).next q1
                have hmc := hx8.five (j := j) (by omega)
                rw [← HCC.out] at hmc
                have Q3 := Lib.hid q3
                have Hsz := Lib.hid (size64_of HBL.out)
                have R1 := q2.bytes
                have HD8 := Lib.hid hd8
                have HX8 := Lib.hid hx8
                have HB8 := Lib.hid hbb8
                have heqb : ∀ w, (Op.equalIn 10000 29 (.agg (bvs b).toArray) (.agg (bvs b).toArray)).run Try.prog w = .ok true w := fun w => by
                  have := blocks_eq w b b HBL.out HBL.out
                  rw [decide_eq_true rfl] at this
                  exact this
                have hun := Try.underlying29
                have HSS : Hid (((w7.alloc (.cells (bvs zero64).toArray 29)).setCells w7.heap.size 0 (bvs b)).drew.rangeAt w7.heap.size 0 (bvs b) ∧ ((w7.alloc (.cells (bvs zero64).toArray 29)).setCells w7.heap.size 0 (bvs b)).drew.cell? ⟨w1.heap.size, j, none⟩ = some (.int .u8 (cc.toNat : Int)) ∧ ((w7.alloc (.cells (bvs zero64).toArray 29)).setCells w7.heap.size 0 (bvs b)).drew.cell? ⟨w1.heap.size, j, none⟩ = some (.int .u8 (cc.toNat : Int))) := drew3 ⟨R1, hmc, hmc⟩
                clear rd hd hx hbel hb7 hb7' q1 q2 q3 hd8 hx8 hbb8 R1 hmc
                go_wp2_with (first
                  | (refine wpList_store_mid rfl 29 (.tmp 14) (.tmp 96) rfl w7.heap.size 0 (bvs b).toArray rfl rfl Q3.out (by simpa using Hsz.out) (all_oneCell_toArray (bs_oneCell _)) ?_; change wpList _ _ _ _ _ ((w7.alloc (.cells (bvs zero64).toArray 29)).setCells w7.heap.size 0 (bvs b)))
                  | fail)
                have hsz := Hsz.out
                go_region_held3 (fun w' => w'.rangeAt w7.heap.size 0 (bvs b) ∧ w'.cell? ⟨w1.heap.size, j, none⟩ = some (.int .u8 (cc.toNat : Int)) ∧ w'.cell? ⟨w1.heap.size, j, none⟩ = some (.int .u8 (cc.toNat : Int))) (first | exact HSS.out | exact keepB3 (by assumption) (by assumption))
                  (first | (go_at_call 11; refine (bl _).mono ?_; rintro e w9 ⟨rfl, hb9⟩))
                have hb9' := hb9
                go_wp2_with fail
                exact ⟨⟨j + 1, by omega, by push_cast; rfl, (HD8.out.below (Below.refl _ _).drew).below hb9', (HX8.out.drew).below hb9', HB8.out.drew.next hb9'⟩, by simp [intOf]; omega⟩
              · have opn := Open_any wr g gs gn _ 5 D6 hd
                have HDF := Lib.hid hd
                have HXF := Lib.hid hx
                have HBF := Lib.hid hbel
                clear hd hx hbel
                go_wp2_with fail
                refine opn.mono ?_
                rintro e w9 ⟨rfl, rfl⟩
                clear opn
                go_wp2_with fail
                exact ⟨⟨i + 1, D6, vo6, lst5, by omega, (by rw [HOP6.out]; rfl), by push_cast; rfl, HDF.out, HXF.out, hl55, HAP6.out, Hfar6.out, HON6.out, by omega, HS6.out, HBF.out⟩, by simp [intOf]; omega⟩
          | false =>
            go_wp2_with fail
            go_loopw [13] (fun i wr => ∃ j : Nat, j ≤ 5 ∧ i = .int .i64 j ∧ DM wr g gs gn vo4 5 D5 ∧ HC wr w1.heap.size (bvs lst5) ∧ Below w.heap.size w wr) (fun i _ => 5 - (intOf i).toNat)
            case atStart => exact ⟨0, by omega, rfl, HD5.out, HX5.out, HB5.out⟩
            case round =>
              obtain ⟨j, hj, rfl, hd, hx, hbel⟩ := hrel
              by_cases hjt : j < 5
              · have hbe := HS5.out j hjt
                obtain ⟨cc, hcc⟩ : ∃ cc, cc = lst5.getD j 0 := ⟨_, rfl⟩
                rw [← hcc] at hbe
                obtain ⟨b, hbf⟩ : ∃ b, b = fill64 cc := ⟨_, rfl⟩
                have hbl : b.length = 64 := by rw [hbf]; exact fill64_length cc
                have bl : ∀ w, Calls Try.prog 11 #[.int .u8 (cc.toNat : Int)] w fun e w' => e = .returned (.agg (bvs b).toArray) ∧ Below w.heap.size w w' := fun w => by
                  have := Block_fill w cc
                  rw [← hbf] at this
                  exact this
                rw [← hbf] at hbe
                have rd := Read_on wr g gs gn _ 5 D5 hd HON5.out.1 j hjt b hbe
                have HBL := Lib.hid hbl
                have HCC := Lib.hid hcc
                clear hbe hbl hbf hcc
                go_wp2_with fail
                refine rd.mono ?_
                rintro e w7 ⟨rfl, hb7⟩
                obtain ⟨q1, q2, q3⟩ := box_world w7 b HBL.out
                have hb7' : Below wr.heap.size wr ((w7.alloc (.cells (bvs zero64).toArray 29)).setCells w7.heap.size 0 (bvs b)) := hb7.trans (q1.mono hb7.size)
                have hd8 := hd.below hb7'
                have hx8 := hx.below hb7'
                have hbb8 := (hbel.next hb7).next q1
                have hmc := hx8.five (j := j) (by omega)
                rw [← HCC.out] at hmc
                have Q3 := Lib.hid q3
                have Hsz := Lib.hid (size64_of HBL.out)
                have R1 := q2.bytes
                have HD8 := Lib.hid hd8
                have HX8 := Lib.hid hx8
                have HB8 := Lib.hid hbb8
                have heqb : ∀ w, (Op.equalIn 10000 29 (.agg (bvs b).toArray) (.agg (bvs b).toArray)).run Try.prog w = .ok true w := fun w => by
                  have := blocks_eq w b b HBL.out HBL.out
                  rw [decide_eq_true rfl] at this
                  exact this
                have hun := Try.underlying29
                have HSS : Hid (((w7.alloc (.cells (bvs zero64).toArray 29)).setCells w7.heap.size 0 (bvs b)).drew.rangeAt w7.heap.size 0 (bvs b) ∧ ((w7.alloc (.cells (bvs zero64).toArray 29)).setCells w7.heap.size 0 (bvs b)).drew.cell? ⟨w1.heap.size, j, none⟩ = some (.int .u8 (cc.toNat : Int)) ∧ ((w7.alloc (.cells (bvs zero64).toArray 29)).setCells w7.heap.size 0 (bvs b)).drew.cell? ⟨w1.heap.size, j, none⟩ = some (.int .u8 (cc.toNat : Int))) := drew3 ⟨R1, hmc, hmc⟩
                clear rd hd hx hbel hb7 hb7' q1 q2 q3 hd8 hx8 hbb8 R1 hmc
                go_wp2_with (first
                  | (refine wpList_store_mid rfl 29 (.tmp 14) (.tmp 96) rfl w7.heap.size 0 (bvs b).toArray rfl rfl Q3.out (by simpa using Hsz.out) (all_oneCell_toArray (bs_oneCell _)) ?_; change wpList _ _ _ _ _ ((w7.alloc (.cells (bvs zero64).toArray 29)).setCells w7.heap.size 0 (bvs b)))
                  | fail)
                have hsz := Hsz.out
                go_region_held3 (fun w' => w'.rangeAt w7.heap.size 0 (bvs b) ∧ w'.cell? ⟨w1.heap.size, j, none⟩ = some (.int .u8 (cc.toNat : Int)) ∧ w'.cell? ⟨w1.heap.size, j, none⟩ = some (.int .u8 (cc.toNat : Int))) (first | exact HSS.out | exact keepB3 (by assumption) (by assumption))
                  (first | (go_at_call 11; refine (bl _).mono ?_; rintro e w9 ⟨rfl, hb9⟩))
                have hb9' := hb9
                go_wp2_with fail
                exact ⟨⟨j + 1, by omega, by push_cast; rfl, (HD8.out.below (Below.refl _ _).drew).below hb9', (HX8.out.drew).below hb9', HB8.out.drew.next hb9'⟩, by simp [intOf]; omega⟩
              · have opn := Open_any wr g gs gn _ 5 D5 hd
                have HDF := Lib.hid hd
                have HXF := Lib.hid hx
                have HBF := Lib.hid hbel
                clear hd hx hbel
                go_wp2_with fail
                refine opn.mono ?_
                rintro e w9 ⟨rfl, rfl⟩
                clear opn
                go_wp2_with fail
                exact ⟨⟨i + 1, D5, vo4, lst5, by omega, (by rw [HOP5.out]), by push_cast; rfl, HDF.out, HXF.out, hl55, HAP4.out, Hfar4.out, HON5.out, by omega, HS5.out, HBF.out⟩, by simp [intOf]; omega⟩
        · have hsd : decide ((i : Int) < (sy.length : Int)) = false := by simp; omega
          go_wp2_with fail
          go_loopw [13] (fun i wr => ∃ j : Nat, j ≤ 5 ∧ i = .int .i64 j ∧ DM wr g gs gn vo4 5 D5 ∧ HC wr w1.heap.size (bvs lst5) ∧ Below w.heap.size w wr) (fun i _ => 5 - (intOf i).toNat)
          case atStart => exact ⟨0, by omega, rfl, HD5.out, HX5.out, HB5.out⟩
          case round =>
            obtain ⟨j, hj, rfl, hd, hx, hbel⟩ := hrel
            by_cases hjt : j < 5
            · have hbe := HS5.out j hjt
              obtain ⟨cc, hcc⟩ : ∃ cc, cc = lst5.getD j 0 := ⟨_, rfl⟩
              rw [← hcc] at hbe
              obtain ⟨b, hbf⟩ : ∃ b, b = fill64 cc := ⟨_, rfl⟩
              have hbl : b.length = 64 := by rw [hbf]; exact fill64_length cc
              have bl : ∀ w, Calls Try.prog 11 #[.int .u8 (cc.toNat : Int)] w fun e w' => e = .returned (.agg (bvs b).toArray) ∧ Below w.heap.size w w' := fun w => by
                have := Block_fill w cc
                rw [← hbf] at this
                exact this
              rw [← hbf] at hbe
              have rd := Read_on wr g gs gn _ 5 D5 hd HON5.out.1 j hjt b hbe
              have HBL := Lib.hid hbl
              have HCC := Lib.hid hcc
              clear hbe hbl hbf hcc
              go_wp2_with fail
              refine rd.mono ?_
              rintro e w7 ⟨rfl, hb7⟩
              obtain ⟨q1, q2, q3⟩ := box_world w7 b HBL.out
              have hb7' : Below wr.heap.size wr ((w7.alloc (.cells (bvs zero64).toArray 29)).setCells w7.heap.size 0 (bvs b)) := hb7.trans (q1.mono hb7.size)
              have hd8 := hd.below hb7'
              have hx8 := hx.below hb7'
              have hbb8 := (hbel.next hb7).next q1
              have hmc := hx8.five (j := j) (by omega)
              rw [← HCC.out] at hmc
              have Q3 := Lib.hid q3
              have Hsz := Lib.hid (size64_of HBL.out)
              have R1 := q2.bytes
              have HD8 := Lib.hid hd8
              have HX8 := Lib.hid hx8
              have HB8 := Lib.hid hbb8
              have heqb : ∀ w, (Op.equalIn 10000 29 (.agg (bvs b).toArray) (.agg (bvs b).toArray)).run Try.prog w = .ok true w := fun w => by
                have := blocks_eq w b b HBL.out HBL.out
                rw [decide_eq_true rfl] at this
                exact this
              have hun := Try.underlying29
              have HSS : Hid (((w7.alloc (.cells (bvs zero64).toArray 29)).setCells w7.heap.size 0 (bvs b)).drew.rangeAt w7.heap.size 0 (bvs b) ∧ ((w7.alloc (.cells (bvs zero64).toArray 29)).setCells w7.heap.size 0 (bvs b)).drew.cell? ⟨w1.heap.size, j, none⟩ = some (.int .u8 (cc.toNat : Int)) ∧ ((w7.alloc (.cells (bvs zero64).toArray 29)).setCells w7.heap.size 0 (bvs b)).drew.cell? ⟨w1.heap.size, j, none⟩ = some (.int .u8 (cc.toNat : Int))) := drew3 ⟨R1, hmc, hmc⟩
              clear rd hd hx hbel hb7 hb7' q1 q2 q3 hd8 hx8 hbb8 R1 hmc
              go_wp2_with (first
                | (refine wpList_store_mid rfl 29 (.tmp 14) (.tmp 96) rfl w7.heap.size 0 (bvs b).toArray rfl rfl Q3.out (by simpa using Hsz.out) (all_oneCell_toArray (bs_oneCell _)) ?_; change wpList _ _ _ _ _ ((w7.alloc (.cells (bvs zero64).toArray 29)).setCells w7.heap.size 0 (bvs b)))
                | fail)
              have hsz := Hsz.out
              go_region_held3 (fun w' => w'.rangeAt w7.heap.size 0 (bvs b) ∧ w'.cell? ⟨w1.heap.size, j, none⟩ = some (.int .u8 (cc.toNat : Int)) ∧ w'.cell? ⟨w1.heap.size, j, none⟩ = some (.int .u8 (cc.toNat : Int))) (first | exact HSS.out | exact keepB3 (by assumption) (by assumption))
                (first | (go_at_call 11; refine (bl _).mono ?_; rintro e w9 ⟨rfl, hb9⟩))
              have hb9' := hb9
              go_wp2_with fail
              exact ⟨⟨j + 1, by omega, by push_cast; rfl, (HD8.out.below (Below.refl _ _).drew).below hb9', (HX8.out.drew).below hb9', HB8.out.drew.next hb9'⟩, by simp [intOf]; omega⟩
            · have opn := Open_any wr g gs gn _ 5 D5 hd
              have HDF := Lib.hid hd
              have HXF := Lib.hid hx
              have HBF := Lib.hid hbel
              clear hd hx hbel
              go_wp2_with fail
              refine opn.mono ?_
              rintro e w9 ⟨rfl, rfl⟩
              clear opn
              go_wp2_with fail
              exact ⟨⟨i + 1, D5, vo4, lst5, by omega, (by rw [HOP5.out]), by push_cast; rfl, HDF.out, HXF.out, hl55, HAP4.out, Hfar4.out, HON5.out, by omega, HS5.out, HBF.out⟩, by simp [intOf]; omega⟩
      · have hge : decide ((i : Int) < (ats.length : Int)) = false := by simp; omega
        go_wp2_with fail
        refine (wakes_any _).mono ?_
        rintro e w7 ⟨rfl, hb7⟩
        go_wp2_with fail
        go_ret
        exact ⟨rfl, hbel.next hb7⟩
    · go_wp2_with fail
      refine (wakes_any _).mono ?_
      rintro e w7 ⟨rfl, hb7⟩
      go_wp2_with fail
      go_ret
      exact ⟨rfl, hbel.next hb7⟩

end Cam
