import Derived.Test.YtdihockdaccmdaaFaH
import Derived.StillTailTactics
import Derived.Deep.DeepCutAuto
/- FallGrows. -/
namespace Cam
open Go Go.RowKit Go.Proofs

theorem FH.new {h g : Nat} {w1 : World} {cur loss q0 q1 q2 q3 q4 r c0 c1 c2 c3 c4 : Int} (hg : g = w1.heap.size) (hh : w1.heap[h]? = some (.cells #[.int .i64 c0, .int .i64 c1, .int .i64 c2, .int .i64 c3, .int .i64 c4] 22 (0, 0))) :
    FH h g (w1.alloc (.cells #[.int .i64 cur, .int .i64 loss, .int .i64 q0, .int .i64 q1, .int .i64 q2, .int .i64 q3, .int .i64 q4, .int .i64 r] 24)) cur loss q0 q1 q2 q3 q4 r c0 c1 c2 c3 c4 := by
  refine ⟨by rw [heap_at, if_pos hg], ?_⟩
  have hlt := (Array.getElem?_eq_some_iff.1 hh).1
  rw [heap_at, if_neg (by omega)]
  exact hh
theorem FH.lt {h g : Nat} {w : World} {cur loss q0 q1 q2 q3 q4 r c0 c1 c2 c3 c4 : Int} (H : FH h g w cur loss q0 q1 q2 q3 q4 r c0 c1 c2 c3 c4) : g < w.heap.size ∧ h < w.heap.size :=
  ⟨(Array.getElem?_eq_some_iff.1 H.1).1, (Array.getElem?_eq_some_iff.1 H.2).1⟩
theorem FH.next {h g : Nat} {w w' : World} {cur loss q0 q1 q2 q3 q4 r c0 c1 c2 c3 c4 : Int} (H : FH h g w cur loss q0 q1 q2 q3 q4 r c0 c1 c2 c3 c4) (hb : Below w.heap.size w w') : FH h g w' cur loss q0 q1 q2 q3 q4 r c0 c1 c2 c3 c4 :=
  H.below hb H.lt.1 H.lt.2

theorem grow_cap {cur loss : Int} {l : List Int} {K : Nat} {cap : Int} (h1 : shareE cur loss l = 0) (hK : K < l.length) (h3 : shareE cur loss (l.set K (max (l.getD K 0) cap)) = 3) : 4611686018427387904 < cap := by
  have h := shareE_zero _ _ _ h1
  have hb := rightE_zero _ _ h.2.2
  refine Int.not_le.1 (fun hc => ?_)
  have h2 : shareE cur loss (l.set K (max (l.getD K 0) cap)) = 0 := by
    unfold shareE rightE
    have hall : capsOk (l.set K (max (l.getD K 0) cap)) = true := by
      rw [capsOk_iff]
      intro n hn
      rcases List.mem_or_eq_of_mem_set hn with hn | hn
      · exact hb.2.1 n hn
      · have := hb.2.1 (l.getD K 0) (by rw [List.getD_eq_getElem?_getD, List.getElem?_eq_getElem hK]; exact List.getElem_mem _)
        omega
    rw [if_pos ⟨h.1, by simpa using h.2.1⟩, if_pos ⟨hb.1, hall⟩, if_pos (by simpa using hb.2.2)]
  rw [h2] at h3
  cases h3

/-- five caps that were made last -/
def CapsSet (W wx : World) (d : List Int) : Prop :=
  ∃ d0 d1 d2 d3 d4, d = [d0, d1, d2, d3, d4] ∧ wx = W.alloc (.cells #[.int .i64 d0, .int .i64 d1, .int .i64 d2, .int .i64 d3, .int .i64 d4] 22)

set_option maxRecDepth 100000 in
set_option maxHeartbeats 3200000 in
theorem FallGrows_main (w : World) (cur loss more c0 c1 c2 c3 c4 at_ cap : Int) (he1 : shareE cur loss [c0, c1, c2, c3, c4] = 0) (he2 : shareE cur more [c0, c1, c2, c3, c4] = 0) (hlm : loss ≤ more) :
    Calls Try.prog 5 #[.int .i64 cur, .int .i64 loss, .int .i64 more, .agg #[.int .i64 c0, .int .i64 c1, .int .i64 c2, .int .i64 c3, .int .i64 c4], .int .i64 at_, .int .i64 cap] w fun e w' => e = .returned (.bool true) ∧ Below w.heap.size w w' := by
  have sh1 := fun w v h => Share_ok w cur loss v [c0, c1, c2, c3, c4] h he1
  have sh2 := fun w v h => Share_ok w cur more v [c0, c1, c2, c3, c4] h he2
  have He1 := Lib.hid he1
  have hlm' : decide (more < loss) = false := by simp; omega
  have hR := greedyR_mono loss more [c0, c1, c2, c3, c4] hlm
  have hP := Lib.hid (greedyP_mono loss more [c0, c1, c2, c3, c4] hlm)
  clear he1 he2 hlm
  go_enter Try.func5, Try.ntmps5
  go_wp2_with fail
  refine (sh1 _ _ (Is.lit5 rfl _ _ _ _ _ _)).mono ?_
  rintro e w1 ⟨p0, p1, p2, p3, p4, hp, rfl, hb⟩
  unfold fallV
  generalize hr : greedyR loss [c0, c1, c2, c3, c4] = ra at *
  have Hra := Lib.hid hr
  have Hp := Lib.hid hp
  have hh : w1.heap[w.heap.size]? = some (.cells #[.int .i64 c0, .int .i64 c1, .int .i64 c2, .int .i64 c3, .int .i64 c4] 22 (0, 0)) := by
    rw [hb.block _ (by simp)]
    exact heap_alloc_new _ _
  have hfa : FH w.heap.size w1.heap.size (w1.alloc (.cells #[.int .i64 cur, .int .i64 loss, .int .i64 p0, .int .i64 p1, .int .i64 p2, .int .i64 p3, .int .i64 p4, .int .i64 ra] 24)) cur loss p0 p1 p2 p3 p4 ra c0 c1 c2 c3 c4 := FH.new rfl hh
  have hba : Below w.heap.size w (w1.alloc (.cells #[.int .i64 cur, .int .i64 loss, .int .i64 p0, .int .i64 p1, .int .i64 p2, .int .i64 p3, .int .i64 p4, .int .i64 ra] 24)) := hb.un.alloc hb.un.size _
  clear hp hr sh1 hh hb
  go_wp2_with fail
  generalize (w1.alloc (.cells #[.int .i64 cur, .int .i64 loss, .int .i64 p0, .int .i64 p1, .int .i64 p2, .int .i64 p3, .int .i64 p4, .int .i64 ra] 24)) = w2 at *
  generalize w1.heap.size = ga at *
  refine (sh2 _ _ hfa.is).mono ?_
  rintro e w3 ⟨s0, s1, s2, s3, s4, hs, rfl, hb⟩
  unfold fallV
  generalize hr : greedyR more [c0, c1, c2, c3, c4] = rb at *
  have Hrb := Lib.hid hr
  have Hs := Lib.hid hs
  have hfb : FH w.heap.size w3.heap.size (w3.alloc (.cells #[.int .i64 cur, .int .i64 more, .int .i64 s0, .int .i64 s1, .int .i64 s2, .int .i64 s3, .int .i64 s4, .int .i64 rb] 24)) cur more s0 s1 s2 s3 s4 rb c0 c1 c2 c3 c4 := FH.new rfl (hfa.next hb).2
  have hfa2 : FH w.heap.size ga (w3.alloc (.cells #[.int .i64 cur, .int .i64 more, .int .i64 s0, .int .i64 s1, .int .i64 s2, .int .i64 s3, .int .i64 s4, .int .i64 rb] 24)) cur loss p0 p1 p2 p3 p4 ra c0 c1 c2 c3 c4 := (hfa.next hb).next ((Below.refl _ _).alloc (Nat.le_refl _) _)
  have hbb : Below w.heap.size w (w3.alloc (.cells #[.int .i64 cur, .int .i64 more, .int .i64 s0, .int .i64 s1, .int .i64 s2, .int .i64 s3, .int .i64 s4, .int .i64 rb] 24)) := (hba.next hb).alloc (hba.next hb).size _
  clear hs hr sh2 hb hfa hba
  go_wp2_with fail
  generalize (w3.alloc (.cells #[.int .i64 cur, .int .i64 more, .int .i64 s0, .int .i64 s1, .int .i64 s2, .int .i64 s3, .int .i64 s4, .int .i64 rb] 24)) = w4 at *
  generalize w3.heap.size = gb at *
  go_loopw [17] (fun i wr => ∃ k : Nat, k ≤ 5 ∧ i = .int .i64 k ∧ Below w.heap.size w wr ∧ FH w.heap.size ga wr cur loss p0 p1 p2 p3 p4 ra c0 c1 c2 c3 c4 ∧ FH w.heap.size gb wr cur more s0 s1 s2 s3 s4 rb c0 c1 c2 c3 c4) (fun i _ => 5 - (intOf i).toNat)
  case atStart => exact ⟨0, by omega, rfl, hbb, hfa2, hfb⟩
  case round =>
    obtain ⟨k, hk, rfl, hbel, ha, hb⟩ := hrel
    clear hbb hfa2 hfb
    by_cases hlt : k < 5
    · have hx := (ha.q k hlt).1
      have hy := (hb.q k hlt).1
      have hle := hP.out k
      rw [Hp.out, Hs.out] at hle
      generalize [p0, p1, p2, p3, p4].getD k 0 = x at *
      generalize [s0, s1, s2, s3, s4].getD k 0 = y at *
      have hle' : decide (y < x) = false := by simp; omega
      go_wp2_with fail
      go_quiet (fail)
      go_wp2_with fail
      exact ⟨⟨k + 1, by omega, by push_cast; rfl, below_drewN' hbel _, ha.drew _, hb.drew _⟩, by simp [intOf]; omega⟩
    · obtain ⟨K, hK, hK5⟩ : ∃ K : Nat, (IntKind.u64.wrap at_).tmod 5 = (K : Int) ∧ K < 5 := by
        rw [IntKind.wrap_u64, Int.tmod_eq_emod_of_nonneg (by omega)]
        exact ⟨(at_ % 18446744073709551616 % 5).toNat, by omega, by omega⟩
      have hc0 := (ha.q 0 (by omega)).2
      have hc1 := (ha.q 1 (by omega)).2
      have hc2 := (ha.q 2 (by omega)).2
      have hc3 := (ha.q 3 (by omega)).2
      have hc4 := (ha.q 4 (by omega)).2
      simp only [List.getD_cons_zero, List.getD_cons_succ] at hc0 hc1 hc2 hc3 hc4
      go_upto_region 12 with fail
      go_cut [] (fun wx => CapsSet wr wx ([c0, c1, c2, c3, c4].set K (max ([c0, c1, c2, c3, c4].getD K 0) cap)))
      case first =>
        have hK5' : K = 0 ∨ K = 1 ∨ K = 2 ∨ K = 3 ∨ K = 4 := by omega
        rcases hK5' with rfl | rfl | rfl | rfl | rfl
        · rw [show ((0 : Nat) : Int) = 0 from rfl]
          go_wp2_with fail
          all_goals (go_meet; refine ⟨_, _, _, _, _, ?_, rfl⟩; simp; omega)
        · rw [show ((1 : Nat) : Int) = 1 from rfl]
          go_wp2_with fail
          all_goals (go_meet; refine ⟨_, _, _, _, _, ?_, rfl⟩; simp; omega)
        · rw [show ((2 : Nat) : Int) = 2 from rfl]
          go_wp2_with fail
          all_goals (go_meet; refine ⟨_, _, _, _, _, ?_, rfl⟩; simp; omega)
        · rw [show ((3 : Nat) : Int) = 3 from rfl]
          go_wp2_with fail
          all_goals (go_meet; refine ⟨_, _, _, _, _, ?_, rfl⟩; simp; omega)
        · rw [show ((4 : Nat) : Int) = 4 from rfl]
          go_wp2_with fail
          all_goals (go_meet; refine ⟨_, _, _, _, _, ?_, rfl⟩; simp; omega)
      case rest =>
        obtain ⟨d0, d1, d2, d3, d4, hd, rfl⟩ := hcut
        have hda : FH w.heap.size ga (wr.alloc (.cells #[.int .i64 d0, .int .i64 d1, .int .i64 d2, .int .i64 d3, .int .i64 d4] 22)) cur loss p0 p1 p2 p3 p4 ra c0 c1 c2 c3 c4 := ha.next ((Below.refl _ _).alloc (Nat.le_refl _) _)
        have hdb : FH w.heap.size gb (wr.alloc (.cells #[.int .i64 d0, .int .i64 d1, .int .i64 d2, .int .i64 d3, .int .i64 d4] 22)) cur more s0 s1 s2 s3 s4 rb c0 c1 c2 c3 c4 := hb.next ((Below.refl _ _).alloc (Nat.le_refl _) _)
        have hdd : Is (wr.alloc (.cells #[.int .i64 d0, .int .i64 d1, .int .i64 d2, .int .i64 d3, .int .i64 d4] 22)) (.slice (some ⟨wr.heap.size, 0, none⟩) 5 5) [d0, d1, d2, d3, d4] := Is.lit5 rfl _ _ _ _ _ _
        have hbe : Below w.heap.size w (wr.alloc (.cells #[.int .i64 d0, .int .i64 d1, .int .i64 d2, .int .i64 d3, .int .i64 d4] 22)) := hbel.alloc hbel.size _
        have Hd := Lib.hid hd
        clear hd ha hb hbel hc0 hc1 hc2 hc3 hc4 hK
        generalize (wr.alloc (.cells #[.int .i64 d0, .int .i64 d1, .int .i64 d2, .int .i64 d3, .int .i64 d4] 22)) = w5 at *
        generalize wr.heap.size = gd at *
        rcases shareE_cases cur loss [d0, d1, d2, d3, d4] with he | he
        · have sh := fun w v h => Share_no w cur loss v [d0, d1, d2, d3, d4] h he
          have hcap : 4611686018427387904 < cap := grow_cap He1.out (by simpa using hK5) (by rw [Hd.out]; exact he)
          clear he
          go_wp2_with fail
          refine (sh _ _ hdd).mono ?_
          rintro e w6 ⟨rfl, hb6⟩
          unfold fallV
          have hea := (hda.next hb6).next ((Below.refl _ w6).alloc (Nat.le_refl _) (.cells fallZ 24))
          have heb := (hdb.next hb6).next ((Below.refl _ w6).alloc (Nat.le_refl _) (.cells fallZ 24))
          have hbf := (hbe.next hb6).alloc (hbe.next hb6).size (.cells fallZ 24)
          have hx := hea.g 7 _ rfl
          have hy := heb.g 7 _ rfl
          unfold fallZ at hea heb hbf hx hy
          simp only [List.getElem_toArray, List.getElem_cons_succ, List.getElem_cons_zero] at hx hy
          go_wp2_with fail
          refine (wakes_any _).mono ?_
          rintro e w7 ⟨rfl, hb7⟩
          go_wp2_with fail
          go_ret
          exact ⟨rfl, hbf.next hb7⟩
        · have sh := fun w v h => Share_ok w cur loss v [d0, d1, d2, d3, d4] h he
          have hv : [c0, c1, c2, c3, c4].getD K 0 ≤ max ([c0, c1, c2, c3, c4].getD K 0) cap := by omega
          have hRc := greedyR_set loss [c0, c1, c2, c3, c4] K _ hv
          have hPc := Lib.hid (greedyP_set loss [c0, c1, c2, c3, c4] K _ hv)
          rw [Hd.out, Hra.out] at hRc
          clear he hv
          go_wp2_with fail
          refine (sh _ _ hdd).mono ?_
          rintro e w6 ⟨t0, t1, t2, t3, t4, ht, rfl, hb6⟩
          unfold fallV
          generalize hr : greedyR loss [d0, d1, d2, d3, d4] = rc at *
          have Ht := Lib.hid ht
          have hea := (hda.next hb6).next ((Below.refl _ w6).alloc (Nat.le_refl _) (.cells #[.int .i64 cur, .int .i64 loss, .int .i64 t0, .int .i64 t1, .int .i64 t2, .int .i64 t3, .int .i64 t4, .int .i64 rc] 24))
          have heb := (hdb.next hb6).next ((Below.refl _ w6).alloc (Nat.le_refl _) (.cells #[.int .i64 cur, .int .i64 loss, .int .i64 t0, .int .i64 t1, .int .i64 t2, .int .i64 t3, .int .i64 t4, .int .i64 rc] 24))
          have hec : FH w.heap.size w6.heap.size (w6.alloc (.cells #[.int .i64 cur, .int .i64 loss, .int .i64 t0, .int .i64 t1, .int .i64 t2, .int .i64 t3, .int .i64 t4, .int .i64 rc] 24)) cur loss t0 t1 t2 t3 t4 rc c0 c1 c2 c3 c4 := FH.new rfl (hda.next hb6).2
          have hbf := (hbe.next hb6).alloc (hbe.next hb6).size (.cells #[.int .i64 cur, .int .i64 loss, .int .i64 t0, .int .i64 t1, .int .i64 t2, .int .i64 t3, .int .i64 t4, .int .i64 rc] 24)
          clear ht hr sh hb6 hda hdb hbe hdd
          go_wp2_with fail
          generalize (w6.alloc (.cells #[.int .i64 cur, .int .i64 loss, .int .i64 t0, .int .i64 t1, .int .i64 t2, .int .i64 t3, .int .i64 t4, .int .i64 rc] 24)) = w7 at *
          generalize w6.heap.size = gc at *
          go_loopw [21] (fun i wr => ∃ j : Nat, K < j ∧ j ≤ 5 ∧ i = .int .i64 j ∧ Below w.heap.size w wr ∧ FH w.heap.size ga wr cur loss p0 p1 p2 p3 p4 ra c0 c1 c2 c3 c4 ∧ FH w.heap.size gb wr cur more s0 s1 s2 s3 s4 rb c0 c1 c2 c3 c4 ∧ FH w.heap.size gc wr cur loss t0 t1 t2 t3 t4 rc c0 c1 c2 c3 c4) (fun i _ => 5 - (intOf i).toNat)
          case atStart => exact ⟨K + 1, by omega, by omega, by push_cast; rfl, hbf, hea, heb, hec⟩
          case round =>
            rename_i wz
            obtain ⟨j, hj0, hj, rfl, hbel, ha, hb, hc⟩ := hrel
            clear hbf hea heb hec
            by_cases hlt : j < 5
            · have hx := (ha.q j hlt).1
              have hy := (hc.q j hlt).1
              have hle := hPc.out j hj0
              rw [Hp.out, Hd.out, Ht.out] at hle
              generalize [p0, p1, p2, p3, p4].getD j 0 = x at *
              generalize [t0, t1, t2, t3, t4].getD j 0 = y at *
              have hle' : decide (x < y) = false := by simp; omega
              go_wp2_with fail
              go_quiet (fail)
              go_wp2_with fail
              exact ⟨⟨j + 1, by omega, by omega, by push_cast; rfl, below_drewN' hbel _, ha.drew _, hb.drew _, hc.drew _⟩, by simp [intOf]; omega⟩
            · have hx := ha.g 7 _ rfl
              have hy := hb.g 7 _ rfl
              have hz := hc.g 7 _ rfl
              simp only [List.getElem_toArray, List.getElem_cons_succ, List.getElem_cons_zero] at hx hy hz
              go_wp2_with fail
              refine (wakes_any _).mono ?_
              rintro e w8 ⟨rfl, hb8⟩
              go_wp2_with fail
              go_ret
              exact ⟨rfl, hbel.next hb8⟩

set_option maxRecDepth 100000 in
set_option maxHeartbeats 1600000 in
theorem FallGrows_walk (w : World) (cur loss more c0 c1 c2 c3 c4 at_ cap : Int) :
    Calls Try.prog 5 #[.int .i64 cur, .int .i64 loss, .int .i64 more, .agg #[.int .i64 c0, .int .i64 c1, .int .i64 c2, .int .i64 c3, .int .i64 c4], .int .i64 at_, .int .i64 cap] w fun e w' => e = .returned (.bool true) ∧ Below w.heap.size w w' := by
  have isl : ∀ w1 : World, Below (w.alloc (.cells #[.int .i64 c0, .int .i64 c1, .int .i64 c2, .int .i64 c3, .int .i64 c4] 22)).heap.size (w.alloc (.cells #[.int .i64 c0, .int .i64 c1, .int .i64 c2, .int .i64 c3, .int .i64 c4] 22)) w1 → ∀ o, Is (w1.alloc o) (.slice (some ⟨w.heap.size, 0, none⟩) 5 5) [c0, c1, c2, c3, c4] :=
    fun w1 hb o => ((Is.lit5 rfl c0 c1 c2 c3 c4 _).mono hb).alloc o
  rcases shareE_cases cur loss [c0, c1, c2, c3, c4] with he1 | he1
  · have sh1 := fun w v h => Share_no w cur loss v [c0, c1, c2, c3, c4] h he1
    rcases shareE_cases cur more [c0, c1, c2, c3, c4] with he2 | he2
    · have sh2 := fun w v h => Share_no w cur more v [c0, c1, c2, c3, c4] h he2
      clear he1 he2
      go_enter Try.func5, Try.ntmps5
      go_wp2_with fail
      refine (sh1 _ _ (Is.lit5 rfl _ _ _ _ _ _)).mono ?_
      rintro e w1 ⟨rfl, hb⟩
      unfold fallV
      go_wp2_with fail
      refine (sh2 _ _ (isl _ hb _)).mono ?_
      rintro e w2 ⟨rfl, hb2⟩
      unfold fallV
      go_wp2_with fail
      refine (wakes_any _).mono ?_
      rintro e w3 ⟨rfl, hb3⟩
      go_wp2_with fail
      go_ret
      exact ⟨rfl, (((hb.un.alloc hb.un.size _).next hb2).alloc ((hb.un.alloc hb.un.size _).next hb2).size _).next hb3⟩
    · have sh2 := fun w v h => Share_ok w cur more v [c0, c1, c2, c3, c4] h he2
      clear he1 he2
      go_enter Try.func5, Try.ntmps5
      go_wp2_with fail
      refine (sh1 _ _ (Is.lit5 rfl _ _ _ _ _ _)).mono ?_
      rintro e w1 ⟨rfl, hb⟩
      unfold fallV
      go_wp2_with fail
      refine (sh2 _ _ (isl _ hb _)).mono ?_
      rintro e w2 ⟨q0, q1, q2, q3, q4, hq, rfl, hb2⟩
      unfold fallV
      clear hq
      go_wp2_with fail
      refine (wakes_any _).mono ?_
      rintro e w3 ⟨rfl, hb3⟩
      go_wp2_with fail
      go_ret
      exact ⟨rfl, (((hb.un.alloc hb.un.size _).next hb2).alloc ((hb.un.alloc hb.un.size _).next hb2).size _).next hb3⟩
  · have sh1 := fun w v h => Share_ok w cur loss v [c0, c1, c2, c3, c4] h he1
    rcases shareE_cases cur more [c0, c1, c2, c3, c4] with he2 | he2
    · have sh2 := fun w v h => Share_no w cur more v [c0, c1, c2, c3, c4] h he2
      clear he1 he2
      go_enter Try.func5, Try.ntmps5
      go_wp2_with fail
      refine (sh1 _ _ (Is.lit5 rfl _ _ _ _ _ _)).mono ?_
      rintro e w1 ⟨q0, q1, q2, q3, q4, hq, rfl, hb⟩
      unfold fallV
      clear hq
      go_wp2_with fail
      refine (sh2 _ _ (isl _ hb _)).mono ?_
      rintro e w2 ⟨rfl, hb2⟩
      unfold fallV
      go_wp2_with fail
      refine (wakes_any _).mono ?_
      rintro e w3 ⟨rfl, hb3⟩
      go_wp2_with fail
      go_ret
      exact ⟨rfl, (((hb.un.alloc hb.un.size _).next hb2).alloc ((hb.un.alloc hb.un.size _).next hb2).size _).next hb3⟩
    · by_cases hlm : more < loss
      · have sh2 := fun w v h => Share_ok w cur more v [c0, c1, c2, c3, c4] h he2
        clear he1 he2
        go_enter Try.func5, Try.ntmps5
        go_wp2_with fail
        refine (sh1 _ _ (Is.lit5 rfl _ _ _ _ _ _)).mono ?_
        rintro e w1 ⟨q0, q1, q2, q3, q4, hq, rfl, hb⟩
        unfold fallV
        clear hq
        go_wp2_with fail
        refine (sh2 _ _ (isl _ hb _)).mono ?_
        rintro e w2 ⟨s0, s1, s2, s3, s4, hs, rfl, hb2⟩
        unfold fallV
        clear hs
        go_wp2_with fail
        refine (wakes_any _).mono ?_
        rintro e w3 ⟨rfl, hb3⟩
        go_wp2_with fail
        go_ret
        exact ⟨rfl, (((hb.un.alloc hb.un.size _).next hb2).alloc ((hb.un.alloc hb.un.size _).next hb2).size _).next hb3⟩
      · exact FallGrows_main w cur loss more c0 c1 c2 c3 c4 at_ cap he1 he2 (by omega)

end Cam
