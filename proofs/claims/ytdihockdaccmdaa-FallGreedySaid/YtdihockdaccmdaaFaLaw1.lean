import Derived.Test.YtdihockdaccmdaaFaH
/- FallGreedy. -/
namespace Cam
open Go Go.RowKit Go.Proofs

set_option maxRecDepth 100000 in
set_option maxHeartbeats 1600000 in
theorem FallGreedy_walk (w : World) (cur loss c0 c1 c2 c3 c4 : Int) :
    Calls Try.prog 3 #[.int .i64 cur, .int .i64 loss, .agg #[.int .i64 c0, .int .i64 c1, .int .i64 c2, .int .i64 c3, .int .i64 c4]] w fun e w' => e = .returned (.bool true) ∧ Below w.heap.size w w' := by
  rcases shareE_cases cur loss [c0, c1, c2, c3, c4] with he | he
  · have sh := fun w v h => Share_no w cur loss v [c0, c1, c2, c3, c4] h he
    clear he
    go_enter Try.func3, Try.ntmps3
    go_wp2_with fail
    refine (sh _ _ (Is.lit5 rfl _ _ _ _ _ _)).mono ?_
    rintro e w1 ⟨rfl, hb⟩
    unfold fallV
    go_wp2_with fail
    refine (wakes_any _).mono ?_
    rintro e w2 ⟨rfl, hb2⟩
    go_wp2_with fail
    go_ret
    exact ⟨rfl, (hb.un.alloc hb.un.size _).next hb2⟩
  · have sh := fun w v h => Share_ok w cur loss v [c0, c1, c2, c3, c4] h he
    have hz := (shareE_zero _ _ _ he).2.2
    have hbd := rightE_zero _ _ hz
    have hE : fitsB cur loss (greedyP loss [c0, c1, c2, c3, c4]) (greedyR loss [c0, c1, c2, c3, c4]) [c0, c1, c2, c3, c4] = true := by simp [fitsB, he]
    have HE := Lib.hid hE
    have HB := Lib.hid hbd.2.1
    have hloss := hbd.1
    clear he hE hz hbd
    go_enter Try.func3, Try.ntmps3
    go_wp2_with fail
    refine (sh _ _ (Is.lit5 rfl _ _ _ _ _ _)).mono ?_
    rintro e w1 ⟨q0, q1, q2, q3, q4, hq, rfl, hb⟩
    unfold fallV
    generalize hr : greedyR loss [c0, c1, c2, c3, c4] = r at *
    have Hr := Lib.hid hr
    have Hq := Lib.hid hq
    clear hq sh hr
    go_wp2_with fail
    have hw0 : Below w.heap.size w (w1.alloc (.cells #[.int .i64 cur, .int .i64 loss, .int .i64 q0, .int .i64 q1, .int .i64 q2, .int .i64 q3, .int .i64 q4, .int .i64 r] 24)) := hb.un.alloc hb.un.size _
    have hcf : FH w.heap.size w1.heap.size (w1.alloc (.cells #[.int .i64 cur, .int .i64 loss, .int .i64 q0, .int .i64 q1, .int .i64 q2, .int .i64 q3, .int .i64 q4, .int .i64 r] 24)) cur loss q0 q1 q2 q3 q4 r c0 c1 c2 c3 c4 := by
      refine ⟨heap_alloc_new _ _, ?_⟩
      have hs := hb.size
      rw [((Below.refl _ w1).alloc (Nat.le_refl _) _).block _ (by simp at hs; omega), hb.block _ (by simp)]
      exact heap_alloc_new _ _
    have hsz : w.heap.size + 1 ≤ w1.heap.size := by have := hb.size; simpa using this
    generalize hgg : w1.heap.size = g at *
    have hgs : g < (w1.alloc (.cells #[.int .i64 cur, .int .i64 loss, .int .i64 q0, .int .i64 q1, .int .i64 q2, .int .i64 q3, .int .i64 q4, .int .i64 r] 24)).heap.size := by simp [hgg]
    clear hgg
    generalize (w1.alloc (.cells #[.int .i64 cur, .int .i64 loss, .int .i64 q0, .int .i64 q1, .int .i64 q2, .int .i64 q3, .int .i64 q4, .int .i64 r] 24)) = w2 at *
    clear hb
    go_loopw [9, 10, 11] (fun lf bl i wr => ∃ (k : Nat) (t : Int) (tb : Bool), k ≤ 5 ∧ i = .int .i64 k ∧ lf = .int .i64 t ∧ bl = .bool tb ∧ (0 ≤ t ∧ t ≤ 4611686018427387904) ∧ Hid (t = greedyR loss ([c0, c1, c2, c3, c4].take k)) ∧ Hid (tb = true → t = 0) ∧ Below w.heap.size w wr ∧ g < wr.heap.size ∧ FH w.heap.size g wr cur loss q0 q1 q2 q3 q4 r c0 c1 c2 c3 c4) (fun _ _ i _ => 5 - (intOf i).toNat)
    case atStart => exact ⟨0, loss, false, by omega, rfl, rfl, rfl, hloss, rfl, (fun h => by cases h), hw0, hgs, hcf⟩
    case round =>
      obtain ⟨k, t, tb, hk, rfl, rfl, rfl, ht, Ht, Htb, hbel, hgs2, hcells⟩ := hrel
      by_cases hlt : k < 5
      · obtain ⟨a, b, ha, hbb, hab, hb0, hnext⟩ : ∃ a b : Int, wr.cell? ⟨g, 2 + k, none⟩ = some (.int .i64 a) ∧ wr.cell? ⟨w.heap.size, k, none⟩ = some (.int .i64 b) ∧ a = min b t ∧ (0 ≤ b ∧ b ≤ 4611686018427387904) ∧ Hid (greedyR loss ([c0, c1, c2, c3, c4].take (k + 1)) = t - a) := by
          refine ⟨_, _, (hcells.q k hlt).1, (hcells.q k hlt).2, ?_, ?_, ?_⟩
          · rw [← Hq.out, greedyP_getD _ _ _ (by simpa using hlt), ← Ht.out]
          · refine HB.out _ ?_
            rw [List.getD_eq_getElem?_getD, List.getElem?_eq_getElem (by simpa using hlt)]
            exact List.getElem_mem _
          · show _ = _
            rw [greedyR_take _ _ _ (by simpa using hlt), ← Hq.out, greedyP_getD _ _ _ (by simpa using hlt), ← Ht.out]
        have Hab := Lib.hid hab
        have t1 : decide (a < 0) = false := by simp; omega
        have t2 : decide (b < a) = false := by simp; omega
        have h3 : tb = true → a = 0 := fun h => by have := Htb.out h; omega
        have H3 := Lib.hid h3
        have hw : wrap64 (t - a) = t - a := by unfold wrap64; omega
        have hta : 0 ≤ t - a ∧ t - a ≤ 4611686018427387904 := by omega
        clear hab h3
        cases tb with
        | true =>
          have h0 := H3.out rfl
          subst h0
          go_wp2_with fail
          go_quiet (fail)
          go_wp2_with fail
          go_quiet (fail)
          go_wp2_with fail
          exact ⟨⟨k + 1, t, true, by omega, by push_cast; rfl, rfl, rfl, ht, (by show _ = _; rw [hnext.out, Int.sub_zero]), (fun _ => Htb.out trivial), below_drewN' hbel _, hgs2, hcells.drew _⟩, by simp [intOf]; omega⟩
        | false =>
          by_cases hab2 : a < b
          · have Hx : Hid (t - a = 0) := by show _ = _; have := Hab.out; omega
            go_wp2_with fail
            go_quiet (fail)
            go_wp2_with fail
            go_quiet (fail)
            go_wp2_with fail
            exact ⟨⟨k + 1, t - a, true, by omega, by push_cast; rfl, rfl, rfl, hta, hnext.out.symm, (fun _ => Hx.out), below_drewN' hbel _, hgs2, hcells.drew _⟩, by simp [intOf]; omega⟩
          · have t3 : decide (a < b) = false := by simp; omega
            go_wp2_with fail
            go_quiet (fail)
            go_wp2_with fail
            go_quiet (fail)
            go_wp2_with fail
            exact ⟨⟨k + 1, t - a, false, by omega, by push_cast; rfl, rfl, rfl, hta, hnext.out.symm, (fun h => by cases h), below_drewN' hbel _, hgs2, hcells.drew _⟩, by simp [intOf]; omega⟩
      · have hk5 : k = 5 := by omega
        subst hk5
        have htr : t = r := by rw [Ht.out, ← Hr.out]; rfl
        subst htr
        have hc0 : wr.cell? ⟨g, 0, none⟩ = some (.int .i64 cur) := hcells.g 0 _ rfl
        have hc1 : wr.cell? ⟨g, 1, none⟩ = some (.int .i64 loss) := hcells.g 1 _ rfl
        have hc2 : wr.cell? ⟨g, 2, none⟩ = some (.int .i64 q0) := hcells.g 2 _ rfl
        have hc3 : wr.cell? ⟨g, 3, none⟩ = some (.int .i64 q1) := hcells.g 3 _ rfl
        have hc4 : wr.cell? ⟨g, 4, none⟩ = some (.int .i64 q2) := hcells.g 4 _ rfl
        have hc5 : wr.cell? ⟨g, 5, none⟩ = some (.int .i64 q3) := hcells.g 5 _ rfl
        have hc6 : wr.cell? ⟨g, 6, none⟩ = some (.int .i64 q4) := hcells.g 6 _ rfl
        have hc7 : wr.cell? ⟨g, 7, none⟩ = some (.int .i64 t) := hcells.g 7 _ rfl
        have fi := fun w' (h : Is w' (.slice (some ⟨w.heap.size, 0, none⟩) 5 5) [c0, c1, c2, c3, c4]) => Fits_any w' cur loss q0 q1 q2 q3 q4 t _ _ h
        rw [← Hq.out, HE.out] at fi
        cases tb with
        | true =>
          have hz := Htb.out rfl
          subst hz
          go_wp2_with fail
          go_still_tail 33, (by kernel_rfl)
          change wpList _ _ _ _ _ wr.drew
          have hbd : Below w.heap.size w wr.drew := hbel.drew
          have hcd : FH w.heap.size g wr.drew cur loss q0 q1 q2 q3 q4 0 c0 c1 c2 c3 c4 := hcells
          generalize wr.drew = w5 at *
          go_wp2_with fail
          refine (fi _ hcd.is).mono ?_
          rintro e w6 ⟨rfl, hb6⟩
          go_wp2_with fail
          refine (wakes_any _).mono ?_
          rintro e w7 ⟨rfl, hb7⟩
          go_wp2_with fail
          go_ret
          exact ⟨rfl, (hbd.next hb6).next hb7⟩
        | false =>
          have ht0 := ht.1
          go_wp2_with fail
          go_still_tail 33, (by kernel_rfl)
          change wpList _ _ _ _ _ wr.drew
          have hbd : Below w.heap.size w wr.drew := hbel.drew
          have hcd : FH w.heap.size g wr.drew cur loss q0 q1 q2 q3 q4 t c0 c1 c2 c3 c4 := hcells
          generalize wr.drew = w5 at *
          go_wp2_with fail
          refine (fi _ hcd.is).mono ?_
          rintro e w6 ⟨rfl, hb6⟩
          go_wp2_with fail
          refine (wakes_any _).mono ?_
          rintro e w7 ⟨rfl, hb7⟩
          go_wp2_with fail
          go_ret
          exact ⟨rfl, (hbd.next hb6).next hb7⟩

end Cam
