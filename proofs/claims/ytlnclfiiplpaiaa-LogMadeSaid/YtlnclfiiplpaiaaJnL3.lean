import Derived.Test.YtlnclfiiplpaiaaJnU
/- LogMade: the walk. -/
namespace Cam
open Go Go.RowKit Go.Proofs

theorem Bss.lit1 {B : Nat} {w0 w : World} {a : Option Addr} {n c : Nat} {l : List UInt8} (hsz : w0.heap.size ≤ w.heap.size) (hb : ∀ w', Kept (JS B w0) (w.alloc (.cells #[.slice a n c] 22)) w' → Bs w' (.slice a n c) l) :
    ∀ w', Kept (JS B w0) (w.alloc (.cells #[.slice a n c] 22)) w' → Bss w' (.slice (some ⟨w.heap.size, 0, none⟩) 1 1) [l] := fun w' hk =>
  Bss.mk1 ((hk.block w.heap.size (by simp) (fun e => by have := e.2; omega)).trans (heap_new (w := w) rfl)) (hb w' hk)

set_option maxRecDepth 100000 in
set_option maxHeartbeats 6400000 in
theorem LogMade_walk (w : World) (v0 v1 v2 : Value) (s r : List UInt8) (picks : List Int) (h0 : Bs w v0 s) (h1 : Bs w v1 r) (h2 : Is w v2 picks) :
    Calls Try.prog 8 #[v0, v1, v2] w fun e w' => e = .returned (.bool true) ∧ Below w.heap.size w w' := by
  obtain ⟨a0, c0, rfl, hc0, hm0⟩ := h0.shape
  obtain ⟨a1, c1, rfl, hc1, hm1⟩ := h1.shape
  obtain ⟨a2, c2, rfl, hc2, hm2⟩ := h2.shape
  obtain ⟨n0, hn0⟩ : ∃ z, z = s.length := ⟨_, rfl⟩
  obtain ⟨n1, hn1⟩ : ∃ z, z = r.length := ⟨_, rfl⟩
  obtain ⟨n2, hn2⟩ : ∃ z, z = picks.length := ⟨_, rfl⟩
  rw [← hn0] at h0 hc0 ⊢
  rw [← hn1] at h1 hc1 ⊢
  rw [← hn2] at h2 hc2 ⊢
  have H0 := Lib.hid h0
  have H1 := Lib.hid h1
  have H2 := Lib.hid h2
  have HN0 := Lib.hid hn0
  have HN1 := Lib.hid hn1
  have HN2 := Lib.hid hn2
  clear h0 h1 h2 hn0 hn1 hn2
  by_cases q0 : (300 : Int) < n0
  · go_enter Try.func8, Try.ntmps8
    go_wp2_with fail
    go_ret
    exact ⟨rfl, Below.refl _ _⟩
  have q0' : decide (300 < n0) = false := by simp; omega
  by_cases q1 : (2000 : Int) < n1
  · go_enter Try.func8, Try.ntmps8
    go_wp2_with fail
    go_ret
    exact ⟨rfl, Below.refl _ _⟩
  have q1' : decide (2000 < n1) = false := by simp; omega
  by_cases q2 : (2000 : Int) < n2
  · go_enter Try.func8, Try.ntmps8
    go_wp2_with fail
    go_ret
    exact ⟨rfl, Below.refl _ _⟩
  have q2' : decide (2000 < n2) = false := by simp; omega
  have HSL : Hid (s.length ≤ 300 ∧ r.length ≤ 2000) := by have := HN0.out; have := HN1.out; exact ⟨by omega, by omega⟩
  have HR6 : Hid ((rowsOf 1 0 s).length ≤ 6 ∧ (recRows 1 1 [r]).length ≤ 33) := by
    have h5 := HSL.out
    refine ⟨?_, ?_⟩
    · rw [rowsOf_length]; unfold needN; omega
    · rw [recRows_one, rowsOf_length]; unfold needN; omega
  have hn := New_j w 300 (by omega) (by omega)
  rw [show ((300 : Nat) : Int) = 300 from rfl] at hn
  go_enter Try.func8, Try.ntmps8
  go_wp2_with fail
  refine hn.mono ?_
  clear hn
  rintro e w1 ⟨g, rfl, hd1, hb1⟩
  have HB1 := Lib.hid hb1
  have hop := Open_j w1 g 300 _ hd1 rfl (by omega) hb1.size
  rw [openT_new] at hop
  clear hd1 hb1
  go_wp2_with fail
  refine hop.mono ?_
  clear hop
  rintro e w2 ⟨gl, rfl, hj2, _, hb2⟩
  have HB2 := Lib.hid (HB1.out.next hb2)
  have hbg := Begin_on (B := w.heap.size) w2 w2 g gl 300 _ _ hj2 (Below.refl _ _) HB2.out.size (.slice a0 n0 c0) s (fun w' hk => H0.out.mono (arg_below HB2.out hk HB2.out.size)) (OnD.new 300) (.inr rfl) (by decide) (by have := HSL.out; omega) (by show (rowsOf 1 0 s).length ≤ _; have := HR6.out; omega) (by decide)
  clear hj2 hb2
  go_wp2_with fail
  (with_reducible refine hbg.mono ?_)
  clear hbg
  rintro e w3 ⟨rfl, hj3, hb3⟩
  have HB3 := Lib.hid (HB2.out.trans hb3)
  have HBl := Lib.hid (HB3.out.alloc HB3.out.size (.cells #[.slice a1 n1 c1] 22))
  have hj3' : JM w.heap.size w3 g gl 300 (dLaid (DK.new 300) (first1 300 s)) ⟨0, ⟨1, s, [], (rowsOf 1 0 s).length⟩, true⟩ := hj3
  have hap := Append_on (B := w.heap.size) w3 (w3.alloc (.cells #[.slice a1 n1 c1] 22)) g gl 300 _ _ hj3' ((Below.refl w3.heap.size w3).alloc (Nat.le_refl _) _) HB3.out.size (.slice (some ⟨w3.heap.size, 0, none⟩) 1 1) [r] (Bss.lit1 (Nat.le_refl _) (fun w' hk => H1.out.mono (arg_below HBl.out hk HBl.out.size))) ((OnD.new 300).laid _) rfl (Nat.zero_le _) (by show (rowsOf 1 0 s).length + (recRows 1 1 [r]).length ≤ _; have := HR6.out; omega) (by show (1 : Nat) ≤ _; decide) (by show (0 : Nat) ≤ _; decide) (fun x hx => by have := HSL.out.2; simp at hx; rw [hx]; omega) (by simp) (by show (0 : Nat) ≤ _; decide)
  clear hj3 hj3' hb3
  go_wp2_with fail
  (with_reducible refine hap.mono ?_)
  clear hap
  rintro e w4 ⟨rfl, hj4, hb4⟩
  have HB4 := Lib.hid (HBl.out.trans hb4)
  obtain ⟨D4, hD4⟩ : ∃ z, z = dPuts (dLaid (DK.new 300) (first1 300 s)) (rowsOf 1 0 s).length (recRows 1 1 [r]) := ⟨_, rfl⟩
  have hdj : DJ w.heap.size w4 g 300 D4 := by
    have h9 := hj4.disk
    rw [hD4, show (rowsOf 1 0 s).length = 0 + (rowsOf 1 0 s).length from (Nat.zero_add _).symm]
    exact h9
  have HD4 := Lib.hid hD4
  have hcr := Crash_j (B := w.heap.size) w4 w4 g 300 D4 hdj (Below.refl _ _) HB4.out.size (.slice a2 n2 c2) picks (fun w' hk => H2.out.mono (arg_below HB4.out hk HB4.out.size))
  clear hj4 hb4 hD4 hdj
  go_wp2_with fail
  (with_reducible refine hcr.mono ?_)
  clear hcr
  rintro e x7 ⟨rfl, hd7, hb12⟩
  have HBx7 := Lib.hid (HB4.out.trans hb12)
  have hst2 := Start_j (B := w.heap.size) x7 g 300 _ hd7 HBx7.out.size
  clear hd7 hb12
  go_wp2_with fail
  (with_reducible refine hst2.mono ?_)
  clear hst2
  rintro e x8 ⟨rfl, hd8, hb13⟩
  have HBx8 := Lib.hid (HBx7.out.trans hb13)
  have hmade := made_open HSL.out.1 HSL.out.2 picks
  obtain ⟨q, fin, hq, hopn, hall⟩ := hmade
  have hcrun := crash_run (D := dLaid (DK.new 300) (first1 300 s)) ((OnD.new 300).laid _) rfl (at_ := (rowsOf 1 0 s).length) (L := recRows 1 1 [r]) (fun i hi => by
    have h6 := HR6.out
    have h7 := (first1_holds (n := 300) (s := s) (by omega)).zeros i (by show (rowsOf 1 0 s).length + 0 + i < 300 / 2; omega)
    rw [show 0 + ((rowsOf 1 0 s).length + (recRows 1 1 []).length) = (rowsOf 1 0 s).length by simp [recRows]] at h7
    exact h7) (by show _ ≤ (first1 300 s).length; rw [first1_length]; have := HR6.out; omega) picks
  rw [HD4.out, hcrun] at hd8
  have hop := Open_j (B := w.heap.size) x8 g 300 _ hd8 rfl (by omega) HBx8.out.size
  rw [show (puts (dLaid (DK.new 300) (first1 300 s)).now (rowsOf 1 0 s).length (mixL (pickN picks) (recRows 1 1 [r]))) = puts (first1 300 s) (rowsOf 1 0 s).length (mixL (pickN picks) (recRows 1 1 [r])) from rfl, hopn] at hop
  have HALL := Lib.hid hall
  clear hcrun hopn hall hd8 hb13
  go_wp2_with fail
  (with_reducible refine hop.mono ?_)
  clear hop
  rintro e y1 ⟨gm, rfl, hj6, _, hb6⟩
  have HBy1 := Lib.hid (HBx8.out.next hb6)
  have HJ6 := Lib.hid hj6
  have hsn := Snap_j y1 g gm 300 _ _ HJ6.out (by show s.length ≤ _; have := HSL.out; omega)
  clear hj6 hb6
  go_wp2_with fail
  (with_reducible refine hsn.mono ?_)
  clear hsn
  rintro e y2 ⟨u2, rfl, hu2, hb7⟩
  have HBy2 := Lib.hid (HBy1.out.next hb7)
  have HJ7 := Lib.hid (HJ6.out.below hb7)
  have hby := Bytes_any y2 u2 (.slice a0 n0 c0) s s hu2.bs (H0.out.mono HBy2.out)
  rw [decide_eq_true rfl] at hby
  clear hu2 hb7
  go_wp2_with fail
  (with_reducible refine hby.mono ?_)
  clear hby
  rintro e y3 ⟨rfl, hb8⟩
  have HBy3 := Lib.hid (HBy2.out.next hb8)
  have HJ8 := Lib.hid (HJ7.out.below hb8)
  obtain ⟨R, hR⟩ : ∃ z, z = [r].take q := ⟨_, rfl⟩
  have HR := Lib.hid hR
  have hRl : R.length = q := by rw [hR, List.length_take]; simp; omega
  obtain ⟨D9, HJ9⟩ : ∃ D9, Hid (JM w.heap.size y3 g gm 300 D9 ⟨0, ⟨1, s, R, fin⟩, false⟩) := ⟨_, by rw [hR]; exact HJ8⟩
  have hrc := Recs_j y3 g gm 300 _ _ HJ9.out (fun x hx => by rw [hR] at hx; have := List.mem_of_mem_take hx; simp at this; rw [this]; have := HSL.out; omega) (by show R.length ≤ _; omega)
  clear hb8 hR
  go_wp2_with fail
  (with_reducible refine hrc.mono ?_)
  clear hrc
  rintro e y4 ⟨u4, rfl, hu4, hb9⟩
  obtain ⟨a4, c4, rfl, _, _⟩ := hu4.bss.len
  have HBy4 := Lib.hid (HBy3.out.next hb9)
  have HJ10 := Lib.hid (HJ9.out.below hb9)
  rw [show R.length = q from hRl]
  have hq' : decide ((1 : Int) < q) = false := by simp; omega
  clear hu4 hb9
  go_wp2_with fail
  obtain ⟨m, hm⟩ : ∃ z, z = (rowsOf 1 1 r).length := ⟨_, rfl⟩
  have HM := Lib.hid hm
  have hm33 : m ≤ 33 := by have := HR6.out.2; rw [recRows_one] at this; omega
  clear hm hRl
  go_loopw [11, 12] (fun va i wr => ∃ (k : Nat) (bl : Bool), k ≤ m ∧ i = .int .i64 k ∧ va = .bool bl ∧ Hid (bl = true ↔ ∀ j, j < k → pickN picks j = 64) ∧ JM w.heap.size wr g gm 300 D9 ⟨0, ⟨1, s, R, fin⟩, false⟩ ∧ Below w.heap.size w wr) (fun _ i _ => m - (intOf i).toNat)
  case atStart => exact ⟨0, true, by omega, rfl, rfl, ⟨fun _ j hj => absurd hj (Nat.not_lt_zero j), fun _ => rfl⟩, HJ10.out, HBy4.out⟩
  case round =>
    obtain ⟨k, bl, hk, rfl, rfl, HA, hj, hb⟩ := hrel
    have HJ := Lib.hid hj
    have HB := Lib.hid hb
    have hrw := rows_any wr n1 (by omega)
    rw [show needN (n1 + 21) = m by rw [HM.out, rowsOf_length, HN1.out]] at hrw
    clear hj hb
    by_cases hlt : k < m
    · have hk0 : (0 : Int) ≤ k ∧ (k : Int) < m := by omega
      go_wp2_with fail
      (with_reducible refine hrw.mono ?_)
      clear hrw
      rintro e w' ⟨rfl, rfl⟩
      cases bl with
      | false =>
        go_wp2_with fail
        exact ⟨⟨k + 1, false, by omega, by push_cast; rfl, rfl, ⟨fun h => by simp at h, fun h => by have := HA.out.2 (fun j hj => h j (by omega)); simp at this⟩, HJ.out, HB.out⟩, by simp [intOf]; omega⟩
      | true =>
        by_cases hk2 : k < n2
        · have hk3 : (k : Int) < n2 := by omega
          have hkp : k < picks.length := by have := HN2.out; omega
          obtain ⟨b9, o9, rfl, hlt9, hcell⟩ := (H2.out.mono HB.out).at (by omega)
          have hc := hcell k hkp
          obtain ⟨p9, hp9⟩ : ∃ z, z = picks[k] := ⟨_, rfl⟩
          rw [← hp9] at hc
          have HP9 := Lib.hid hp9
          clear hcell hp9
          go_wp2_with fail
          have hpk : pickN picks k = (min (max (((p9.tmod 66) + 66).tmod 66 - 1) 0) 64).toNat := by unfold pickN; rw [List.getElem?_eq_getElem hkp, HP9.out]
          have hb1 := Int.tmod_lt_of_pos p9 (by omega : (0 : Int) < 66)
          have hb2 : -66 < p9.tmod 66 := by
            rw [Int.tmod_eq_emod]
            split <;> omega
          obtain ⟨r9, hr9⟩ : ∃ z, p9.tmod 66 = z := ⟨_, rfl⟩
          rw [hr9] at hb1 hb2 hpk ⊢
          have hb3 := Int.tmod_lt_of_pos (r9 + 66) (by omega : (0 : Int) < 66)
          have hb4 := Int.tmod_nonneg 66 (by omega : (0 : Int) ≤ r9 + 66)
          rw [show wrap64 (r9 + 66) = r9 + 66 by unfold wrap64; omega]
          have h65 : (((r9 + 66).tmod 66 == 65) = true) ↔ pickN picks k = 64 := by rw [hpk, beq_iff_eq]; omega
          have hall := HA.out.1 (by simp)
          refine ⟨⟨k + 1, _, by omega, by push_cast; rfl, rfl, ⟨fun h j hj => ?_, fun h => h65.2 (h k (by omega))⟩, HJ.out, HB.out⟩, by simp [intOf]; omega⟩
          rcases Nat.lt_or_ge j k with hjk | hjk
          · exact hall j hjk
          · obtain rfl : j = k := by omega
            exact h65.1 h
        · have hk3 : decide ((k : Int) < n2) = false := by simp; omega
          have hpk : pickN picks k = 0 := by unfold pickN; rw [List.getElem?_eq_none (by have := HN2.out; omega)]
          go_wp2_with fail
          exact ⟨⟨k + 1, false, by omega, by push_cast; rfl, rfl, ⟨fun h => by simp at h, fun h => by have := h k (by omega); omega⟩, HJ.out, HB.out⟩, by simp [intOf]; omega⟩
    · obtain rfl : k = m := by omega
      go_wp2_with fail
      (with_reducible refine hrw.mono ?_)
      clear hrw
      rintro e w' ⟨rfl, rfl⟩
      rcases (by omega : q = 0 ∨ q = 1) with rfl | rfl
      · obtain rfl : R = [] := by rw [HR.out]; rfl
        cases bl with
        | true =>
          exfalso
          have := HALL.out (fun j hj => HA.out.1 rfl j (by have := HM.out; omega))
          omega
        | false =>
          have hrc := Recs_j wr g gm 300 _ _ HJ.out (fun x hx => by simp at hx) (by show (0 : Nat) ≤ _; decide)
          go_wp2_with fail
          (with_reducible refine hrc.mono ?_)
          clear hrc
          rintro e z1 ⟨u5, rfl, hu5, hb5⟩
          obtain ⟨a5, c5, rfl, _, _⟩ := hu5.bss.len
          have HZ1 := Lib.hid (HB.out.next hb5)
          rw [show ([] : List (List UInt8)).length = 0 from rfl]
          have hwk := wakes_any z1
          clear hu5 hb5
          go_wp2_with fail
          (with_reducible refine hwk.mono ?_)
          clear hwk
          rintro e z2 ⟨rfl, hb6⟩
          have HZ2 := Lib.hid (HZ1.out.next hb6)
          clear hb6
          go_wp2_with fail
          go_ret
          exact ⟨rfl, HZ2.out⟩
      · obtain rfl : R = [r] := by rw [HR.out]; rfl
        have hrc := Recs_j wr g gm 300 _ _ HJ.out (fun x hx => by simp at hx; rw [hx]; have := HSL.out; omega) (by show (1 : Nat) ≤ _; decide)
        go_wp2_with fail
        (with_reducible refine hrc.mono ?_)
        clear hrc
        rintro e z1 ⟨u5, rfl, hu5, hb5⟩
        obtain ⟨a5, c5, rfl, _, _⟩ := hu5.bss.len
        have HZ1 := Lib.hid (HB.out.next hb5)
        have HJ2 := Lib.hid (HJ.out.below hb5)
        rw [show ([r] : List (List UInt8)).length = 1 from rfl]
        have hrc2 := Recs_j z1 g gm 300 _ _ HJ2.out (fun x hx => by simp at hx; rw [hx]; have := HSL.out; omega) (by show (1 : Nat) ≤ _; decide)
        clear hu5 hb5
        go_wp2_with fail
        (with_reducible refine hrc2.mono ?_)
        clear hrc2
        rintro e z2 ⟨u6, rfl, hu6, hb6⟩
        obtain ⟨a6, c6, rfl, _, _⟩ := hu6.bss.len
        have HZ2 := Lib.hid (HZ1.out.next hb6)
        obtain ⟨_, b6, o6, rfl, hF6, hlt6, hcx⟩ := hu6.cellAt (by simp)
        obtain ⟨s6, hs6, ho6⟩ := hcx 0 (by simp)
        obtain ⟨s1, s2, s3⟩ := s6
        have hcell : z2.cell? ⟨b6, o6, none⟩ = some (.slice s1 s2 s3) := hs6
        have hby := Bytes_any z2 (.slice s1 s2 s3) (.slice a1 n1 c1) r r ho6.bs (H1.out.mono HZ2.out)
        rw [decide_eq_true rfl] at hby
        rw [show ([r] : List (List UInt8)).length = 1 from rfl]
        clear hu6 hb6 hcx hs6 ho6 hF6
        go_wp2_with fail
        (with_reducible refine hby.mono ?_)
        clear hby
        rintro e z3 ⟨rfl, hb7⟩
        have HZ3 := Lib.hid (HZ2.out.next hb7)
        have hwk := wakes_any z3
        clear hb7
        go_wp2_with fail
        (with_reducible refine hwk.mono ?_)
        clear hwk
        rintro e z4 ⟨rfl, hb8⟩
        have HZ4 := Lib.hid (HZ3.out.next hb8)
        clear hb8
        go_wp2_with fail
        go_ret
        exact ⟨rfl, HZ4.out⟩
end Cam
