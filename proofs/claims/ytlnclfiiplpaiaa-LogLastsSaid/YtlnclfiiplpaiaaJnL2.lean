import Derived.Test.YtlnclfiiplpaiaaJnF2
/- LogAgain: the walk. -/
namespace Cam
open Go Go.RowKit Go.Proofs

theorem arg_below {B : Nat} {W w w0 w' : World} (hb : Below B W w) (hk : Kept (JS B w0) w w') (hB : B ≤ w.heap.size) : Below B W w' := hb.trans (hk.below (fun k hk1 e => by have := e.1; omega) hB)
theorem recRows_300 {g : Nat} : ∀ (rs : List (List UInt8)) (k : Nat), (∀ r ∈ rs, r.length ≤ 300) → (recRows g k rs).length ≤ 6 * rs.length
  | [], _, _ => by simp [recRows]
  | r :: rs, k, h => by
    have ih := recRows_300 (g := g) rs (k + 1) (fun x hx => h x (by simp [hx]))
    have h1 : (rowsOf g k r).length ≤ 6 := by rw [rowsOf_length]; unfold needN; have := h r (by simp); omega
    rw [recRows, List.length_append, List.length_cons]
    omega
/-- a first generation and its records, on a disk of n blocks -/
def first2 (n : Nat) (s : List UInt8) (rs : List (List UInt8)) : List (List UInt8) := puts (first1 n s) (rowsOf 1 0 s).length (recRows 1 1 rs)
theorem first2_length (n : Nat) (s : List UInt8) (rs : List (List UInt8)) : (first2 n s rs).length = n := by unfold first2; rw [puts_length, first1_length]
theorem first2_holds {n : Nat} {s : List UInt8} {rs : List (List UInt8)} (hfit : (rowsOf 1 0 s).length + (recRows 1 1 rs).length ≤ n / 2) : Holds (first2 n s rs) 0 (n / 2) 1 s rs := by
  have h1 := first1_holds (n := n) (s := s) (by omega)
  have h2 : Holds (puts (first1 n s) (0 + ((rowsOf 1 0 s).length + 0)) (recRows 1 (0 + 1) rs)) 0 (n / 2) 1 s rs := append_holds (qs := rs) h1 (by rw [first1_length]; omega) (by show (rowsOf 1 0 s).length + 0 + (recRows 1 (0 + 1) rs).length ≤ n / 2; rw [Nat.zero_add, Nat.add_zero]; exact hfit)
  rw [Nat.zero_add, Nat.add_zero, Nat.zero_add] at h2
  exact h2
theorem first2_open {n : Nat} {s : List UInt8} {rs : List (List UInt8)} (hfit : (rowsOf 1 0 s).length + (recRows 1 1 rs).length ≤ n / 2) (hs : s.length ≤ 65536) (hr : ∀ r ∈ rs, r.length ≤ 65536) (hn : rs.length < 2147483647) :
    openT n (first2 n s rs) = ⟨0, ⟨1, s, rs, (rowsOf 1 0 s).length + (recRows 1 1 rs).length⟩, false⟩ := by
  have h3 := (first2_holds hfit).read (by decide) (by decide) hs hr hn
  have h4 : readL (halfOf (first2 n s rs) (n / 2) (n / 2)) = ⟨0, [], [], 0⟩ := by
    unfold first2
    rw [puts_other (by rw [first1_length]; omega) (by omega), first1_other (by omega)]
    exact readL_zeros _
  rw [openT_is h3 h4, if_pos (by simp)]

set_option maxRecDepth 100000 in
set_option maxHeartbeats 6400000 in
theorem LogAgain_walk (w : World) (v0 v1 v2 : Value) (s : List UInt8) (rs : List (List UInt8)) (picks : List Int) (h0 : Bs w v0 s) (h1 : Bss w v1 rs) (h2 : Is w v2 picks) :
    Calls Try.prog 7 #[v0, v1, v2] w fun e w' => e = .returned (.bool true) ∧ Below w.heap.size w w' := by
  obtain ⟨a0, c0, rfl, hc0, hm0⟩ := h0.shape
  obtain ⟨a1, c1, rfl, hc1, hm1⟩ := h1.len
  obtain ⟨a2, c2, rfl, hc2, hm2⟩ := h2.shape
  obtain ⟨n0, hn0⟩ : ∃ z, z = s.length := ⟨_, rfl⟩
  obtain ⟨n1, hn1⟩ : ∃ z, z = rs.length := ⟨_, rfl⟩
  obtain ⟨n2, hn2⟩ : ∃ z, z = picks.length := ⟨_, rfl⟩
  rw [← hn0] at h0 hc0 ⊢
  rw [← hn1] at h1 hc1 ⊢
  rw [← hn2] at h2 hc2 ⊢
  have H0 := Lib.hid h0
  have H1 := Lib.hid h1
  have H2 := Lib.hid h2
  have HN0 := Lib.hid hn0
  have HN1 := Lib.hid hn1
  have HN2 := Lib.hid hn2
  have hfew := few_any w _ _ h1
  clear h0 h1 h2 hn0 hn1 hn2
  by_cases q0 : (2000 : Int) < n0
  · go_enter Try.func7, Try.ntmps7
    go_wp2_with fail
    go_ret
    exact ⟨rfl, Below.refl _ _⟩
  have q0' : decide (2000 < n0) = false := by simp; omega
  go_enter Try.func7, Try.ntmps7
  go_wp2_with fail
  refine hfew.mono ?_
  clear hfew
  rintro e w' ⟨bf, rfl, hbf, rfl⟩
  have HBF := Lib.hid hbf
  clear hbf
  cases bf with
  | false =>
    go_wp2_with fail
    go_ret
    exact ⟨rfl, Below.refl _ _⟩
  | true =>
    by_cases q2 : (2000 : Int) < n2
    · go_wp2_with fail
      go_ret
      exact ⟨rfl, Below.refl _ _⟩
    have q2' : decide (2000 < n2) = false := by simp; omega
    have hfw := HBF.out rfl
    have HFW := Lib.hid hfw
    have hsl : s.length ≤ 2000 := by have := HN0.out; omega
    have HR6 : Hid ((rowsOf 1 0 s).length + (recRows 1 1 rs).length ≤ 600 / 2) := by
      show _ ≤ _
      have h5 := recRows_300 (g := 1) rs 1 hfw.2
      have h6 := hfw.1
      rw [rowsOf_length]
      unfold needN
      omega
    have HSL := Lib.hid hsl
    have kc := fun (w : World) (C : Array Value) (n c g : Nat) (hg : g = w.heap.size) => Joins.run_convert_bytes_const_at (P := Try.prog) w 22 5 C n c g hg Try.underlying22 Try.underlying5
    have hn := New_j w 600 (by omega) (by omega)
    rw [show ((600 : Nat) : Int) = 600 from rfl] at hn
    clear hfw hsl
    go_wp2_with fail
    refine hn.mono ?_
    clear hn
    rintro e w1 ⟨g, rfl, hd1, hb1⟩
    have HB1 := Lib.hid hb1
    have hop := Open_j w1 g 600 _ hd1 rfl (by omega) hb1.size
    rw [openT_new] at hop
    clear hd1 hb1
    go_wp2_with fail
    refine hop.mono ?_
    clear hop
    rintro e w2 ⟨gl, rfl, hj2, _, hb2⟩
    have HB2 := Lib.hid (HB1.out.next hb2)
    have hbg := Begin_on (B := w.heap.size) w2 w2 g gl 600 _ _ hj2 (Below.refl _ _) HB2.out.size (.slice a0 n0 c0) s (fun w' hk => H0.out.mono (arg_below HB2.out hk HB2.out.size)) (OnD.new 600) (.inr rfl) (by decide) (by have := HSL.out; omega) (by show (rowsOf 1 0 s).length ≤ _; have := HR6.out; omega) (by decide)
    clear hj2 hb2
    go_wp2_with fail
    (with_reducible refine hbg.mono ?_)
    clear hbg
    rintro e w3 ⟨rfl, hj3, hb3⟩
    have HB3 := Lib.hid (HB2.out.trans hb3)
    have hj3' : JM w.heap.size w3 g gl 600 (dLaid (DK.new 600) (first1 600 s)) ⟨0, ⟨1, s, [], (rowsOf 1 0 s).length⟩, true⟩ := hj3
    have hap := Append_on (B := w.heap.size) w3 w3 g gl 600 _ _ hj3' (Below.refl _ _) HB3.out.size (.slice a1 n1 c1) rs (fun w' hk => H1.out.mono (arg_below HB3.out hk HB3.out.size)) ((OnD.new 600).laid _) rfl (Nat.zero_le _) (by show (rowsOf 1 0 s).length + (recRows 1 1 rs).length ≤ _; exact HR6.out) (by show (1 : Nat) ≤ _; decide) (by show (0 : Nat) ≤ _; decide) (fun r hr => by have := HFW.out.2 r hr; omega) (by have := HFW.out.1; omega) (by show (0 : Nat) ≤ _; decide)
    clear hj3 hj3' hb3
    go_wp2_with fail
    (with_reducible refine hap.mono ?_)
    clear hap
    rintro e w4 ⟨rfl, hj4, hb4⟩
    have HB4 := Lib.hid (HB3.out.trans hb4)
    have hsy := Sync_on_j w4 g gl 600 _ _ hj4 HB4.out.size (((OnD.new 600).laid _).puts _ _)
    clear hj4 hb4
    go_wp2_with fail
    (with_reducible refine hsy.mono ?_)
    clear hsy
    rintro e w5 ⟨rfl, hj5, hb5⟩
    have HB5 := Lib.hid (HB4.out.trans hb5)
    obtain ⟨D5, hD5⟩ : ∃ z, z = dLaid (DK.new 600) (first2 600 s rs) := ⟨_, rfl⟩
    have hdj : DJ w.heap.size w5 g 600 D5 := by
      have h9 := hj5.disk
      have e9 : puts (first1 600 s) (0 + (rowsOf 1 0 s).length) (recRows 1 (0 + 1) rs) = first2 600 s rs := by rw [Nat.zero_add, Nat.zero_add]; rfl
      rw [hD5, ← e9]
      exact h9
    have HDJ := Lib.hid hdj
    have HON : Hid (OnD D5 ∧ D5.now = first2 600 s rs ∧ D5.op = []) := by rw [hD5]; exact ⟨(OnD.new 600).laid _, rfl, rfl⟩
    clear hj5 hb5 hdj hD5
    go_wp2_with fail
    go_loopw [10] (fun i wr => ∃ (k : Nat) (Dk : DK), k ≤ 3 ∧ i = .int .i64 k ∧ DJ w.heap.size wr g 600 Dk ∧ Hid (OnD Dk ∧ Dk.now = first2 600 s rs ∧ Dk.op = []) ∧ Below w.heap.size w wr) (fun i _ => 3 - (intOf i).toNat)
    case atStart => exact ⟨0, D5, by omega, rfl, HDJ.out, HON, HB5.out⟩
    case round =>
      clear HDJ HON HB5
      obtain ⟨k, Dk, hk, rfl, hdj, HON, hbel⟩ := hrel
      have HDJ := Lib.hid hdj
      have HB := Lib.hid hbel
      clear hdj hbel
      by_cases hlt : k < 3
      · have hk0 : (0 : Int) ≤ k ∧ (k : Int) < 3 := by omega
        have hop := Open_j (B := w.heap.size) wr g 600 Dk HDJ.out HON.out.1.off (by omega) HB.out.size
        rw [HON.out.2.1, first2_open HR6.out (by have := HSL.out; omega) (fun r hr => by have := HFW.out.2 r hr; omega) (by have := HFW.out.1; omega)] at hop
        go_wp2_with fail
        (with_reducible refine hop.mono ?_)
        clear hop
        rintro e x1 ⟨gm, rfl, hj6, _, hb6⟩
        have HBx1 := Lib.hid (HB.out.next hb6)
        have HJ6 := Lib.hid hj6
        have hge := Gen_j x1 g gm 600 _ _ hj6
        rw [show (((⟨0, ⟨1, s, rs, (rowsOf 1 0 s).length + (recRows 1 1 rs).length⟩, false⟩ : LT).half.gen : Nat) : Int) = 1 from rfl] at hge
        clear hj6 hb6
        go_wp2_with fail
        (with_reducible refine hge.mono ?_)
        clear hge
        rintro e w' ⟨rfl, rfl⟩
        have hsn := Snap_j x1 g gm 600 _ _ HJ6.out (by show s.length ≤ _; have := HSL.out; omega)
        go_wp2_with fail
        (with_reducible refine hsn.mono ?_)
        clear hsn
        rintro e x2 ⟨u2, rfl, hu2, hb7⟩
        have HBx2 := Lib.hid (HBx1.out.next hb7)
        have HJ7 := Lib.hid (HJ6.out.below hb7)
        have hby := Bytes_any x2 u2 (.slice a0 n0 c0) s s hu2.bs (H0.out.mono HBx2.out)
        rw [decide_eq_true rfl] at hby
        clear hu2 hb7
        go_wp2_with fail
        (with_reducible refine hby.mono ?_)
        clear hby
        rintro e x3 ⟨rfl, hb8⟩
        have HBx3 := Lib.hid (HBx2.out.next hb8)
        have HJ8 := Lib.hid (HJ7.out.below hb8)
        have hrc := Recs_j x3 g gm 600 _ _ HJ8.out (fun r hr => by have := HFW.out.2 r hr; omega) (by show rs.length ≤ _; have := HFW.out.1; omega)
        clear hb8
        go_wp2_with fail
        (with_reducible refine hrc.mono ?_)
        clear hrc
        rintro e x4 ⟨u4, rfl, hu4, hb9⟩
        have HBx4 := Lib.hid (HBx3.out.next hb9)
        have HJ9 := Lib.hid (HJ8.out.below hb9)
        have hrw := Rows_any x4 u4 (.slice a1 n1 c1) rs rs hu4.bss (H1.out.mono HBx4.out) (by have := HFW.out.1; omega)
        rw [decide_eq_true rfl] at hrw
        clear hu4 hb9
        go_wp2_with fail
        (with_reducible refine hrw.mono ?_)
        clear hrw
        rintro e x5 ⟨rfl, hb10⟩
        have HBx5 := Lib.hid (HBx4.out.next hb10)
        have HJ10 := Lib.hid (HJ9.out.below hb10)
        have hlit : Below x5.heap.size x5 ((x5.alloc (.cells #[.int .u8 120] 5 (1, 2))).alloc (.cells #[.slice (some ⟨x5.heap.size, 0, none⟩) 1 1] 22)) := ((Below.refl x5.heap.size x5).alloc (Nat.le_refl _) _).alloc (by simp) _
        have HBx6 := Lib.hid (HBx5.out.next hlit)
        have HJ11 := Lib.hid (HJ10.out.below hlit)
        have hst := Append_state_j _ g gm 600 _ _ (HJ10.out.below hlit) rfl (.slice (some ⟨x5.heap.size + 1, 0, none⟩) 1 1)
        clear hb10 hlit
        go_wp2_with fail
        (with_reducible refine hst.mono ?_)
        clear hst
        rintro e w' ⟨rfl, rfl⟩
        obtain ⟨x6, hx6⟩ : ∃ z, z = ((x5.alloc (.cells #[.int .u8 120] 5 (1, 2))).alloc (.cells #[.slice (some ⟨x5.heap.size, 0, none⟩) 1 1] 22)) := ⟨_, rfl⟩
        rw [← hx6] at HBx6 HJ11 ⊢
        clear hx6
        have hcr := Crash_j (B := w.heap.size) x6 x6 g 600 Dk HJ11.out.disk (Below.refl _ _) HBx6.out.size (.slice a2 n2 c2) picks (fun w' hk => H2.out.mono (arg_below HBx6.out hk HBx6.out.size))
        go_wp2_with fail
        (with_reducible refine hcr.mono ?_)
        clear hcr
        rintro e x7 ⟨rfl, hd7, hb12⟩
        have HBx7 := Lib.hid (HBx6.out.trans hb12)
        have hst2 := Start_j (B := w.heap.size) x7 g 600 _ hd7 HBx7.out.size
        clear hd7 hb12
        go_wp2_with fail
        (with_reducible refine hst2.mono ?_)
        clear hst2
        rintro e x8 ⟨rfl, hd8, hb13⟩
        have HBx8 := Lib.hid (HBx7.out.trans hb13)
        have HD8 := Lib.hid hd8
        clear hd8 hb13
        go_wp2_with fail
        have hc := crash_nothing HON.out.1 HON.out.2.2 picks
        exact ⟨⟨k + 1, _, by omega, by push_cast; rfl, HD8.out, ⟨hc.1, hc.2.1.trans HON.out.2.1, hc.2.2⟩, HBx8.out⟩, by simp [intOf]; omega⟩
      · obtain rfl : k = 3 := by omega
        have hwk := wakes_any wr
        go_wp2_with fail
        (with_reducible refine hwk.mono ?_)
        clear hwk
        rintro e w6 ⟨rfl, hb6⟩
        have HB6 := Lib.hid (HB.out.next hb6)
        clear hb6
        go_wp2_with fail
        go_ret
        exact ⟨rfl, HB6.out⟩
end Cam
