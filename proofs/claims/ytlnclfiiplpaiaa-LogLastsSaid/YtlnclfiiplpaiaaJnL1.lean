import Derived.Test.YtlnclfiiplpaiaaJnW
import Derived.Test.YtlnclfiiplpaiaaMk
/- LogFull: the walk. -/
namespace Cam
open Go Go.RowKit Go.Proofs

theorem rows_any (w : World) (m : Nat) (hm : m ≤ 1000000) :
    Calls Try.prog 25 #[.int .i64 (m : Int)] w fun e w' => e = .returned (.int .i64 (needN (m + 21) : Nat)) ∧ w = w' := by
  have h0 : (0 : Int) ≤ m ∧ (m : Int) ≤ 1000000 := by omega
  have HN : Hid (((needN (m + 21) : Nat) : Int) = ((m : Int) + 21 + 61) / 62) := by show _ = _; unfold needN; omega
  clear hm
  go_enter Try.func25, Try.ntmps25
  go_wp2_with fail
  go_ret
  refine ⟨?_, rfl⟩
  show Ending.returned (.int .i64 (((m : Int) + 21 + 61) / 62)) = _
  rw [HN.out]
theorem recRows_one (g k : Nat) (r : List UInt8) : recRows g k [r] = rowsOf g k r := by rw [recRows, recRows, List.append_nil]
theorem Bss.lit {w0 w : World} {B : Nat} {a : Option Addr} {n c : Nat} {l : List UInt8} (h : OwnB 5 w w0.heap.size (.slice a n c) l) (hsz : w0.heap.size ≤ w.heap.size) : ∀ w', Kept (JS B w0) (w.alloc (.cells #[.slice a n c] 22)) w' → Bss w' (.slice (some ⟨w.heap.size, 0, none⟩) 1 1) [l] := by
  intro w' hk
  have h1 := (hk.block w.heap.size (by simp) (fun e => by
    have := e.2
    omega)).trans (heap_new (w := w) rfl)
  refine Bss.mk1 h1 ?_
  have hb : Bs (w.alloc (.cells #[.slice a n c] 22)) (.slice a n c) l := h.bs.alloc _
  refine hb.kept1 hk (fun hne k hi hs => ?_)
  obtain ⟨g9, c9, e9, _, _, hge, _⟩ := h.form (by cases l; exact absurd rfl hne; simp)
  rw [e9] at hi
  have := inBlock_slice hi
  have := hs.2
  omega
theorem OwnB.src {w0 w : World} {B : Nat} {v : Value} {l : List UInt8} (h : OwnB 5 w w0.heap.size v l) : ∀ w', Kept (JS B w0) w w' → Bs w' v l := fun _ hk => (h.keptJ hk (fun q hq hs => by
  have := OwnB.ge h q hq
  have := hs.2
  omega)).bs
theorem Begin_full_j {B : Nat} (w : World) (g gl n : Nat) (D : DK) (T : LT) (h : JM B w g gl n D T) (v : Value) (s : List UInt8) (hbs : Bs w v s) (hgen : T.half.gen < 1099511627776) (hs : s.length ≤ 65536) (hfit : n / 2 < (rowsOf (T.half.gen + 1) 0 s).length) :
    Calls Try.prog 14 #[.pointer (some ⟨gl, 0, none⟩), v] w fun e w' => e = .returned (.int .i64 9) ∧ Below w.heap.size w w' := by
  obtain ⟨Fd, Fl, h1, h2, h3, h4⟩ := h
  exact Begin_full w gl g n Fd Fl D T h1 h2 v s hbs hgen hs hfit
theorem Append_state_j {B : Nat} (w : World) (g gl n : Nat) (D : DK) (T : LT) (h : JM B w g gl n D T) (hbg : T.begun = false) (v : Value) :
    Calls Try.prog 15 #[.pointer (some ⟨gl, 0, none⟩), v] w fun e w' => e = .returned (.int .i64 14) ∧ w = w' := by
  obtain ⟨Fd, Fl, h1, h2, h3, h4⟩ := h
  exact Append_state w gl g Fl T h2 hbg v
set_option maxRecDepth 100000 in
set_option maxHeartbeats 6400000 in
theorem LogFull_walk (w : World) (n0 n1 n2 : Int) :
    Calls Try.prog 6 #[.int .i64 n0, .int .i64 n1, .int .i64 n2] w fun e w' => e = .returned (.bool true) ∧ Below w.heap.size w w' := by
  by_cases q0 : n0 < 4
  · go_enter Try.func6, Try.ntmps6
    go_wp2_with fail
    go_ret
    exact ⟨rfl, Below.refl _ _⟩
  by_cases q1 : 60 < n0
  · go_enter Try.func6, Try.ntmps6
    go_wp2_with fail
    go_ret
    exact ⟨rfl, Below.refl _ _⟩
  by_cases q2 : n1 < 0
  · go_enter Try.func6, Try.ntmps6
    go_wp2_with fail
    go_ret
    exact ⟨rfl, Below.refl _ _⟩
  by_cases q3 : 4000 < n1
  · go_enter Try.func6, Try.ntmps6
    go_wp2_with fail
    go_ret
    exact ⟨rfl, Below.refl _ _⟩
  by_cases q4 : n2 < 0
  · go_enter Try.func6, Try.ntmps6
    go_wp2_with fail
    go_ret
    exact ⟨rfl, Below.refl _ _⟩
  by_cases q5 : 4000 < n2
  · go_enter Try.func6, Try.ntmps6
    go_wp2_with fail
    go_ret
    exact ⟨rfl, Below.refl _ _⟩
  obtain ⟨b, rfl⟩ := Int.eq_ofNat_of_zero_le (show 0 ≤ n0 by omega)
  obtain ⟨s, rfl⟩ := Int.eq_ofNat_of_zero_le (show 0 ≤ n1 by omega)
  obtain ⟨o, rfl⟩ := Int.eq_ofNat_of_zero_le (show 0 ≤ n2 by omega)
  have hb4 : (4 : Int) ≤ b ∧ (b : Int) ≤ 60 := by omega
  have hs4 : (0 : Int) ≤ s ∧ (s : Int) ≤ 4000 := by omega
  have ho4 : (0 : Int) ≤ o ∧ (o : Int) ≤ 4000 := by omega
  have hN : 4 ≤ b ∧ b ≤ 60 ∧ s ≤ 4000 ∧ o ≤ 4000 := by omega
  clear q0 q1 q2 q3 q4 q5
  have hn := New_j w b (by omega) (by omega)
  have hr := fun w => rows_any w s (by omega)
  have hro := fun w => rows_any w o (by omega)
  obtain ⟨m, hm⟩ : ∃ z, z = b / 2 := ⟨_, rfl⟩
  obtain ⟨S, hS⟩ : ∃ z, z = needN (s + 21) := ⟨_, rfl⟩
  obtain ⟨O, hO⟩ : ∃ z, z = needN (o + 21) := ⟨_, rfl⟩
  have hSb : 1 ≤ S ∧ S ≤ 100 ∧ 1 ≤ O ∧ O ≤ 100 ∧ m ≤ 30 := by rw [hS, hO, hm]; unfold needN; omega
  have hSi : (1 : Int) ≤ S ∧ (S : Int) ≤ 100 ∧ (1 : Int) ≤ O ∧ (O : Int) ≤ 100 := by omega
  rw [← hS] at hr
  rw [← hO] at hro
  have e0 : decide ((b : Int) < 4) = false := by simp; omega
  have e1 : decide ((60 : Int) < (b : Int)) = false := by simp; omega
  have e2 : decide ((s : Int) < 0) = false := by simp
  have e3 : decide ((4000 : Int) < (s : Int)) = false := by simp; omega
  have e4 : decide ((o : Int) < 0) = false := by simp
  have e5 : decide ((4000 : Int) < (o : Int)) = false := by simp; omega
  have hdiv : (b : Int) / 2 = (m : Int) := by omega
  have HM := Lib.hid hm
  have HS := Lib.hid hS
  have HO := Lib.hid hO
  have HR := Lib.hid hr
  have HRO := Lib.hid hro
  have kc := fun (w : World) (C : Array Value) (n c g : Nat) (hg : g = w.heap.size) => Joins.run_convert_bytes_const_at (P := Try.prog) w 22 5 C n c g hg Try.underlying22 Try.underlying5
  clear hm hS hO hr hro
  go_enter Try.func6, Try.ntmps6
  go_wp2_with fail
  refine hn.mono ?_
  clear hn
  rintro e w1 ⟨g, rfl, hd1, hb1⟩
  have HB1 := Lib.hid hb1
  have hop := Open_j w1 g b _ hd1 rfl hN.1 hb1.size
  rw [openT_new] at hop
  clear hd1 hb1
  go_wp2_with fail
  refine hop.mono ?_
  clear hop
  rintro e w2 ⟨gl, rfl, hj2, _, hb2⟩
  have HB2 := Lib.hid (HB1.out.next hb2)
  have HJ2 := Lib.hid hj2
  clear hj2 hb2
  go_wp2_with (first
    | (refine make_bytes rfl (.tmp 56) (.tmp 56) 22 rfl elem_u8 zero_byte s rfl rfl (by omega) ?_; intro a3 c3 w3 ho3 hb3)
    | fail)
  obtain ⟨sn, hsn⟩ : ∃ z, z = List.replicate s (0 : UInt8) := ⟨_, rfl⟩
  have hsl : sn.length = s := by rw [hsn, List.length_replicate]
  rw [← hsn] at ho3
  have HSL := Lib.hid hsl
  have HJ3 := Lib.hid (HJ2.out.below hb3)
  have HB3 := Lib.hid (HB2.out.next hb3)
  have HO3 := Lib.hid ho3
  have hrow : (rowsOf (0 + 1) 0 sn).length = S := by rw [rowsOf_length, hsl, HS.out]
  have HROW := Lib.hid hrow
  have HB23 := Lib.hid hb3
  clear hsn hsl ho3 hb3 hrow
  by_cases hfit : m < S
  · have hbg := Begin_full_j w3 g gl b _ _ HJ3.out (.slice a3 s c3) sn HO3.out.bs (show (0 : Nat) < 1099511627776 by decide) (by rw [HSL.out]; omega) (by show b / 2 < _; rw [HROW.out, ← HM.out]; exact hfit)
    have hd1 : decide (S ≤ m) = false := by simp; omega
    have hd2 : decide ((S : Int) ≤ (m : Int)) = false := by simp; omega
    (with_reducible refine hbg.mono ?_)
    clear hbg
    rintro e w4 ⟨rfl, hb4⟩
    have HJ4 := Lib.hid (HJ3.out.below hb4)
    have HB4 := Lib.hid (HB3.out.next hb4)
    have hr4 := HR.out w4
    clear hb4
    go_wp2_with fail
    (with_reducible refine hr4.mono ?_)
    clear hr4
    rintro e w' ⟨rfl, rfl⟩
    go_wp2_with fail
    have hst := Append_state_j ((w4.alloc (.cells #[.int .u8 120] 5 (1, 2))).alloc (.cells #[.slice (some ⟨w4.heap.size, 0, none⟩) 1 1] 22)) g gl b _ _ (HJ4.out.below (((Below.refl w4.heap.size w4).alloc (Nat.le_refl _) _).alloc (by simp) _)) rfl (.slice (some ⟨w4.heap.size + 1, 0, none⟩) 1 1)
    have HB5 := Lib.hid ((HB4.out.alloc HB4.out.size (.cells #[.int .u8 120] 5 (1, 2))).alloc (by have := HB4.out.size; simp; omega) (.cells #[.slice (some ⟨w4.heap.size, 0, none⟩) 1 1] 22))
    (with_reducible refine hst.mono ?_)
    clear hst
    rintro e w' ⟨rfl, rfl⟩
    have hwk := wakes_any ((w4.alloc (.cells #[.int .u8 120] 5 (1, 2))).alloc (.cells #[.slice (some ⟨w4.heap.size, 0, none⟩) 1 1] 22))
    go_wp2_with fail
    (with_reducible refine hwk.mono ?_)
    clear hwk
    rintro e w6 ⟨rfl, hb6⟩
    have HB6 := Lib.hid (HB5.out.next hb6)
    clear hb6
    go_wp2_with fail
    go_ret
    exact ⟨rfl, HB6.out⟩
  · have hbg := Begin_on (B := w.heap.size) w2 w3 g gl b _ _ HJ2.out HB23.out HB2.out.size (.slice a3 s c3) sn HO3.out.src (OnD.new b) (.inr rfl) (show (0 : Nat) < 1099511627776 by decide) (by rw [HSL.out]; omega) (by show _ ≤ b / 2; rw [HROW.out, ← HM.out]; omega) (by show (0 : Nat) ≤ _; decide)
    have hd1 : decide (S ≤ m) = true := by simp; omega
    (with_reducible refine hbg.mono ?_)
    clear hbg
    rintro e w4 ⟨rfl, hj4, hb4⟩
    have HB4 := Lib.hid (HB3.out.trans hb4)
    obtain ⟨D1, hD1⟩ : ∃ z, z = dLaid (DK.new b) (first1 b sn) := ⟨_, rfl⟩
    have hj4' : JM w.heap.size w4 g gl b D1 ⟨0, ⟨1, sn, [], S⟩, true⟩ := by
      have h9 := hj4
      simp only [Nat.sub_self, Nat.zero_add] at h9
      have h8 := HROW.out
      rw [Nat.zero_add] at h8
      rw [h8] at h9
      rw [hD1]
      exact h9
    have HON : Hid (OnD D1) := by rw [hD1]; exact (OnD.new b).laid _
    have HDN : Hid (D1.now = first1 b sn) := by rw [hD1]; rfl
    have HDO : Hid (D1.op = []) := by rw [hD1]; rfl
    have HJ4 := Lib.hid hj4'
    have hr4 := HR.out w4
    have HFIT : Hid ((rowsOf 1 0 sn).length ≤ b / 2) := by have h8 := HROW.out; rw [Nat.zero_add] at h8; show _ ≤ _; rw [h8, ← HM.out]; omega
    have HRS : Hid ((rowsOf 1 0 sn).length = S) := by have h8 := HROW.out; rwa [Nat.zero_add] at h8
    clear hb4 hj4 hj4' hD1
    go_wp2_with fail
    (with_reducible refine hr4.mono ?_)
    clear hr4
    rintro e w' ⟨rfl, rfl⟩
    go_wp2_with (first
      | (refine make_bytes rfl (.tmp 86) (.tmp 86) 22 rfl elem_u8 zero_byte o rfl rfl (by omega) ?_; intro a5 c5 w5 ho5 hb5)
      | fail)
    obtain ⟨on_, hon⟩ : ∃ z, z = List.replicate o (0 : UInt8) := ⟨_, rfl⟩
    have hol : on_.length = o := by rw [hon, List.length_replicate]
    rw [← hon] at ho5
    have HOL := Lib.hid hol
    have hba : Below w4.heap.size w4 (w5.alloc (.cells #[.slice a5 o c5] 22)) := hb5.alloc hb5.size _
    have hsrc := Bss.lit (B := w.heap.size) ho5 hb5.size
    have HROW2 : Hid ((recRows 1 (0 + 1) [on_]).length = O) := by show _ = _; rw [recRows_one, rowsOf_length, hol, HO.out]
    have HB5 := Lib.hid (HB4.out.trans (hba.mono HB4.out.size))
    have hrs6 := HR.out
    clear hon hol ho5 hb5
    by_cases hf2 : S + O ≤ m
    · have hd2 : decide ((S : Int) + (O : Int) ≤ (m : Int)) = true := by simp; omega
      have hap := Append_on (B := w.heap.size) w4 _ g gl b D1 _ HJ4.out hba HB4.out.size _ [on_] hsrc HON.out rfl (Nat.zero_le _) (by show S + (recRows 1 (0 + 1) [on_]).length ≤ b / 2; rw [HROW2.out, ← HM.out]; exact hf2) (show (1 : Nat) ≤ _ by decide) (by simp) (by intro r hr; simp at hr; rw [hr, HOL.out]; omega) (by simp) (by rw [HDO.out]; decide)
      clear hsrc hba
      (with_reducible refine hap.mono ?_)
      clear hap
      rintro e w6 ⟨rfl, hj6, hb6⟩
      have HB6 := Lib.hid (HB5.out.trans hb6)
      have HJ6 : Hid (JM w.heap.size w6 g gl b (dPuts D1 (0 + S) (recRows 1 (0 + 1) [on_])) ⟨0, ⟨1, sn, [on_], S + (recRows 1 (0 + 1) [on_]).length⟩, true⟩) := hj6
      have hra := HR.out w6
      have hrb := HRO.out w6
      clear hj6 hb6 hrs6
      go_wp2_with fail
      (with_reducible refine hra.mono ?_)
      clear hra
      rintro e w' ⟨rfl, rfl⟩
      go_wp2_with fail
      (with_reducible refine hrb.mono ?_)
      clear hrb
      rintro e w' ⟨rfl, rfl⟩
      have hsy := Sync_on_j w6 g gl b _ _ HJ6.out HB6.out.size (HON.out.puts _ _)
      go_wp2_with fail
      (with_reducible refine hsy.mono ?_)
      clear hsy
      rintro e w7 ⟨rfl, hj7, hb7⟩
      have HBs := Lib.hid (HB6.out.trans hb7)
      have hop := Open_j (B := w.heap.size) w7 g b _ hj7.disk HON.out.off hN.1 HBs.out.size
      have hopn : openT b (dLaid (dPuts D1 (0 + S) (recRows 1 (0 + 1) [on_])) (dPuts D1 (0 + S) (recRows 1 (0 + 1) [on_])).now).now = ⟨0, ⟨1, sn, [on_], S + O⟩, false⟩ := by
        show openT b (puts D1.now (0 + S) (recRows 1 (0 + 1) [on_])) = _
        rw [HDN.out]
        have h1 := first1_holds HFIT.out
        have h2 : Holds (puts (first1 b sn) (0 + ((rowsOf 1 0 sn).length + 0)) (recRows 1 (0 + 1) [on_])) 0 (b / 2) 1 sn [on_] := append_holds (qs := [on_]) h1 (by rw [first1_length]; omega) (by show (rowsOf 1 0 sn).length + 0 + (recRows 1 (0 + 1) [on_]).length ≤ b / 2; rw [HRS.out, HROW2.out, ← HM.out]; omega)
        rw [HRS.out, Nat.add_zero] at h2
        have h3 := h2.read (by decide) (by decide) (by rw [HSL.out]; omega) (by intro r hr; simp at hr; rw [hr, HOL.out]; omega) (by simp)
        rw [HRS.out, HROW2.out] at h3
        have h4 : readL (halfOf (puts (first1 b sn) (0 + S) (recRows 1 (0 + 1) [on_])) (b / 2) (b / 2)) = ⟨0, [], [], 0⟩ := by
          rw [puts_other (by rw [HROW2.out, first1_length]; have := HM.out; omega) (by rw [HROW2.out]; left; have := HM.out; omega), first1_other HFIT.out]
          exact readL_zeros _
        rw [openT_is h3 h4, if_pos (by simp)]
      rw [hopn] at hop
      clear hj7 hb7 hopn
      go_wp2_with fail
      (with_reducible refine hop.mono ?_)
      clear hop
      rintro e wo ⟨gm, rfl, hjo, _, hbo⟩
      have HBo := Lib.hid (HBs.out.next hbo)
      have HJo := Lib.hid hjo
      have hrc := Recs_j wo g gm b _ _ hjo (by intro r hr; simp at hr; try (rw [hr, HOL.out]; omega)) (by simp)
      clear hjo hbo
      go_wp2_with fail
      (with_reducible refine hrc.mono ?_)
      clear hrc
      rintro e wp ⟨v8, rfl, hv8, hb8⟩
      obtain ⟨a8, c8, rfl, _, _⟩ := hv8.bss.len
      have HBp := Lib.hid (HBo.out.next hb8)
      have hsnp := Snap_j wp g gm b _ _ (HJo.out.below hb8) (by show sn.length ≤ _; rw [HSL.out]; omega)
      clear hv8 hb8
      go_wp2_with fail
      (with_reducible refine hsnp.mono ?_)
      clear hsnp
      rintro e wq ⟨v9, rfl, hv9, hb9⟩
      obtain ⟨a9, n9, c9, rfl, hn9, _⟩ := hv9.named
      obtain rfl : s = n9 := by rw [hn9.out]; exact HSL.out.symm
      have HBq := Lib.hid (HBp.out.next hb9)
      have hwk := wakes_any wq
      clear hv9 hb9 hn9
      go_wp2_with fail
      (with_reducible refine hwk.mono ?_)
      clear hwk
      rintro e wr2 ⟨rfl, hbr⟩
      have HBr := Lib.hid (HBq.out.next hbr)
      clear hbr
      go_wp2_with fail
      go_ret
      exact ⟨rfl, HBr.out⟩
    · have hd2 : decide ((S : Int) + (O : Int) ≤ (m : Int)) = false := by simp; omega
      have hap := Append_full (B := w.heap.size) w4 _ g gl b D1 _ HJ4.out hba HB4.out.size _ [on_] hsrc HON.out.off rfl (Nat.zero_le _) (by show S ≤ b / 2; rw [← HM.out]; omega) (by show b / 2 < S + (recRows 1 (0 + 1) [on_]).length; rw [HROW2.out, ← HM.out]; omega) (show (1 : Nat) ≤ _ by decide) (by simp) (by intro r hr; simp at hr; rw [hr, HOL.out]; omega) (by simp) (by rw [HDO.out]; decide)
      clear hsrc hba
      (with_reducible refine hap.mono ?_)
      clear hap
      rintro e w6 ⟨rfl, hj6, hb6⟩
      have HB6 := Lib.hid (HB5.out.trans hb6)
      have HJ6 := Lib.hid hj6
      have hra := HR.out w6
      have hrb := HRO.out w6
      clear hj6 hb6 hrs6
      go_wp2_with fail
      (with_reducible refine hra.mono ?_)
      clear hra
      rintro e w' ⟨rfl, rfl⟩
      go_wp2_with fail
      (with_reducible refine hrb.mono ?_)
      clear hrb
      rintro e w' ⟨rfl, rfl⟩
      have hsy := Sync_on_j w6 g gl b _ _ HJ6.out HB6.out.size HON.out
      go_wp2_with fail
      (with_reducible refine hsy.mono ?_)
      clear hsy
      rintro e w7 ⟨rfl, hj7, hb7⟩
      have HBs := Lib.hid (HB6.out.trans hb7)
      have hop := Open_j (B := w.heap.size) w7 g b _ hj7.disk HON.out.off hN.1 HBs.out.size
      have hopn : openT b (dLaid D1 D1.now).now = ⟨0, ⟨1, sn, [], S⟩, false⟩ := by
        show openT b D1.now = _
        rw [HDN.out]
        have h3 := (first1_holds HFIT.out).read (by decide) (by decide) (by rw [HSL.out]; omega) (by intro r hr; simp at hr) (by simp)
        rw [HRS.out] at h3
        have h4 : readL (halfOf (first1 b sn) (b / 2) (b / 2)) = ⟨0, [], [], 0⟩ := by
          rw [first1_other HFIT.out]
          exact readL_zeros _
        rw [openT_is h3 h4, if_pos (by simp)]
        rfl
      rw [hopn] at hop
      clear hj7 hb7 hopn
      go_wp2_with fail
      (with_reducible refine hop.mono ?_)
      clear hop
      rintro e wo ⟨gm, rfl, hjo, _, hbo⟩
      have HBo := Lib.hid (HBs.out.next hbo)
      have HJo := Lib.hid hjo
      have hrc := Recs_j wo g gm b _ _ hjo (by intro r hr; simp at hr; try (rw [hr, HOL.out]; omega)) (by simp)
      clear hjo hbo
      go_wp2_with fail
      (with_reducible refine hrc.mono ?_)
      clear hrc
      rintro e wp ⟨v8, rfl, hv8, hb8⟩
      obtain ⟨a8, c8, rfl, _, _⟩ := hv8.bss.len
      have HBp := Lib.hid (HBo.out.next hb8)
      have hsnp := Snap_j wp g gm b _ _ (HJo.out.below hb8) (by show sn.length ≤ _; rw [HSL.out]; omega)
      clear hv8 hb8
      go_wp2_with fail
      (with_reducible refine hsnp.mono ?_)
      clear hsnp
      rintro e wq ⟨v9, rfl, hv9, hb9⟩
      obtain ⟨a9, n9, c9, rfl, hn9, _⟩ := hv9.named
      obtain rfl : s = n9 := by rw [hn9.out]; exact HSL.out.symm
      have HBq := Lib.hid (HBp.out.next hb9)
      have hwk := wakes_any wq
      clear hv9 hb9 hn9
      go_wp2_with fail
      (with_reducible refine hwk.mono ?_)
      clear hwk
      rintro e wr2 ⟨rfl, hbr⟩
      have HBr := Lib.hid (HBq.out.next hbr)
      clear hbr
      go_wp2_with fail
      go_ret
      exact ⟨rfl, HBr.out⟩
end Cam
