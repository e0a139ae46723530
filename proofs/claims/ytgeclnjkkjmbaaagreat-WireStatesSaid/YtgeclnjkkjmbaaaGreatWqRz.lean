import Derived.Test.YtgeclnjkkjmbaaaGreatVc
import Derived.Test.YtgeclnjkkjmbaaaGreatVe
/- Several small texts in one: WsD, WqR. No condition. -/
namespace Cam
open Go Go.RowKit Go.Proofs
set_option linter.unusedVariables false
set_option linter.unusedSimpArgs false
set_option maxRecDepth 100000
theorem few_any (w : World) (n : Nat) : Calls Tryz.prog 69 #[n] w fun e w' => e = .returned (.bool (!decide (1024 < n))) ∧ Below w.heap.size w w' := by
 obtain ⟨d, hd⟩ : ∃ d, d = !decide (1024 < n) := ⟨_, rfl⟩
 rw [← hd]
 have HD := Lh hd
 clear hd
 go_in
 go_wp2_with fail
 go_ret
 refine ⟨?_, Below.refl _ _⟩
 rw [HD.out]
 by_cases h : 1024 < n
 ·
  have h2 : ¬ ((n : Int) ≤ 1024) := by omega
  simp [h, h2]
 ·
  have h2 : (n : Int) ≤ 1024 := by omega
  simp [h, h2]
theorem sized_any (w : World) (a : Option Addr) (c : Nat) (l : List UInt8) (e0 : Int) (v0 : Value) (h0 : (65536 < l.length ∧ e0 = 6 ∧ v0 = .slice none 0 0) ∨ (¬ 65536 < l.length ∧ e0 = 0 ∧ v0 = .slice a l.length c)) :
  Calls Tryz.prog 30 #[.slice a l.length c] w fun e w' => e = .returned (.tuple #[v0, e0]) ∧ w' = w := by
 rcases h0 with ⟨h, rfl, rfl⟩ | ⟨h, rfl, rfl⟩
 ·
  go_in
  go_wp2_with fail
  go_ret2
  exact ⟨rfl, rfl⟩
 ·
  go_in
  go_wp2_with fail
  go_ret2
  exact ⟨rfl, rfl⟩
theorem rightReply_any (w : World) (xc xn xa : Int) (vd vf : Value) (D : List DT) (F : List FT) (hd : Rs DT.vs 3 w vd D) (hf : Rs FT.vs 8 w vf F) :
  Calls Tryz.prog 70 #[.agg #[xc, xn, xa, vd, vf]] w fun e w' => e = .returned (.bool (!repW D F)) ∧ Below w.heap.size w w' := by
 obtain ⟨a1, c1, rfl, hc1, hm1⟩ := hd.shape
 obtain ⟨a2, c2, rfl, hc2, hm2⟩ := hf.shape
 have hb := (Below.refl w.heap.size w).alloc (Nat.le_refl _) (.cells #[xc, xn, xa, .slice a1 D.length c1, .slice a2 F.length c2] 63)
 have hc := HT.new (w := w) (t := 63) (C := [.int .i64 xc, .int .i64 xn, .int .i64 xa, .slice a1 D.length c1, .slice a2 F.length c2])
 have f1 := few_any (w.alloc (.cells #[xc, xn, xa, .slice a1 D.length c1, .slice a2 F.length c2] 63)) D.length
 obtain ⟨d, hd0⟩ : ∃ d, d = !repW D F := ⟨_, rfl⟩
 rw [← hd0]
 have HD := Lh hd0
 have HB := Lh hb
 have HC := Lh hc
 clear hd0 hd hf hb hc
 by_cases h1 : 1024 < D.length
 ·
  rw [decide_eq_true h1] at f1
  have HF : Hid (d = false) := by show _ = _; rw [HD.out]; simp [repW, h1]
  clear h1
  go_in
  go_wp2_with fail
  refine f1.mono ?_
  clear f1
  rintro e w1 ⟨rfl, hb1⟩
  have HB1 := Lh (bgo HB.out hb1 HB.out.size)
  clear hb1
  go_wp2_with fail
  go_ret
  exact ⟨by rw [HF.out]; rfl, HB1.out⟩
 ·
  rw [decide_eq_false h1] at f1
  have HF : Hid (d = !decide (1024 < F.length)) := by show _ = _; rw [HD.out]; simp [repW, h1]
  clear h1
  go_in
  go_wp2_with fail
  refine f1.mono ?_
  clear f1
  rintro e w1 ⟨rfl, hb1⟩
  have HB1 := Lh (bgo HB.out hb1 HB.out.size)
  have q4 : w1.cell? ⟨w.heap.size, 4, none⟩ = some (.slice a2 F.length c2) := (HC.out.below hb1).cell (j := 4) rfl
  have f2 := few_any w1 F.length
  rw [← HF.out] at f2
  clear hb1
  go_wp2_with fail
  refine f2.mono ?_
  clear f2
  rintro e w2 ⟨rfl, hb2⟩
  have HB2 := Lh (bgo HB1.out hb2 HB1.out.size)
  clear hb2
  go_wp2_with fail
  go_ret
  exact ⟨rfl, HB2.out⟩
end Cam
namespace Cam
open Go Go.RowKit Go.Proofs
set_option linter.unusedVariables false
set_option linter.unusedSimpArgs false
set_option maxRecDepth 100000
set_option maxHeartbeats 6400000
theorem anyW_next {L : List SeT} {k : Nat} (h : k < L.length) (h1 : anyW (L.take k) = false) (h2 : repW L[k].r.D L[k].r.F = false) : anyW (L.take (k + 1)) = false := by
 rw [anyW_snoc h, h1, h2]
 rfl
theorem rright_any (w : World) (a1 : Option Addr) (n1 c1 : Nat) (a2 : Option Addr) (n2 c2 : Nat) (a3 : Option Addr) (n3 c3 : Nat) (a4 : Option Addr) (n4 c4 : Nat) (a5 : Option Addr) (n5 c5 : Nat) (a6 : Option Addr) (n6 c6 : Nat) (a7 : Option Addr) (n7 c7 : Nat) (a8 : Option Addr) (n8 c8 : Nat) (a9 : Option Addr) (n9 c9 : Nat) (a10 : Option Addr) (n10 c10 : Nat) (L : List SV) (s : StT) (h : StC w a1 n1 c1 a2 n2 c2 a3 n3 c3 a4 n4 c4 a5 n5 c5 a6 n6 c6 a7 n7 c7 a8 n8 c8 a9 n9 c9 a10 n10 c10 L s) :
  Calls Tryz.prog 25 #[.agg #[s.now, s.day, s.ph, .slice a1 n1 c1, .slice a2 n2 c2, .slice a3 n3 c3, s.nx, .slice a4 n4 c4, .slice a5 n5 c5, s.la, .slice a6 n6 c6, .slice a7 n7 c7, .slice a8 n8 c8, .slice a9 n9 c9, .slice a10 n10 c10]] w fun e w' => e = .returned (.bool (!s.bad)) ∧ Below w.heap.size w w' := by
 obtain ⟨r1, r2, r3, r4, r5, r6, r7, r8, r9, r10, hlm, hsv⟩ := h
 obtain ⟨_, _, e1, hc1, hm1⟩ := r1.shape
 cases e1
 obtain ⟨_, _, e2, hc2, hm2⟩ := r2.shape
 cases e2
 obtain ⟨_, _, e3, hc3, hm3⟩ := r3.shape
 cases e3
 obtain ⟨_, _, e4, hc4, hm4⟩ := r4.shape
 cases e4
 obtain ⟨_, _, e5, hc5, hm5⟩ := r5.shape
 cases e5
 obtain ⟨_, _, e6, hc6, hm6⟩ := r6.shape
 cases e6
 obtain ⟨_, _, e7, hc7, hm7⟩ := r7.shape
 cases e7
 obtain ⟨_, _, e8, hc8, hm8⟩ := r8.shape
 cases e8
 obtain ⟨_, _, e9, hc9, hm9⟩ := r9.shape
 cases e9
 obtain ⟨_, _, e10, hc10, hm10⟩ := r10.shape
 cases e10
 have hb1 : Below w.heap.size w (w.alloc (.cells #[s.now, s.day, s.ph, .slice a1 s.M.length c1, .slice a2 s.I.length c2, .slice a3 s.A.length c3, s.nx, .slice a4 s.T.length c4, .slice a5 s.P.length c5, s.la, .slice a6 s.B.length c6, .slice a7 s.G.length c7, .slice a8 s.C.length c8, .slice a9 s.D.length c9, .slice a10 L.length c10] 41)) := Bn
 have hbx : HT (w.alloc (.cells #[s.now, s.day, s.ph, .slice a1 s.M.length c1, .slice a2 s.I.length c2, .slice a3 s.A.length c3, s.nx, .slice a4 s.T.length c4, .slice a5 s.P.length c5, s.la, .slice a6 s.B.length c6, .slice a7 s.G.length c7, .slice a8 s.C.length c8, .slice a9 s.D.length c9, .slice a10 L.length c10] 41)) w.heap.size 41 [s.now, s.day, s.ph, .slice a1 s.M.length c1, .slice a2 s.I.length c2, .slice a3 s.A.length c3, s.nx, .slice a4 s.T.length c4, .slice a5 s.P.length c5, s.la, .slice a6 s.B.length c6, .slice a7 s.G.length c7, .slice a8 s.C.length c8, .slice a9 s.D.length c9, .slice a10 L.length c10] := HT.new (w := w)
 have HB1 := Lh hb1
 have HBX := Lh hbx
 have HR := Lh r10
 have HSV := Lh hsv
 have HLM := Lh hlm
 obtain ⟨d, hd⟩ : ∃ d, d = !s.bad := ⟨_, rfl⟩
 rw [← hd]
 have HD : Hid (d = !(decide (1024 < s.M.length) || (decide (1024 < s.I.length) || (decide (1024 < s.A.length) || (decide (1024 < s.T.length) || (decide (1024 < s.P.length) || (decide (1024 < s.B.length) || (decide (1024 < s.G.length) || (decide (1024 < s.C.length) || (decide (1024 < s.D.length) || (decide (1024 < L.length) || anyW s.S))))))))))) := by
  show _ = _
  rw [hd]
  unfold StT.bad rollW bookW seaB
  rw [hlm]
  by_cases h : 1024 < s.S.length <;> simp [h, Bool.or_assoc]
 clear hb1 hbx r1 r2 r3 r4 r5 r6 r7 r8 r9 r10 hsv hd hlm
 have hx := HBX.out.cell (j := 3) rfl
 go_in
 have f1 := few_any (w.alloc (.cells #[s.now, s.day, s.ph, .slice a1 s.M.length c1, .slice a2 s.I.length c2, .slice a3 s.A.length c3, s.nx, .slice a4 s.T.length c4, .slice a5 s.P.length c5, s.la, .slice a6 s.B.length c6, .slice a7 s.G.length c7, .slice a8 s.C.length c8, .slice a9 s.D.length c9, .slice a10 L.length c10] 41)) s.M.length
 by_cases q0 : 1024 < s.M.length
 ·
  rw [decide_eq_true q0] at f1
  have HT : Hid (d = false) := by show _ = _; rw [HD.out]; simp [q0]
  clear q0
  go_wp2_with fail
  refine f1.mono ?_
  clear f1 hx
  rintro e wz ⟨rfl, hb⟩
  have HBZ := Lh (bgo HB1.out hb HB1.out.size)
  clear hb
  go_wp2_with fail
  go_ret
  exact ⟨by rw [HT.out]; rfl, HBZ.out⟩
 ·
  rw [decide_eq_false q0] at f1
  have HQ0 := Lh q0
  clear q0
  go_wp2_with fail
  refine f1.mono ?_
  clear f1 hx
  rintro e w1 ⟨rfl, hb⟩
  have HB2 := Lh (bgo HB1.out hb HB1.out.size)
  have HBX := Lh (HBX.out.below hb)
  clear hb
  have hx := HBX.out.cell (j := 4) rfl
  have f1 := few_any w1 s.I.length
  by_cases q1 : 1024 < s.I.length
  ·
   rw [decide_eq_true q1] at f1
   have HT : Hid (d = false) := by show _ = _; rw [HD.out]; simp [q1]
   clear q1
   go_wp2_with fail
   refine f1.mono ?_
   clear f1 hx
   rintro e wz ⟨rfl, hb⟩
   have HBZ := Lh (bgo HB2.out hb HB2.out.size)
   clear hb
   go_wp2_with fail
   go_ret
   exact ⟨by rw [HT.out]; rfl, HBZ.out⟩
  ·
   rw [decide_eq_false q1] at f1
   have HQ1 := Lh q1
   clear q1
   go_wp2_with fail
   refine f1.mono ?_
   clear f1 hx
   rintro e w2 ⟨rfl, hb⟩
   have HB3 := Lh (bgo HB2.out hb HB2.out.size)
   have HBX := Lh (HBX.out.below hb)
   clear hb
   have hx := HBX.out.cell (j := 5) rfl
   have f1 := few_any w2 s.A.length
   by_cases q2 : 1024 < s.A.length
   ·
    rw [decide_eq_true q2] at f1
    have HT : Hid (d = false) := by show _ = _; rw [HD.out]; simp [q2]
    clear q2
    go_wp2_with fail
    refine f1.mono ?_
    clear f1 hx
    rintro e wz ⟨rfl, hb⟩
    have HBZ := Lh (bgo HB3.out hb HB3.out.size)
    clear hb
    go_wp2_with fail
    go_ret
    exact ⟨by rw [HT.out]; rfl, HBZ.out⟩
   ·
    rw [decide_eq_false q2] at f1
    have HQ2 := Lh q2
    clear q2
    go_wp2_with fail
    refine f1.mono ?_
    clear f1 hx
    rintro e w3 ⟨rfl, hb⟩
    have HB4 := Lh (bgo HB3.out hb HB3.out.size)
    have HBX := Lh (HBX.out.below hb)
    clear hb
    have hx := HBX.out.cell (j := 7) rfl
    have f1 := few_any w3 s.T.length
    by_cases q3 : 1024 < s.T.length
    ·
     rw [decide_eq_true q3] at f1
     have HT : Hid (d = false) := by show _ = _; rw [HD.out]; simp [q3]
     clear q3
     go_wp2_with fail
     refine f1.mono ?_
     clear f1 hx
     rintro e wz ⟨rfl, hb⟩
     have HBZ := Lh (bgo HB4.out hb HB4.out.size)
     clear hb
     go_wp2_with fail
     go_ret
     exact ⟨by rw [HT.out]; rfl, HBZ.out⟩
    ·
     rw [decide_eq_false q3] at f1
     have HQ3 := Lh q3
     clear q3
     go_wp2_with fail
     refine f1.mono ?_
     clear f1 hx
     rintro e w4 ⟨rfl, hb⟩
     have HB5 := Lh (bgo HB4.out hb HB4.out.size)
     have HBX := Lh (HBX.out.below hb)
     clear hb
     have hx := HBX.out.cell (j := 8) rfl
     have f1 := few_any w4 s.P.length
     by_cases q4 : 1024 < s.P.length
     ·
      rw [decide_eq_true q4] at f1
      have HT : Hid (d = false) := by show _ = _; rw [HD.out]; simp [q4]
      clear q4
      go_wp2_with fail
      refine f1.mono ?_
      clear f1 hx
      rintro e wz ⟨rfl, hb⟩
      have HBZ := Lh (bgo HB5.out hb HB5.out.size)
      clear hb
      go_wp2_with fail
      go_ret
      exact ⟨by rw [HT.out]; rfl, HBZ.out⟩
     ·
      rw [decide_eq_false q4] at f1
      have HQ4 := Lh q4
      clear q4
      go_wp2_with fail
      refine f1.mono ?_
      clear f1 hx
      rintro e w5 ⟨rfl, hb⟩
      have HB6 := Lh (bgo HB5.out hb HB5.out.size)
      have HBX := Lh (HBX.out.below hb)
      clear hb
      have hx := HBX.out.cell (j := 10) rfl
      have f1 := few_any w5 s.B.length
      by_cases q5 : 1024 < s.B.length
      ·
       rw [decide_eq_true q5] at f1
       have HT : Hid (d = false) := by show _ = _; rw [HD.out]; simp [q5]
       clear q5
       go_wp2_with fail
       refine f1.mono ?_
       clear f1 hx
       rintro e wz ⟨rfl, hb⟩
       have HBZ := Lh (bgo HB6.out hb HB6.out.size)
       clear hb
       go_wp2_with fail
       go_ret
       exact ⟨by rw [HT.out]; rfl, HBZ.out⟩
      ·
       rw [decide_eq_false q5] at f1
       have HQ5 := Lh q5
       clear q5
       go_wp2_with fail
       refine f1.mono ?_
       clear f1 hx
       rintro e w6 ⟨rfl, hb⟩
       have HB7 := Lh (bgo HB6.out hb HB6.out.size)
       have HBX := Lh (HBX.out.below hb)
       clear hb
       have hx := HBX.out.cell (j := 11) rfl
       have f1 := few_any w6 s.G.length
       by_cases q6 : 1024 < s.G.length
       ·
        rw [decide_eq_true q6] at f1
        have HT : Hid (d = false) := by show _ = _; rw [HD.out]; simp [q6]
        clear q6
        go_wp2_with fail
        refine f1.mono ?_
        clear f1 hx
        rintro e wz ⟨rfl, hb⟩
        have HBZ := Lh (bgo HB7.out hb HB7.out.size)
        clear hb
        go_wp2_with fail
        go_ret
        exact ⟨by rw [HT.out]; rfl, HBZ.out⟩
       ·
        rw [decide_eq_false q6] at f1
        have HQ6 := Lh q6
        clear q6
        go_wp2_with fail
        refine f1.mono ?_
        clear f1 hx
        rintro e w7 ⟨rfl, hb⟩
        have HB8 := Lh (bgo HB7.out hb HB7.out.size)
        have HBX := Lh (HBX.out.below hb)
        clear hb
        have hx := HBX.out.cell (j := 12) rfl
        have f1 := few_any w7 s.C.length
        by_cases q7 : 1024 < s.C.length
        ·
         rw [decide_eq_true q7] at f1
         have HT : Hid (d = false) := by show _ = _; rw [HD.out]; simp [q7]
         clear q7
         go_wp2_with fail
         refine f1.mono ?_
         clear f1 hx
         rintro e wz ⟨rfl, hb⟩
         have HBZ := Lh (bgo HB8.out hb HB8.out.size)
         clear hb
         go_wp2_with fail
         go_ret
         exact ⟨by rw [HT.out]; rfl, HBZ.out⟩
        ·
         rw [decide_eq_false q7] at f1
         have HQ7 := Lh q7
         clear q7
         go_wp2_with fail
         refine f1.mono ?_
         clear f1 hx
         rintro e w8 ⟨rfl, hb⟩
         have HB9 := Lh (bgo HB8.out hb HB8.out.size)
         have HBX := Lh (HBX.out.below hb)
         clear hb
         have hx := HBX.out.cell (j := 13) rfl
         have f1 := few_any w8 s.D.length
         by_cases q8 : 1024 < s.D.length
         ·
          rw [decide_eq_true q8] at f1
          have HT : Hid (d = false) := by show _ = _; rw [HD.out]; simp [q8]
          clear q8
          go_wp2_with fail
          refine f1.mono ?_
          clear f1 hx
          rintro e wz ⟨rfl, hb⟩
          have HBZ := Lh (bgo HB9.out hb HB9.out.size)
          clear hb
          go_wp2_with fail
          go_ret
          exact ⟨by rw [HT.out]; rfl, HBZ.out⟩
         ·
          rw [decide_eq_false q8] at f1
          have HQ8 := Lh q8
          clear q8
          go_wp2_with fail
          refine f1.mono ?_
          clear f1 hx
          rintro e w9 ⟨rfl, hb⟩
          have HB10 := Lh (bgo HB9.out hb HB9.out.size)
          have HBX := Lh (HBX.out.below hb)
          clear hb
          have hx := HBX.out.cell (j := 14) rfl
          have f1 := few_any w9 L.length
          by_cases q9 : 1024 < L.length
          ·
           rw [decide_eq_true q9] at f1
           have HT : Hid (d = false) := by show _ = _; rw [HD.out]; simp [q9]
           clear q9
           go_wp2_with fail
           refine f1.mono ?_
           clear f1 hx
           rintro e wz ⟨rfl, hb⟩
           have HBZ := Lh (bgo HB10.out hb HB10.out.size)
           clear hb
           go_wp2_with fail
           go_ret
           exact ⟨by rw [HT.out]; rfl, HBZ.out⟩
          ·
           rw [decide_eq_false q9] at f1
           have HQ9 := Lh q9
           clear q9
           go_wp2_with fail
           refine f1.mono ?_
           clear f1 hx
           rintro e w10 ⟨rfl, hb⟩
           have HB11 := Lh (bgo HB10.out hb HB10.out.size)
           have HBX := Lh (HBX.out.below hb)
           clear hb
           have hx := HBX.out.cell (j := 14) rfl
           have HQ : Hid (d = !anyW s.S) := by show _ = _; rw [HD.out]; simp [HQ0.out, HQ1.out, HQ2.out, HQ3.out, HQ4.out, HQ5.out, HQ6.out, HQ7.out, HQ8.out, HQ9.out]
           clear HQ0 HQ1 HQ2 HQ3 HQ4 HQ5 HQ6 HQ7 HQ8
           go_wp2_with fail
           clear hx
           generalize hW : w10 = W at *
           clear hW
           go_loopw [3] (fun v3 wr => ∃ k : Nat, k ≤ L.length ∧ v3 = .int .i64 k ∧ Hid (anyW (s.S.take k) = false) ∧ Below W.heap.size W wr) (fun i _ => L.length - (intOf i).toNat)
           case atStart => exact ⟨0, Nat.zero_le _, rfl, rfl, Below.refl _ _⟩
           case round =>
            obtain ⟨k, hk, rfl, HA, hbel⟩ := hrel
            have HBL := Lh hbel
            have hbw : Below w.heap.size w wr := HB11.out.trans (hbel.mono HB11.out.size)
            have y9 := (HBX.out.below hbel).cell (j := 14) rfl
            by_cases hlt : k < L.length
            ·
             have hkS : k < s.S.length := by rw [← HLM.out]; exact hlt
             obtain ⟨b, off, e, hbl, hat⟩ := (HR.out.mono hbw).at (by omega) (by decide)
             subst e
             obtain ⟨x, hx⟩ : ∃ x, x = L[k] := ⟨_, rfl⟩
             have hsv := (HSV.out k hlt hkS).mono hbw
             rw [← hx] at hsv
             have hran : wr.rangeAt b (off + k * 7 + 2) [x.c, x.n, x.a, .slice x.a1 x.n1 x.c1, .slice x.a2 x.n2 x.c2] := by
              intro j u hu
              have h7 := hat k hlt (2 + j) u (by
               rw [← hx]
               show ([.int .i64 x.client, .int .i64 x.seq] ++ [.int .i64 x.c, .int .i64 x.n, .int .i64 x.a, .slice x.a1 x.n1 x.c1, .slice x.a2 x.n2 x.c2])[2 + j]? = some u
               rw [List.getElem?_append_right (by simp)]
               simpa using hu)
              rw [← Nat.add_assoc] at h7
              exact h7
             have lg := rightReply_any wr x.c x.n x.a _ _ s.S[k].r.D s.S[k].r.F hsv.2.2.2.2.2.1 hsv.2.2.2.2.2.2
             unfold SV.vd SV.vf at lg
             have HSR : Hid ((Tryz.prog.info? 63).map (·.size) = some ([x.c, x.n, x.a, .slice x.a1 x.n1 x.c1, .slice x.a2 x.n2 x.c2] : List Value).length) := by show _ = _; rw [repSz]; rfl
             have HRAN := Lh hran
             have hk0 : (0 : Int) ≤ k := by omega
             have hk1 : (k : Int) < L.length := by omega
             obtain ⟨q, hq⟩ : ∃ q, q = repW s.S[k].r.D s.S[k].r.F := ⟨_, rfl⟩
             rw [← hq] at lg
             have HQK := Lh hq
             have HKS := Lh hkS
             have hup : (L.length : Int) ≤ 1024 := by have := HQ9.out; omega
             clear hat hran hsv hx hq hbel
             go_wp2_with (first
              | (refine wpList_load_mid rfl 63 (.tmp 89) rfl b (off + k * 7 + 2) rfl [x.c, x.n, x.a, .slice x.a1 x.n1 x.c1, .slice x.a2 x.n2 x.c2] _ HRAN.out Tryz.underlying63 rfl HSR.out ?_)
              | fail)
             refine lg.mono ?_
             clear lg
             rintro e w5 ⟨rfl, hb5⟩
             have HB5 := Lh (HBL.out.trans (hb5.mono HBL.out.size))
             clear hb5
             cases q with
             | true =>
              have HT : Hid (d = false) := by
               show _ = _
               rw [HQ.out]
               have : anyW s.S = true := by
                unfold anyW
                rw [List.any_eq_true]
                exact ⟨s.S[k]'HKS.out, List.getElem_mem _, HQK.out.symm⟩
               rw [this]
               rfl
              go_wp2_with fail
              go_ret
              exact ⟨by rw [HT.out]; rfl, HB11.out.trans (HB5.out.mono HB11.out.size)⟩
             | false =>
              have HA2 : Hid (anyW (s.S.take (k + 1)) = false) := anyW_next HKS.out HA.out HQK.out.symm
              go_wp2_with fail
              exact ⟨⟨k + 1, by omega, by push_cast; rfl, HA2, HB5.out⟩, by simp [intOf]; omega⟩
            ·
             have HE : Hid (d = true) := by
              have h := HA.out
              show _ = _
              rw [HQ.out]
              rw [List.take_of_length_le (by rw [← HLM.out]; omega)] at h
              rw [h]
              rfl
             go_wp2_with fail
             go_ret
             exact ⟨by rw [HE.out]; rfl, HB11.out.trans (HBL.out.mono HB11.out.size)⟩
end Cam
