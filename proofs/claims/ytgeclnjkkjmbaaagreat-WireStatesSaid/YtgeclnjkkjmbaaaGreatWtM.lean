import Derived.Test.YtgeclnjkkjmbaaaGreatVe
/- cambistlaw24.Heavy. -/
namespace Cam
open Go Go.RowKit Go.Proofs
set_option linter.unusedVariables false
set_option linter.unusedSimpArgs false
set_option maxRecDepth 100000
set_option maxHeartbeats 6400000
def stHvy (s : StT) : Bool := decide (1200 < s.M.length) || decide (1200 < s.I.length) || decide (1200 < s.A.length) || decide (1200 < s.T.length) || decide (1200 < s.P.length) || decide (1200 < s.B.length) || decide (1200 < s.G.length) || decide (1200 < s.C.length) || decide (1200 < s.D.length) || decide (100 < s.S.length)
def anyL (L : List SeT) : Bool := L.any fun x => repL x.r.D x.r.F
def stHeavy (s : StT) : Bool := stHvy s || anyL s.S
theorem stHeavy_no {s : StT} (h : stHeavy s = false) : s.M.length ≤ 1200 ∧ s.I.length ≤ 1200 ∧ s.A.length ≤ 1200 ∧ s.T.length ≤ 1200 ∧ s.P.length ≤ 1200 ∧ s.B.length ≤ 1200 ∧ s.G.length ≤ 1200 ∧ s.C.length ≤ 1200 ∧ s.D.length ≤ 1200 ∧ s.S.length ≤ 100 ∧ ∀ x ∈ s.S, x.r.D.length ≤ 1200 ∧ x.r.F.length ≤ 1200 := by
 unfold stHeavy stHvy anyL at h
 simp only [Bool.or_eq_false_iff, decide_eq_false_iff_not] at h
 refine ⟨by omega, by omega, by omega, by omega, by omega, by omega, by omega, by omega, by omega, by omega, fun x hx => ?_⟩
 have h2 := List.any_eq_false.1 h.2 x hx
 unfold repL at h2
 simp at h2
 omega
theorem HvyPost_len {L : List SeT} {k : Nat} (h : k < L.length) (h1 : anyL (L.take k) = false) (h2 : repL L[k].r.D L[k].r.F = false) : anyL (L.take (k + 1)) = false := by
 unfold anyL at h1 ⊢
 rw [List.take_succ_eq_append_getElem h, List.any_append, h1]
 simp [h2]
theorem Heavy_any (w : World) (a1 : Option Addr) (n1 c1 : Nat) (a2 : Option Addr) (n2 c2 : Nat) (a3 : Option Addr) (n3 c3 : Nat) (a4 : Option Addr) (n4 c4 : Nat) (a5 : Option Addr) (n5 c5 : Nat) (a6 : Option Addr) (n6 c6 : Nat) (a7 : Option Addr) (n7 c7 : Nat) (a8 : Option Addr) (n8 c8 : Nat) (a9 : Option Addr) (n9 c9 : Nat) (a10 : Option Addr) (n10 c10 : Nat) (L : List SV) (s : StT) (h : StC w a1 n1 c1 a2 n2 c2 a3 n3 c3 a4 n4 c4 a5 n5 c5 a6 n6 c6 a7 n7 c7 a8 n8 c8 a9 n9 c9 a10 n10 c10 L s) :
  Calls Tryz.prog 6 #[.agg #[s.now, s.day, s.ph, .slice a1 n1 c1, .slice a2 n2 c2, .slice a3 n3 c3, s.nx, .slice a4 n4 c4, .slice a5 n5 c5, s.la, .slice a6 n6 c6, .slice a7 n7 c7, .slice a8 n8 c8, .slice a9 n9 c9, .slice a10 n10 c10]] w fun e w' => e = .returned (.bool (stHeavy s)) ∧ Below w.heap.size w w' := by
 obtain ⟨r1, r2, r3, r4, r5, r6, r7, r8, r9, r10, hlm, hsv⟩ := h
 obtain ⟨_, _, e1, hc1, hm1⟩ := r1.shape
 cases e1
 obtain ⟨_, _, e2, hc2, hm2⟩ := r2.shape
 cases e2
 obtain ⟨_, _, e3, hc3, hm3⟩ := r3.shape
 cases e3
 obtain ⟨_, _, e4, hc4, hm4⟩ := r4.shape
 cases e4
 obtain ⟨_, _, e5, hc5, hm5⟩ := r5.shape
 cases e5
 obtain ⟨_, _, e6, hc6, hm6⟩ := r6.shape
 cases e6
 obtain ⟨_, _, e7, hc7, hm7⟩ := r7.shape
 cases e7
 obtain ⟨_, _, e8, hc8, hm8⟩ := r8.shape
 cases e8
 obtain ⟨_, _, e9, hc9, hm9⟩ := r9.shape
 cases e9
 obtain ⟨_, _, e10, hc10, hm10⟩ := r10.shape
 cases e10
 have hb1 : Below w.heap.size w (w.alloc (.cells #[s.now, s.day, s.ph, .slice a1 s.M.length c1, .slice a2 s.I.length c2, .slice a3 s.A.length c3, s.nx, .slice a4 s.T.length c4, .slice a5 s.P.length c5, s.la, .slice a6 s.B.length c6, .slice a7 s.G.length c7, .slice a8 s.C.length c8, .slice a9 s.D.length c9, .slice a10 L.length c10] 41)) := Bn
 have hbx : HT (w.alloc (.cells #[s.now, s.day, s.ph, .slice a1 s.M.length c1, .slice a2 s.I.length c2, .slice a3 s.A.length c3, s.nx, .slice a4 s.T.length c4, .slice a5 s.P.length c5, s.la, .slice a6 s.B.length c6, .slice a7 s.G.length c7, .slice a8 s.C.length c8, .slice a9 s.D.length c9, .slice a10 L.length c10] 41)) w.heap.size 41 [s.now, s.day, s.ph, .slice a1 s.M.length c1, .slice a2 s.I.length c2, .slice a3 s.A.length c3, s.nx, .slice a4 s.T.length c4, .slice a5 s.P.length c5, s.la, .slice a6 s.B.length c6, .slice a7 s.G.length c7, .slice a8 s.C.length c8, .slice a9 s.D.length c9, .slice a10 L.length c10] := HT.new (w := w)
 have HB1 := Lh hb1
 have HBX := Lh hbx
 have HR := Lh r10
 have HSV := Lh hsv
 have HLM := Lh hlm
 obtain ⟨d, hd⟩ : ∃ d, d = stHeavy s := ⟨_, rfl⟩
 rw [← hd]
 have HD := Lh hd
 have x0 := hbx.cell (j := 3) rfl
 have x1 := hbx.cell (j := 4) rfl
 have x2 := hbx.cell (j := 5) rfl
 have x3 := hbx.cell (j := 7) rfl
 have x4 := hbx.cell (j := 8) rfl
 have x5 := hbx.cell (j := 10) rfl
 have x6 := hbx.cell (j := 11) rfl
 have x7 := hbx.cell (j := 12) rfl
 have x8 := hbx.cell (j := 13) rfl
 have x9 := hbx.cell (j := 14) rfl
 clear hb1 hbx r1 r2 r3 r4 r5 r6 r7 r8 r9 r10 hsv hd hlm
 go_in
 by_cases q0 : 1200 < s.M.length
 ·
  have HT : Hid (d = true) := by show _ = _; rw [HD.out]; unfold stHeavy stHvy; simp [q0]
  go_wp2_with fail
  go_ret
  exact ⟨by rw [HT.out]; rfl, HB1.out⟩
 ·
  skip
  by_cases q1 : 1200 < s.I.length
  ·
   have HT : Hid (d = true) := by show _ = _; rw [HD.out]; unfold stHeavy stHvy; simp [q1]
   go_wp2_with fail
   go_ret
   exact ⟨by rw [HT.out]; rfl, HB1.out⟩
  ·
   skip
   by_cases q2 : 1200 < s.A.length
   ·
    have HT : Hid (d = true) := by show _ = _; rw [HD.out]; unfold stHeavy stHvy; simp [q2]
    go_wp2_with fail
    go_ret
    exact ⟨by rw [HT.out]; rfl, HB1.out⟩
   ·
    skip
    by_cases q3 : 1200 < s.T.length
    ·
     have HT : Hid (d = true) := by show _ = _; rw [HD.out]; unfold stHeavy stHvy; simp [q3]
     go_wp2_with fail
     go_ret
     exact ⟨by rw [HT.out]; rfl, HB1.out⟩
    ·
     skip
     by_cases q4 : 1200 < s.P.length
     ·
      have HT : Hid (d = true) := by show _ = _; rw [HD.out]; unfold stHeavy stHvy; simp [q4]
      go_wp2_with fail
      go_ret
      exact ⟨by rw [HT.out]; rfl, HB1.out⟩
     ·
      skip
      by_cases q5 : 1200 < s.B.length
      ·
       have HT : Hid (d = true) := by show _ = _; rw [HD.out]; unfold stHeavy stHvy; simp [q5]
       go_wp2_with fail
       go_ret
       exact ⟨by rw [HT.out]; rfl, HB1.out⟩
      ·
       skip
       by_cases q6 : 1200 < s.G.length
       ·
        have HT : Hid (d = true) := by show _ = _; rw [HD.out]; unfold stHeavy stHvy; simp [q6]
        go_wp2_with fail
        go_ret
        exact ⟨by rw [HT.out]; rfl, HB1.out⟩
       ·
        skip
        by_cases q7 : 1200 < s.C.length
        ·
         have HT : Hid (d = true) := by show _ = _; rw [HD.out]; unfold stHeavy stHvy; simp [q7]
         go_wp2_with fail
         go_ret
         exact ⟨by rw [HT.out]; rfl, HB1.out⟩
        ·
         skip
         by_cases q8 : 1200 < s.D.length
         ·
          have HT : Hid (d = true) := by show _ = _; rw [HD.out]; unfold stHeavy stHvy; simp [q8]
          go_wp2_with fail
          go_ret
          exact ⟨by rw [HT.out]; rfl, HB1.out⟩
         ·
          skip
          by_cases q9 : 100 < L.length
          ·
           have HT : Hid (d = true) := by show _ = _; rw [HD.out]; unfold stHeavy stHvy; have := HLM.out; rw [this] at q9; simp [q9]
           go_wp2_with fail
           go_ret
           exact ⟨by rw [HT.out]; rfl, HB1.out⟩
          ·
           skip
           have HQ : Hid (d = anyL s.S) := by show _ = _; rw [HD.out]; unfold stHeavy stHvy; have := HLM.out; rw [this] at q9; simp [q0, q1, q2, q3, q4, q5, q6, q7, q8, q9]
           go_wp2_with fail
           generalize hW : w.alloc (.cells #[s.now, s.day, s.ph, .slice a1 s.M.length c1, .slice a2 s.I.length c2, .slice a3 s.A.length c3, s.nx, .slice a4 s.T.length c4, .slice a5 s.P.length c5, s.la, .slice a6 s.B.length c6, .slice a7 s.G.length c7, .slice a8 s.C.length c8, .slice a9 s.D.length c9, .slice a10 L.length c10] 41) = W at *
           clear hW
           go_loopw [3] (fun v3 wr => ∃ k : Nat, k ≤ L.length ∧ v3 = .int .i64 k ∧ Hid (anyL (s.S.take k) = false) ∧ Below W.heap.size W wr) (fun i _ => L.length - (intOf i).toNat)
           case atStart => exact ⟨0, Nat.zero_le _, rfl, rfl, Below.refl _ _⟩
           case round =>
            obtain ⟨k, hk, rfl, HA, hbel⟩ := hrel
            have HBL := Lh hbel
            have hbw : Below w.heap.size w wr := HB1.out.trans (hbel.mono HB1.out.size)
            have y9 := (HBX.out.below hbel).cell (j := 14) rfl
            by_cases hlt : k < L.length
            ·
             have hkS : k < s.S.length := by rw [← HLM.out]; exact hlt
             obtain ⟨b, off, e, hbl, hat⟩ := (HR.out.mono hbw).at (by omega) (by decide)
             subst e
             obtain ⟨x, hx⟩ : ∃ x, x = L[k] := ⟨_, rfl⟩
             have hsv := (HSV.out k hlt hkS).mono hbw
             rw [← hx] at hsv
             have hran : wr.rangeAt b (off + k * 7 + 2) [x.c, x.n, x.a, .slice x.a1 x.n1 x.c1, .slice x.a2 x.n2 x.c2] := by
              intro j u hu
              have h7 := hat k hlt (2 + j) u (by
               rw [← hx]
               show ([.int .i64 x.client, .int .i64 x.seq] ++ [.int .i64 x.c, .int .i64 x.n, .int .i64 x.a, .slice x.a1 x.n1 x.c1, .slice x.a2 x.n2 x.c2])[2 + j]? = some u
               rw [List.getElem?_append_right (by simp)]
               simpa using hu)
              rw [← Nat.add_assoc] at h7
              exact h7
             have lg := long_any wr x.c x.n x.a _ _ s.S[k].r.D s.S[k].r.F hsv.2.2.2.2.2.1 hsv.2.2.2.2.2.2
             unfold SV.vd SV.vf at lg
             have HSR : Hid ((Tryz.prog.info? 63).map (·.size) = some ([x.c, x.n, x.a, .slice x.a1 x.n1 x.c1, .slice x.a2 x.n2 x.c2] : List Value).length) := by show _ = _; rw [repSz]; rfl
             have HRAN := Lh hran
             have hk0 : (0 : Int) ≤ k := by omega
             have hk1 : (k : Int) < L.length := by omega
             obtain ⟨q, hq⟩ : ∃ q, q = repL s.S[k].r.D s.S[k].r.F := ⟨_, rfl⟩
             rw [← hq] at lg
             have HQK := Lh hq
             have HKS := Lh hkS
             clear hat hran hsv hx hq hbel
             go_wp2_with (first
              | (refine wpList_load_mid rfl 63 (.tmp 79) rfl b (off + k * 7 + 2) rfl [x.c, x.n, x.a, .slice x.a1 x.n1 x.c1, .slice x.a2 x.n2 x.c2] _ HRAN.out Tryz.underlying63 rfl HSR.out ?_)
              | fail)
             refine lg.mono ?_
             clear lg
             rintro e w5 ⟨rfl, hb5⟩
             have HB5 := Lh (HBL.out.trans (hb5.mono HBL.out.size))
             clear hb5
             cases q with
             | true =>
              have HT : Hid (d = true) := by
               show _ = _
               rw [HQ.out]
               unfold anyL
               rw [List.any_eq_true]
               exact ⟨s.S[k]'HKS.out, List.getElem_mem _, HQK.out.symm⟩
              go_wp2_with fail
              go_ret
              exact ⟨by rw [HT.out]; rfl, HB1.out.trans (HB5.out.mono HB1.out.size)⟩
             | false =>
              have HA2 : Hid (anyL (s.S.take (k + 1)) = false) := HvyPost_len HKS.out HA.out HQK.out.symm
              go_wp2_with fail
              exact ⟨⟨k + 1, by omega, by push_cast; rfl, HA2, HB5.out⟩, by simp [intOf]; omega⟩
            ·
             have HE : Hid (d = false) := by
              have h := HA.out
              rw [List.take_of_length_le (by rw [← HLM.out]; omega)] at h
              show _ = _
              rw [HQ.out]
              exact h
             go_wp2_with fail
             go_ret
             exact ⟨by rw [HE.out]; rfl, HB1.out.trans (HBL.out.mono HB1.out.size)⟩
end Cam
