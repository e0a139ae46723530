import Derived.Test.YtlnclfiiplpaiaaJnLz
import Derived.Test.YtlnclfiiplpaiaaJnLd
/- LogLasts: the walk. -/
namespace Cam
open Go Go.RowKit Go.Proofs

theorem Bss.lit2 {F : Nat → Prop} {w : World} {a : Option Addr} {n c : Nat} {l : List UInt8} (hF : ∀ k, F k → k < w.heap.size) (hb : ∀ w', Kept F w w' → Bs w' (.slice a n c) l) :
    ∀ w', Kept F (w.alloc (.cells #[.slice a n c] 22)) w' → Bss w' (.slice (some ⟨w.heap.size, 0, none⟩) 1 1) [l] := fun w' hk =>
  Bss.mk1 ((hk.block w.heap.size (by simp) (fun e => by have := hF _ e; omega)).trans (heap_new (w := w) rfl)) (hb w' ((Kept.of_below ((Below.refl w.heap.size w).alloc (Nat.le_refl _) _)).weaken (fun _ h => h.elim) |>.trans hk (fun _ _ h => h)))
/-- what the law knows between two lives -/
def LifeR (B : Nat) (wr : World) (g k : Nat) (v5 v6 v7 : Value) : Prop := ∃ (D : DK) (Fd : Nat → Prop) (sn : List UInt8) (al : List (List UInt8)) (a5 a6 a7 : Option Addr) (q5 c5 q6 c6 q7 c7 : Nat), v5 = .slice a5 q5 c5 ∧ v6 = .slice a6 q6 c6 ∧ v7 = .slice a7 q7 c7 ∧ DX wr g Fd 400 D ∧
  ((∀ q, Fd q → B ≤ q) ∧ OnD D ∧ D.op = []) ∧ ((openT 400 D.now).half.gen ≤ k ∧ Fnd (openT 400 D.now).half sn q6 al ∧ al.length ≤ 40 ∧ (∀ r ∈ al, r.length ≤ 300) ∧ sn.length ≤ 300) ∧ Stay Fd wr (fun w' => Bs w' v5 sn) ∧ Stay Fd wr (fun w' => Bss w' v7 al)
/-- within a life: the arguments, and the life's copy in block gx -/
structure Rnd (w : World) (F : Nat → Prop) (w1 : World) (gx : Nat) (cs : List Value) : Prop where
  be : Below w.heap.size w w1
  ge : ∀ q, F q → w.heap.size ≤ q
  ht : HT w1 gx 59 cs
  ne : ¬ F gx
theorem Rnd.next {w w1 w2 : World} {F F' : Nat → Prop} {gx : Nat} {cs : List Value} (h : Rnd w F w1 gx cs) (hk : Kept F w1 w2) (hf : ∀ q, F' q → F q ∨ w1.heap.size ≤ q) : Rnd w F' w2 gx cs := by
  refine ⟨h.be.trans (keptB hk h.ge h.be.size), fun q e => ?_, h.ht.keptJ hk h.ne, fun e => ?_⟩
  · rcases hf q e with e | e
    · exact h.ge q e
    · have := h.be.size; omega
  · rcases hf gx e with e | e
    · exact h.ne e
    · have := h.ht.lt; omega
theorem Rnd.below {w w1 w2 : World} {F : Nat → Prop} {gx : Nat} {cs : List Value} (h : Rnd w F w1 gx cs) (hb : Below w1.heap.size w1 w2) : Rnd w F w2 gx cs := h.next ((Kept.of_below hb).weaken (fun _ e => e.elim)) (fun _ e => .inl e)
theorem Rnd.fewer {w w1 : World} {F F' : Nat → Prop} {gx : Nat} {cs : List Value} (h : Rnd w F w1 gx cs) (hf : ∀ q, F' q → F q) : Rnd w F' w1 gx cs := ⟨h.be, fun q e => h.ge q (hf q e), h.ht, fun e => h.ne (hf gx e)⟩
/-- arguments stay -/
theorem Rnd.bs {w w1 : World} {F : Nat → Prop} {gx : Nat} {cs : List Value} (h : Rnd w F w1 gx cs) {v : Value} {l : List UInt8} (hv : Bs w v l) : Stay F w1 (fun w' => Bs w' v l) := Stay.arg hv h.be h.ge h.be.size rfl
theorem Rnd.bss {w w1 : World} {F : Nat → Prop} {gx : Nat} {cs : List Value} (h : Rnd w F w1 gx cs) {v : Value} {l : List (List UInt8)} (hv : Bss w v l) : Stay F w1 (fun w' => Bss w' v l) := Stay.rows hv h.be h.ge h.be.size rfl
theorem Rnd.is {w w1 : World} {F : Nat → Prop} {gx : Nat} {cs : List Value} (h : Rnd w F w1 gx cs) {v : Value} {l : List Int} (hv : Is w v l) : ∀ w', Kept F w1 w' → Is w' v l := fun _ hk => hv.mono (h.be.trans (keptB hk h.ge h.be.size))

set_option maxRecDepth 100000 in
set_option maxHeartbeats 12800000 in
theorem LogLasts_walk (w : World) (v0 : Value) (ls : List LvT) (h0 : Lvs w v0 ls) :
    Calls Try.prog 9 #[v0] w fun e w' => e = .returned (.bool true) ∧ Below w.heap.size w w' := by
  obtain ⟨a0, c0, rfl, hc0, hm0⟩ := h0.shape
  obtain ⟨n0, hn0⟩ : ∃ z, z = ls.length := ⟨_, rfl⟩
  rw [← hn0] at h0 hc0 ⊢
  have H0 := Lib.hid h0
  have HN0 := Lib.hid hn0
  clear h0 hn0
  by_cases q0 : (12 : Int) < n0
  · go_enter Try.func9, Try.ntmps9
    go_wp2_with fail
    go_ret
    exact ⟨rfl, Below.refl _ _⟩
  have q0' : decide (12 < n0) = false := by simp; omega
  have hn12 : n0 ≤ 12 := by omega
  have hn := New_x w 400 (by omega) (by omega)
  rw [show ((400 : Nat) : Int) = 400 from rfl] at hn
  go_enter Try.func9, Try.ntmps9
  go_wp2_with fail
  refine hn.mono ?_
  clear hn
  rintro e w1 ⟨g, Fd0, rfl, hd1, hf1, hb1⟩
  have HB1 := Lib.hid hb1
  have HST : Hid (LifeR w.heap.size w1 g 0 (.slice none 0 0) (.slice none 0 0) (.slice none 0 0)) := by
    refine ⟨DK.new 400, Fd0, [], [], none, none, none, 0, 0, 0, 0, 0, 0, rfl, rfl, rfl, hd1, ⟨hf1, OnD.new 400, rfl⟩, ?_, fun w' _ => Sl.nil w' 1, fun w' _ => ⟨[], rfl, Sl.nil w' 1, fun i h => absurd h (Nat.not_lt_zero _)⟩⟩
    rw [openT_new]
    exact ⟨Nat.le_refl _, ⟨rfl, Nat.le_refl _, Nat.le_refl _, rfl⟩, by simp, by simp, by simp⟩
  clear hd1 hf1 hb1
  go_wp2_with fail
  go_loopw [5, 6, 7, 8] (fun v5 v6 v7 i wr => ∃ (k : Nat), k ≤ n0 ∧ i = .int .i64 k ∧ Hid (LifeR w.heap.size wr g k v5 v6 v7) ∧ Below w.heap.size w wr) (fun _ _ _ i _ => n0 - (intOf i).toNat)
  case atStart => exact ⟨0, by omega, rfl, HST, HB1.out⟩
  case round =>
    obtain ⟨k, hk, rfl, HL, hb⟩ := hrel
    have HB := Lib.hid hb
    clear hb HST
    obtain ⟨D, Fd, sn, al, a5, a6, a7, q5, c5, q6, c6, q7, c7, rfl, rfl, rfl, hdx, HX, HY, HS5, HS7⟩ := HL.out
    have HDX := Lib.hid hdx
    have HX := Lib.hid HX
    have HY := Lib.hid HY
    have HS5 := Lib.hid HS5
    have HS7 := Lib.hid HS7
    clear HL hdx
    by_cases hlt : k < n0
    · have hkl : k < ls.length := by have := HN0.out; omega
      obtain ⟨b0, o0, rfl, hbl0, hx⟩ := Lvs.at H0.out (by omega)
      obtain ⟨u0, u1, u2, u4, hcs, k0, k1, k2, k4, k5⟩ := hx k hkl
      obtain ⟨xs, hxs⟩ : ∃ z, z = ls[k] := ⟨_, rfl⟩
      rw [← hxs] at hcs k0 k1 k2 k4 k5
      obtain ⟨S, SF, RS, ar, pk⟩ := xs
      simp only at hcs k0 k1 k2 k4 k5
      clear hx hxs
      obtain ⟨p0, d0, rfl, _, _⟩ := k0.shape
      obtain ⟨p1, d1, rfl, _, _⟩ := k1.len
      obtain ⟨p2, d2, rfl, _, _⟩ := k2.len
      obtain ⟨p4, d4, rfl, _, _⟩ := k4.shape
      obtain ⟨m0, hm0⟩ : ∃ z, z = S.length := ⟨_, rfl⟩
      obtain ⟨m1, hm1⟩ : ∃ z, z = SF.length := ⟨_, rfl⟩
      obtain ⟨m2, hm2⟩ : ∃ z, z = RS.length := ⟨_, rfl⟩
      obtain ⟨m4, hm4⟩ : ∃ z, z = pk.length := ⟨_, rfl⟩
      rw [← hm0] at k0 hcs
      rw [← hm1] at k1 hcs
      rw [← hm2] at k2 hcs
      rw [← hm4] at k4 hcs
      have hran : wr.rangeAt b0 (o0 + k * 5) [.slice p0 m0 d0, .slice p1 m1 d1, .slice p2 m2 d2, .int .i64 ar, .slice p4 m4 d4] := fun j u hu => by
        have h9 := hcs j u hu
        exact (Below.cell (p := ⟨b0, o0 + k * 5 + j, none⟩) HB.out (World.block_lt_of_cell? w _ h9)).trans h9
      have HM0 := Lib.hid hm0
      have HM1 := Lib.hid hm1
      have HM2 := Lib.hid hm2
      have HM4 := Lib.hid hm4
      have K0 := Lib.hid k0
      have K1 := Lib.hid k1
      have K2 := Lib.hid k2
      have K4 := Lib.hid k4
      have K5 := Lib.hid k5
      have HRAN := Lib.hid hran
      have hsz5 : (Try.prog.info? 59).map (·.size) = some [Value.slice p0 m0 d0, .slice p1 m1 d1, .slice p2 m2 d2, .int .i64 ar, .slice p4 m4 d4].length := by kernel_rfl
      have HSZ5 := Lib.hid hsz5
      have hk0 : (0 : Int) ≤ k ∧ (k : Int) < n0 ∧ (n0 : Int) ≤ 12 := by omega
      clear hcs k0 k1 k2 k4 k5 hm0 hm1 hm2 hm4 hran hsz5
      obtain ⟨x0, hx0⟩ : ∃ z, z = wr.alloc (.cells #[.slice p0 m0 d0, .slice p1 m1 d1, .slice p2 m2 d2, .int .i64 ar, .slice p4 m4 d4] 59) := ⟨_, rfl⟩
      have hbx : Below wr.heap.size wr x0 := by rw [hx0]; exact (Below.refl _ _).alloc (Nat.le_refl _) _
      obtain ⟨gx, hgx⟩ : ∃ z, z = wr.heap.size := ⟨_, rfl⟩
      have HR0 : Hid (Rnd w Fd x0 gx [Value.slice p0 m0 d0, .slice p1 m1 d1, .slice p2 m2 d2, .int .i64 ar, .slice p4 m4 d4]) := ⟨HB.out.next hbx, HX.out.1, by rw [hx0, hgx]; exact HT.new (C := [Value.slice p0 m0 d0, .slice p1 m1 d1, .slice p2 m2 d2, .int .i64 ar, .slice p4 m4 d4]), fun e => by have := HDX.out.lt gx e; omega⟩
      have HD0 := Lib.hid (HDX.out.below hbx)
      have HS5b : Hid (Stay Fd x0 (fun w' => Bs w' (.slice a5 q5 c5) sn)) := HS5.out.below hbx
      have HS7b : Hid (Stay Fd x0 (fun w' => Bss w' (.slice a7 q7 c7) al)) := HS7.out.below hbx
      have hfew := few_any x0 (.slice p1 m1 d1) SF (HR0.out.bss K1.out).here
      have hfew2 := few_any x0 (.slice p2 m2 d2) RS (HR0.out.bss K2.out).here
      clear hbx
      by_cases q1 : (300 : Int) < m0
      · go_wp2_with (first
                | (refine wpList_load_mid rfl 59 (.tmp 33) rfl b0 (o0 + k * 5) rfl _ _ HRAN.out Try.underlying59 rfl HSZ5.out ?_)
                | fail)
        rw [← hx0, ← hgx]
        go_ret
        exact ⟨rfl, HR0.out.be⟩
      have q1' : decide (300 < m0) = false := by simp; omega
      go_wp2_with (first
        | (refine wpList_load_mid rfl 59 (.tmp 33) rfl b0 (o0 + k * 5) rfl _ _ HRAN.out Try.underlying59 rfl HSZ5.out ?_)
        | fail)
      rw [← hx0, ← hgx]
      clear hx0 hgx HDX HS5 HS7 HB
      have hc2 := HR0.out.ht.cell (j := 2) rfl
      have hc4 := HR0.out.ht.cell (j := 4) rfl
      (with_reducible refine hfew.mono ?_)
      clear hfew
      rintro e w' ⟨bf, rfl, hbf, rfl⟩
      have HBF := Lib.hid hbf
      clear hbf
      cases bf with
      | false =>
        go_wp2_with fail
        go_ret
        exact ⟨rfl, HR0.out.be⟩
      | true =>
        go_wp2_with fail
        (with_reducible refine hfew2.mono ?_)
        clear hfew2
        rintro e w' ⟨bf, rfl, hbg, rfl⟩
        have HBG := Lib.hid hbg
        clear hbg
        cases bf with
        | false =>
          go_wp2_with fail
          go_ret
          exact ⟨rfl, HR0.out.be⟩
        | true =>
          by_cases q3 : (2000 : Int) < m4
          · go_wp2_with fail
            go_ret
            exact ⟨rfl, HR0.out.be⟩
          have q3' : decide (2000 < m4) = false := by simp; omega
          have HSF : Hid (fewR SF) := HBF.out trivial
          have HRS : Hid (fewR RS) := HBG.out rfl
          have HS3 : Hid (S.length ≤ 300) := by show _ ≤ _; have := HM0.out; omega
          clear HBF HBG hc2
          obtain ⟨hfr, hhf, hbeg⟩ := openT_half 400 D.now
          have hop := Open_f x0 g 400 Fd D HD0.out HX.out.2.1.off (by omega)
          obtain ⟨T, hT⟩ : ∃ z, z = openT 400 D.now := ⟨_, rfl⟩
          rw [← hT] at hop hfr hhf hbeg HY
          have HTT := Lib.hid hT
          have HFR := Lib.hid hfr
          have HHF := Lib.hid hhf
          have hsm : T.half.recs.length ≤ 40 ∧ (∀ r ∈ T.half.recs, r.length ≤ 300) ∧ T.half.snap.length ≤ 300 := by
            obtain ⟨f1, f2, f3, f4⟩ := HY.out.2.1
            refine ⟨by have := HY.out.2.2.1; omega, fun r hr => ?_, by rw [f1]; exact HY.out.2.2.2.2⟩
            rw [f4] at hr
            exact HY.out.2.2.2.1 r (List.mem_of_mem_take hr)
          have HSM := Lib.hid hsm
          have HGN : Hid (T.half.gen ≤ k) := HY.out.1
          clear hT hfr hhf hbeg hsm
          go_wp2_with fail
          (with_reducible refine hop.mono ?_)
          clear hop
          rintro e y1 ⟨gl, F1, rfl, hj1, hf1, hb1⟩
          have HR1 := Lib.hid (HR0.out.next ((Kept.of_below hb1).weaken (fun _ e => e.elim)) hf1)
          have HJ1 := Lib.hid hj1
          have hfo := found_any (B := 0) y1 g gl 400 D T hj1.jm0 (.slice a5 q5 c5) (.slice a7 q7 c7) sn a6 q6 c6 al (HS5b.out.more hb1 hf1).here (HS7b.out.more hb1 hf1).here (fun r hr => by have := HSM.out.2.1 r hr; omega) (by have := HSM.out.1; omega) (by have := HSM.out.2.2; omega)
          clear hj1 hf1 hb1 hc4
          go_wp2_with fail
          (with_reducible refine hfo.mono ?_)
          clear hfo
          rintro e y2 ⟨⟨bb, rfl, hbb⟩, hb2⟩
          obtain rfl : bb = true := hbb.2 HY.out.2.1
          have HR2 := Lib.hid (HR1.out.below hb2)
          have HJ2 := Lib.hid (HJ1.out.below hb2)
          have hsn := Snap_j (B := 0) y2 g gl 400 D T HJ2.out.jm0 (by have := HSM.out.2.2; omega)
          clear hbb hb2
          go_wp2_with fail
          (with_reducible refine hsn.mono ?_)
          clear hsn
          rintro e y3 ⟨u8, rfl, hu8, hb3⟩
          have HR3 := Lib.hid (HR2.out.below hb3)
          have HJ3 := Lib.hid (HJ2.out.below hb3)
          have htw := Twin_any y3 u8 _ hu8.bs (by have := HSM.out.2.2; omega)
          clear hu8 hb3
          go_wp2_with fail
          (with_reducible refine htw.mono ?_)
          clear htw
          rintro e y4 ⟨u9, rfl, hu9, hb4⟩
          obtain ⟨a8, q8, c8, rfl, _, hu9⟩ := hu9.named
          have HR4 := Lib.hid (HR3.out.below hb4)
          have HJ4 := Lib.hid (HJ3.out.below hb4)
          have HS8 : Hid (Stay F1 y4 (fun w' => Bs w' (.slice a8 q8 c8) T.half.snap)) := Stay.own hu9 (fun x hx e => by have := hu9.ge x hx; have := HJ3.out.lt x e; omega)
          have hrc := Recs_j (B := 0) y4 g gl 400 D T HJ4.out.jm0 (fun r hr => by have := HSM.out.2.1 r hr; omega) (by have := HSM.out.1; omega)
          clear hu9 hb4
          go_wp2_with fail
          (with_reducible refine hrc.mono ?_)
          clear hrc
          rintro e y5 ⟨v9, rfl, hv9, hb5⟩
          obtain ⟨a9, q9, c9, rfl, hq9, hv9⟩ := hv9.named
          have HQ9 := Lib.hid hq9.out
          have HR5 := Lib.hid (HR4.out.below hb5)
          have HJ5 := Lib.hid (HJ4.out.below hb5)
          have HS8b : Hid (Stay F1 y5 (fun w' => Bs w' (.slice a8 q8 c8) T.half.snap)) := HS8.out.below hb5
          have hrc := Recs_j (B := 0) y5 g gl 400 D T HJ5.out.jm0 (fun r hr => by have := HSM.out.2.1 r hr; omega) (by have := HSM.out.1; omega)
          clear hq9 hv9 hb5 HS8
          go_wp2_with fail
          (with_reducible refine hrc.mono ?_)
          clear hrc
          rintro e y6 ⟨v10, rfl, hv10, hb6⟩
          obtain ⟨aA, qA, cA, rfl, _, hv10⟩ := hv10.named
          have HR6 := Lib.hid (HR5.out.below hb6)
          have HJ6 := Lib.hid (HJ5.out.below hb6)
          have HS9 : Hid (Stay F1 y6 (fun w' => Bs w' (.slice a8 q8 c8) T.half.snap)) := HS8b.out.below hb6
          have HSA : Hid (Stay F1 y6 (fun w' => Bss w' (.slice aA qA cA) T.half.recs)) := Stay.recs hv10 (fun x e1 e2 => by have := HJ5.out.lt x e2; omega)
          have hc3 := HR6.out.ht.cell (j := 3) rfl
          have har := Arm_f y6 g gl 400 D T HJ6.out ar K5.out
          obtain ⟨aa, haa⟩ := dArm_on HX.out.2.1.a ar
          obtain ⟨D2, hD2⟩ : ∃ z, z = dArm D ar := ⟨_, rfl⟩
          have HD2 : Hid (OnA D2 ∧ D2.op = [] ∧ D2.now = D.now) := by
            rw [hD2, haa]
            exact ⟨HX.out.2.1.a.next aa, HX.out.2.2, rfl⟩
          rw [← hD2] at har
          clear hv10 hb6 HS8b haa hD2
          go_wp2_with fail
          (with_reducible refine har.mono ?_)
          clear har
          rintro e y7 ⟨rfl, F2, hj7, hk7, hf7⟩
          have HR7 := Lib.hid (HR6.out.next hk7 hf7)
          have HJ7 := Lib.hid hj7
          have HSB : Hid (Stay F2 y7 (fun w' => Bs w' (.slice a8 q8 c8) T.half.snap)) := HS9.out.next hk7 hf7
          have HSC : Hid (Stay F2 y7 (fun w' => Bss w' (.slice aA qA cA) T.half.recs)) := HSA.out.next hk7 hf7
          have HR6w : Hid ((rowsOf (T.half.gen + 1) 0 S).length ≤ 6) := by show _ ≤ _; rw [rowsOf_length]; unfold needN; have := HS3.out; omega
          have hbg := Begin_g y7 g gl 400 D2 T hj7 (.slice p0 m0 d0) S (HR7.out.bs K0.out) HFR.out (by have := HGN.out; omega) (by have := HS3.out; omega) (by have := HR6w.out; omega) (by rw [HD2.out.2.1]; simp)
          have hba := begin_arm (D := D2) (n := 400) (s := S) HD2.out.1 HD2.out.2.1 (by rw [HD2.out.2.2]; exact HD0.out.ok.now.1) (by rw [HD2.out.2.2, ← HTT.out]; have := HGN.out; omega) (by have := HS3.out; omega) (by rw [HD2.out.2.2, ← HTT.out]; have := HR6w.out; omega)
          rw [HD2.out.2.2, ← HTT.out] at hba
          have hc0 := HR7.out.ht.cell (j := 0) rfl
          clear hc3 hj7 hk7 hf7 HS9 HSA HR0 HR1 HR2 HR3 HR4 HR5 HR6 HJ1 HJ2 HJ3 HJ4 HJ5 HJ6 HS5b HS7b
          rcases hba with ⟨a, e⟩ | ⟨D', e, hcr⟩
          · rw [e, if_pos rfl] at hbg
            clear e
            simp only at hbg
            go_wp2_with fail
            (with_reducible refine hbg.mono ?_)
            clear hbg
            rintro e z0 ⟨rfl, F3, hjz, hkz, hfz⟩
            have HR8 := Lib.hid (HR7.out.next hkz hfz)
            obtain ⟨gn, hgn⟩ : ∃ z, z = T.half.gen := ⟨_, rfl⟩
            obtain ⟨fr, hfr⟩ : ∃ z, z = T.from_ := ⟨_, rfl⟩
            have HGK : Hid (gn ≤ k) := by show _ ≤ _; rw [hgn]; exact HGN.out
            rw [← hgn, ← hfr] at hjz
            have hfit6 : (rowsOf (gn + 1) 0 S).length ≤ 6 := by rw [hgn]; exact HR6w.out
            have hfr2 : fr = 0 ∨ fr = 400 / 2 := by rw [hfr]; exact HFR.out
            have hDn : D.now.length = 400 := HD0.out.ok.now.1
            obtain ⟨hold1, hhold1⟩ := openT_begin (n := 400) (fr := fr) (g := gn) (N := D.now) (s := S) hDn hfr2 (by omega)
            obtain ⟨N1, D3, T3, hj3, HBG, HAP⟩ : ∃ N1 D3 T3, JF F3 z0 g gl 400 D3 T3 ∧ Hid (Begun 400 fr gn D.now N1 S) ∧ Hid (App 400 fr gn N1 S D3 T3 0 []) := by
              refine ⟨_, _, _, hjz, ⟨by rw [puts_length, puts_length, hDn], hfr2, hold1, by rw [hfr, ← HHF.out, hgn], hhold1⟩, ⟨rfl, 0, Nat.zero_le _, by simp [dLaid, idxs], .inl ⟨rfl, (HD2.out.1.laid _).next _, rfl, rfl⟩⟩⟩
            have HJ8 := Lib.hid hj3
            have HF6 := Lib.hid hfit6
            have hc0 := HR8.out.ht.cell (j := 0) rfl
            have HGX : Hid (gx < z0.heap.size) := HR8.out.ht.lt
            have HRR : Hid (∀ j, (recRows (gn + 1) 1 (SF.take j)).length ≤ 120 ∧ (SF.take j).length ≤ 20) := fun j => by
              have h6 : (SF.take j).length ≤ 20 := by rw [List.length_take]; have := HSF.out.1; omega
              have h5 := recRows_300 (g := gn + 1) (SF.take j) 1 (fun x hx => HSF.out.2 x (List.mem_of_mem_take hx))
              exact ⟨by omega, h6⟩
            clear hjz hkz hfz hgn hfr hfit6 hfr2 hDn hold1 hhold1 hj3 HSB HSC HR7 HJ7
            go_wp2_with fail
            go_loopw [7, 11, 12] (fun v7 v11 i wr => ∃ (j : Nat) (E : Int) (Dj : DK) (Tj : LT) (Fj : Nat → Prop) (a : Option Addr) (q c : Nat) (L : List SV), j ≤ m1 ∧ i = .int .i64 j ∧ v11 = .int .i64 E ∧ v7 = .slice a q c ∧ OwnR encS 1 22 wr z0.heap.size (.slice a q c) L ∧ JF Fj wr g gl 400 Dj Tj ∧ Hid (App 400 fr gn N1 S Dj Tj E (SF.take j) ∧ RowsOf w L (SF.take j) ∧ (∀ x, (Value.slice a q c).ownBlock = some x → ¬ Fj x) ∧ q = L.length) ∧ Hid (Rnd w Fj wr gx [Value.slice p0 m0 d0, .slice p1 m1 d1, .slice p2 m2 d2, .int .i64 ar, .slice p4 m4 d4]) ∧ Hid (z0.heap.size ≤ wr.heap.size)) (fun _ _ i _ => m1 - (intOf i).toNat)
            case atStart => exact ⟨0, 0, D3, T3, F3, none, 0, 0, [], by omega, rfl, rfl, rfl, OwnR.empty encS_len _ _ _, HJ8.out, ⟨by rw [List.take_zero]; exact HAP.out, by rw [List.take_zero]; exact RowsOf.nil w, (fun x e => by cases e), rfl⟩, HR8, Nat.le_refl _⟩
            case round =>
              obtain ⟨j, E, Dj, Tj, Fj, a, q, c, L, hj, rfl, rfl, rfl, ho, hjf, HXj, HRj, HZW⟩ := hrel
              have HO := Lib.hid ho
              have HJj := Lib.hid hjf
              clear ho hjf hc0
              have hE : E = 0 ∨ E = 7 := by
                obtain ⟨jj, _, _, h3⟩ := HXj.out.1.2
                rcases h3 with h | h
                · exact .inl h.1
                · exact .inr h
              have hc1 := HRj.out.ht.cell (j := 1) rfl
              have HS7t : Hid (Stay Fj wr (fun w' => Bss w' (.slice a q c) (SF.take j))) := stay_rows HO.out HXj.out.2.2.1 HXj.out.2.1 HRj.out.be HRj.out.ge
              rcases hE with rfl | rfl
              · by_cases hlt : j < m1
                · obtain ⟨bS, oS, hp1, hx⟩ := Bss.at1 K1.out (by have := HM1.out; omega)
                  have hjl : j < SF.length := by have := HM1.out; omega
                  obtain ⟨⟨s1, s2, s3⟩, hs, hbs⟩ := hx j hjl
                  obtain ⟨r, hr⟩ : ∃ z, z = SF[j] := ⟨_, rfl⟩
                  rw [← hr] at hbs
                  have hr300 : r.length ≤ 300 := by rw [hr]; exact HSF.out.2 _ (List.getElem_mem hjl)
                  have htk : SF.take (j + 1) = SF.take j ++ [r] := by rw [List.take_succ_eq_append_getElem hjl, ← hr]
                  have HBS : Hid (Bs w (.slice s1 s2 s3) r) := hbs
                  have HS : Hid (w.cell? ⟨bS, oS + j, none⟩ = some (.slice s1 s2 s3)) := hs
                  have HTK := Lib.hid htk
                  have HR3 := Lib.hid hr300
                  have HP1 := Lib.hid hp1
                  rw [hp1] at hc1
                  have hcell : wr.cell? ⟨bS, oS + j, none⟩ = some (.slice s1 s2 s3) := (Below.cell (p := ⟨bS, oS + j, none⟩) HRj.out.be (World.block_lt_of_cell? w _ hs)).trans hs
                  obtain ⟨happ1, jj, hjj, hop, h3⟩ := HXj.out.1
                  obtain ⟨hon, rfl⟩ : OnA Dj ∧ Tj = ⟨400 / 2 - fr, ⟨gn + 1, S, SF.take j, (rowsOf (gn + 1) 0 S).length + (recRows (gn + 1) 1 (SF.take j)).length⟩, true⟩ := by
                    rcases h3 with h | h
                    · exact ⟨h.2.1, h.2.2.1⟩
                    · cases h
                  have HON := Lib.hid hon
                  have hol : Dj.op.length ≤ 120 := by rw [hop, idxs_length, List.length_take]; have := (HRR.out j).1; omega
                  have HOL := Lib.hid hol
                  have hj0 : (0 : Int) ≤ j ∧ (j : Int) < m1 := by omega
                  have hba : Below wr.heap.size wr (wr.alloc (.cells #[.slice s1 s2 s3] 22)) := (Below.refl _ _).alloc (Nat.le_refl _) _
                  have HO2 := Lib.hid (HO.out.below hba)
                  have HONE : Hid (Rs encS 1 (wr.alloc (.cells #[.slice s1 s2 s3] 22)) (.slice (some ⟨wr.heap.size, 0, none⟩) 1 1) [((s1, s2, s3) : SV)]) := Rs.one encS_len wr ((s1, s2, s3) : SV) 22
                  have hzb : z0.heap.size ≤ (wr.alloc (.cells #[.slice s1 s2 s3] 22)).heap.size := Nat.le_trans HZW.out hba.size
                  have hle : (L.length + [((s1, s2, s3) : SV)].length) * 24 ≤ 140737488355328 := by have := HXj.out.2.1.1; have := (HRR.out j).2; simp; omega
                  have HBA := Lib.hid hba
                  have HC1 : Hid (∀ w9 : World, (wr.alloc (.cells #[.slice s1 s2 s3] 22)).grownBy w9 (Value.slice a q c).ownBlock → Below z0.heap.size (wr.alloc (.cells #[.slice s1 s2 s3] 22)) w9 → w9.cell? ⟨gx, 1, none⟩ = some (.slice (some ⟨bS, oS, none⟩) m1 d1) ∧ w9.cell? ⟨bS, oS + j, none⟩ = some (.slice s1 s2 s3)) := fun w9 hg9 hb9 => by
                    have h1 := ((HRj.out.ht.below HBA.out).keptJ (Kept.of_grown hg9) (fun e => by have := HO.out.ge gx e; have := HGX.out; omega)).cell (j := 1) rfl
                    rw [HP1.out] at h1
                    have h2 : Below w.heap.size w w9 := (HRj.out.be.next HBA.out).trans (hb9.mono (Nat.le_trans HR8.out.be.size (Nat.le_refl _)))
                    exact ⟨h1, (Below.cell (p := ⟨bS, oS + j, none⟩) h2 (World.block_lt_of_cell? w _ HS.out)).trans HS.out⟩
                  clear hx hs hbs hr hr300 htk hp1 happ1 jj hjj hop h3 hon hol hba HS7t
                  go_wp2_with (first
                    | (at_builtin; refine wpList_append_rows (v := .slice a q c) rfl (.tmp 106) (.tmp 112) 23 rfl (L := L) (M := [((s1, s2, s3) : SV)]) (base := z0.heap.size) elem_s rfl rfl HO2.out HONE.out encS_one hle (by decide) hzb ?_; intro a9 n9 c9 w9 Hn9 ho9 hg9 hat9 hb9; clear hc1 hcell; obtain ⟨hc1, hcell⟩ := HC1.out w9 hg9 hb9)
                    | fail)
                  have HO9 := Lib.hid ho9
                  have HZ9 : Hid ((wr.alloc (.cells #[.slice s1 s2 s3] 22)).heap.size ≤ w9.heap.size) := (Kept.of_grown hg9).size
                  have HJ9 := Lib.hid ((HJj.out.below HBA.out).kept (Kept.of_grown hg9) (fun x hx e => HXj.out.2.2.1 x e hx))
                  have HB9 : Hid (Below w.heap.size w w9) := (HRj.out.be.next HBA.out).trans (hb9.mono (Nat.le_trans HR8.out.be.size (Nat.le_refl _)))
                  have HR9 : Hid (Rnd w Fj w9 gx [Value.slice p0 m0 d0, .slice p1 m1 d1, .slice p2 m2 d2, .int .i64 ar, .slice p4 m4 d4]) := ⟨HB9.out, HRj.out.ge, (HRj.out.ht.below HBA.out).keptJ (Kept.of_grown hg9) (fun e => by have := HO.out.ge gx e; have := HGX.out; omega), HRj.out.ne⟩
                  have HOW9 : Hid (∀ x, (Value.slice a9 n9 c9).ownBlock = some x → ¬ Fj x) := fun x hx e => by
                    rcases hat9.out with h | h
                    · exact HXj.out.2.2.1 x (h.symm.trans hx) e
                    · have h2 := h.symm.trans hx
                      simp only [Option.some.injEq] at h2
                      have := HJj.out.lt x e
                      have := HBA.out.size
                      omega
                  have HRW9 : Hid (RowsOf w (L ++ [((s1, s2, s3) : SV)]) (SF.take (j + 1))) := by
                    show RowsOf _ _ _
                    rw [HTK.out]
                    exact HXj.out.2.1.append (RowsOf.one HBS.out)
                  have HN9 : Hid (n9 = (L ++ [((s1, s2, s3) : SV)]).length) := by show _ = _; rw [Hn9.out, List.length_append]
                  have hap := Append_g (w9.alloc (.cells #[.slice s1 s2 s3] 22)) g gl 400 Dj _ (HJ9.out.below ((Below.refl _ _).alloc (Nat.le_refl _) _)) (.slice (some ⟨w9.heap.size, 0, none⟩) 1 1) [r] (Bss.lit2 HJ9.out.lt (HR9.out.bs HBS.out)) rfl HON.out.off (by show 400 / 2 - fr ≤ 400 / 2; omega) (by show (rowsOf (gn + 1) 0 S).length + (recRows (gn + 1) 1 (SF.take j)).length ≤ 400 / 2; have := HF6.out; have := (HRR.out j).1; omega) (by show gn + 1 ≤ _; have := HGK.out; omega) (by show (SF.take j).length ≤ _; have := (HRR.out j).2; omega) (fun x hx => by simp at hx; rw [hx]; have := HR3.out; omega) (by simp) (by have := HOL.out; omega)
                  have happ2 := HXj.out.1.step r (by rw [← HTK.out]; have := HF6.out; have := (HRR.out (j + 1)).1; omega)
                  obtain ⟨AR, hAR⟩ : ∃ z, z = appR 400 Dj ⟨400 / 2 - fr, ⟨gn + 1, S, SF.take j, (rowsOf (gn + 1) 0 S).length + (recRows (gn + 1) 1 (SF.take j)).length⟩, true⟩ [r] := ⟨_, rfl⟩
                  rw [← hAR] at hap happ2
                  rw [← HTK.out] at happ2
                  have HAP2 := Lib.hid happ2
                  clear ho9 hg9 hat9 hb9 Hn9 happ2 hAR hle hzb
                  (with_reducible refine hap.mono ?_)
                  clear hap
                  rintro e x1 ⟨rfl, F6, hj6, hk6, hf6⟩
                  have hwa : Below w9.heap.size w9 (w9.alloc (.cells #[.slice s1 s2 s3] 22)) := (Below.refl _ _).alloc (Nat.le_refl _) _
                  have HO6 := Lib.hid ((HO9.out.below hwa).keptJ hk6 HOW9.out)
                  have HOW6 : Hid (∀ x, (Value.slice a9 n9 c9).ownBlock = some x → ¬ F6 x) := fun x hx e => by
                    rcases hf6 x e with h | h
                    · exact HOW9.out x hx h
                    · have := HO9.out.lt x hx; have := hwa.size; omega
                  have HR6x := Lib.hid ((HR9.out.below hwa).next hk6 hf6)
                  have HJ6x := Lib.hid hj6
                  have HZ6 : Hid (z0.heap.size ≤ x1.heap.size) := Nat.le_trans HZW.out (Nat.le_trans HBA.out.size (Nat.le_trans HZ9.out (Nat.le_trans hwa.size hk6.size)))
                  clear hj6 hk6 hf6 hwa hc1 hcell
                  go_wp2_with fail
                  exact ⟨⟨j + 1, AR.1, AR.2.1, AR.2.2, F6, a9, n9, c9, L ++ [((s1, s2, s3) : SV)], by omega, by push_cast; rfl, rfl, rfl, HO6.out, HJ6x.out, ⟨HAP2.out, HRW9.out, HOW6.out, HN9.out⟩, HR6x, HZ6⟩, by simp [intOf]; omega⟩
                · obtain rfl : j = m1 := by omega
                  have htk : SF.take j = SF := by rw [HM1.out]; exact List.take_length
                  have hft : (recRows (gn + 1) 1 SF).length ≤ 120 := by
                    have h := (HRR.out j).1
                    rw [htk] at h
                    exact h
                  have HFT : Hid ((rowsOf (gn + 1) 0 S).length + (recRows (gn + 1) 1 SF).length ≤ 126) := by show _ ≤ _; have := HF6.out; omega
                  rw [htk] at HXj HS7t
                  obtain ⟨hon, rfl, hlen, hold, hH⟩ := HXj.out.1.held HBG.out (by have := HFT.out; omega)
                  have HHL : Hid (Dj.now.length = 400 ∧ halfOf Dj.now fr (400 / 2) = halfOf D.now fr (400 / 2) ∧ Holds Dj.now (400 / 2 - fr) (400 / 2) (gn + 1) S SF) := ⟨hlen, hold, hH⟩
                  have HQL : Hid (q = SF.length) := by show q = SF.length; rw [HXj.out.2.2.2]; exact HXj.out.2.1.1
                  have hsy := Sync_g wr g gl 400 Dj _ HJj.out
                  have hds := dSync_arm hon
                  clear htk hft hlen hold hH
                  rcases hds with ⟨aa, e⟩ | ⟨D6, e, _, h2, h3⟩
                  · rw [e] at hsy
                    simp only at hsy
                    obtain ⟨D4, hD4⟩ : ∃ z : DK, z = { Dj with syn := Dj.now, op := [], arm := aa } := ⟨_, rfl⟩
                    rw [← hD4] at hsy
                    have HD4 : Hid (OnA D4 ∧ D4.syn = Dj.now ∧ D4.op = []) := by rw [hD4]; exact ⟨⟨hon.off, rfl⟩, rfl, rfl⟩
                    clear e hD4 hon
                    go_wp2_with fail
                    (with_reducible refine hsy.mono ?_)
                    clear hsy
                    rintro e s1 ⟨rfl, F6, hj6, hk6, hf6⟩
                    have HO6 := Lib.hid (HO.out.keptJ hk6 HXj.out.2.2.1)
                    have HR6x := Lib.hid (HRj.out.next hk6 hf6)
                    have HJ6x := Lib.hid hj6
                    obtain ⟨M, hM, hMR⟩ := K2.out.rs
                    have HMM := Lib.hid hM
                    have HMR := Lib.hid hMR
                    have HC2 : Hid (s1.cell? ⟨gx, 2, none⟩ = some (.slice p2 m2 d2)) := HR6x.out.ht.cell (j := 2) rfl
                    have hleA : (([] : List SV).length + L.length) * 24 ≤ 140737488355328 := by have := HXj.out.2.1.1; have := HSF.out.1; simp; omega
                    have hleB : ((([] : List SV) ++ L).length + M.length) * 24 ≤ 140737488355328 := by have := HXj.out.2.1.1; have := HSF.out.1; have := HMR.out.1; have := HRS.out.1; simp; omega
                    clear hj6 hk6 hf6 hM hMR hc1
                    go_wp2_with fail
                    refine wp_region_bl 7 (by kernel_rfl) ?_
                    refine wpAnyU_take (i := 1) (oi := { dst := some 130, op := Op.move (Operand.tmp 7), type := 23, pos := "law.go:216", after := #[], guard := none }) (v := (.slice a q c)) rfl (by kernel_rfl) (by kernel_rfl) (by kernel_rfl) (by kernel_rfl) (by kernel_rfl) (fun _ _ _ h => h) (BL.cls s1) ?_ ?_
                    · refine Or.inl ⟨rfl, fun w hSw => ?_⟩
                      exact EffR.same (by go_simp)
                    try simp only [Act.put, List.setIfInBounds_toArray, List.set_cons_zero, List.set_cons_succ]
                    refine wpAnyU_take (i := 3) (oi := { dst := some 132, op := Op.fieldAddr 59 (Operand.tmp 9) 2, type := 0, pos := "law.go:216", after := #[], guard := none }) (v := (.pointer (some ⟨gx, 2, none⟩))) rfl (by kernel_rfl) (by kernel_rfl) (by kernel_rfl) (by kernel_rfl) (by kernel_rfl) (fun _ _ _ h => h) (BL.cls s1) ?_ ?_
                    · refine Or.inl ⟨rfl, fun w hSw => ?_⟩
                      exact EffR.same (by go_simp)
                    try simp only [Act.put, List.setIfInBounds_toArray, List.set_cons_zero, List.set_cons_succ]
                    refine wpAnyU_take (i := 4) (oi := { dst := some 133, op := Op.load 23 (Operand.tmp 132), type := 23, pos := "law.go:216", after := #[{ on := 3, ground := Ground.data }], guard := none }) (v := (.slice p2 m2 d2)) rfl (by kernel_rfl) (by kernel_rfl) (by kernel_rfl) (by kernel_rfl) (by kernel_rfl) (fun _ _ _ h => h) (BL.cls s1) ?_ ?_
                    · refine Or.inl ⟨rfl, fun w hSw => ?_⟩
                      have e0 := BL.cell hSw HC2.out
                      exact EffR.same (by go_simp)
                    try simp only [Act.put, List.setIfInBounds_toArray, List.set_cons_zero, List.set_cons_succ]
                    refine wpAnyU_ready (rs := [0]) (by kernel_rfl) (by simp) ?_
                    refine AllReadyU.cons (o := { dst := some 129, op := Op.buildSlice 23 0 #[], type := 23, pos := "law.go:216", after := #[], guard := none }) rfl (fun wA0 hA0 K hK => ?_) AllReadyU.nil
                    go_simp
                    have hne : OwnR encS 1 22 (wA0.alloc (.cells #[] 22)) s1.heap.size (.slice (some ⟨wA0.heap.size, 0, none⟩) 0 0) [] := ⟨encS_len, World.ownsRow_made (e := 22) (size := 1) (base := s1.heap.size) wA0 #[] 0 (Below.size hA0) (by simp [maxLen]) rfl⟩
                    have hWb : BL s1 (wA0.alloc (.cells #[] 22)) := Below.alloc hA0 (Below.size hA0) _
                    obtain ⟨wb, hwb⟩ : ∃ z, z = wA0.alloc (.cells #[] 22) := ⟨_, rfl⟩
                    rw [← hwb] at hne hWb ⊢
                    obtain ⟨ge0, hge0⟩ : ∃ z, z = wA0.heap.size := ⟨_, rfl⟩
                    rw [← hge0] at hne ⊢
                    have HNE := Lib.hid hne
                    have HWB := Lib.hid hWb
                    refine hK.out _ _ (BL wb) (BL.cls' HWB.out) (Below.refl _ _) ?_
                    clear hne hWb hwb hge0
                    clear hK K
                    try simp only [Act.put, List.setIfInBounds_toArray, List.set_cons_zero, List.set_cons_succ]
                    refine wpAnyU_ready (rs := [2]) (by kernel_rfl) (by simp) ?_
                    refine AllReadyU.cons (o := { dst := some 131, op := Op.call { callee := Callee.builtin Builtin.append, args := #[Operand.tmp 129, Operand.tmp 130], argTypes := #[23, 23] }, type := 23, pos := "law.go:216", after := #[{ on := 0, ground := Ground.data }, { on := 1, ground := Ground.data }], guard := none }) rfl (fun wA2 hA2 K hK => ?_) AllReadyU.nil
                    have hoA := OwnR.below HNE.out hA2
                    have hrsA : Rs encS 1 wA2 (.slice a q c) L := (HO6.out.below (HWB.out.next hA2)).rs
                    refine step_append_rows (v := .slice (some ⟨ge0, 0, none⟩) 0 0) (vx := .slice a q c) rfl (.tmp 129) (.tmp 130) 23 rfl (L := []) (M := L) (base := s1.heap.size) elem_s rfl rfl hoA hrsA encS_one hleA (by decide) (Below.size (HWB.out.next hA2)) ?_
                    intro aX nX cX wX HnX hoX hgX hatX hbX
                    have hWX : BL s1 wX := Below.trans (HWB.out.next hA2) hbX
                    have HOX := Lib.hid hoX
                    have HWX := Lib.hid hWX
                    refine hK.out _ _ (BL wX) (BL.cls' HWX.out) (Below.refl _ _) ?_
                    clear hoA hrsA HnX hoX hgX hatX hbX hWX
                    clear hK K
                    try simp only [Act.put, List.setIfInBounds_toArray, List.set_cons_zero, List.set_cons_succ]
                    refine wpAnyU_ready (rs := [5]) (by kernel_rfl) (by simp) ?_
                    refine AllReadyU.cons (o := { dst := some 134, op := Op.call { callee := Callee.builtin Builtin.append, args := #[Operand.tmp 131, Operand.tmp 133], argTypes := #[23, 23] }, type := 23, pos := "law.go:216", after := #[{ on := 2, ground := Ground.data }, { on := 4, ground := Ground.data }, { on := 2, ground := Ground.chain }], guard := none }) rfl (fun wA5 hA5 K hK => ?_) AllReadyU.nil
                    have hoB := OwnR.below HOX.out hA5
                    have hrsB : Rs encS 1 wA5 (.slice p2 m2 d2) M := HMM.out.mono (HR6x.out.be.next (HWX.out.next hA5))
                    refine step_append_rows (v := .slice aX nX cX) (vx := .slice p2 m2 d2) rfl (.tmp 131) (.tmp 133) 23 rfl (L := [] ++ L) (M := M) (base := s1.heap.size) elem_s rfl rfl hoB hrsB encS_one hleB (by decide) (Below.size (HWX.out.next hA5)) ?_
                    intro aY nY cY wY HnY hoY hgY hatY hbY
                    have hWY : BL s1 wY := Below.trans (HWX.out.next hA5) hbY
                    have HOY := Lib.hid hoY
                    have HWY := Lib.hid hWY
                    refine hK.out _ _ (BL wY) (BL.cls' HWY.out) (Below.refl _ _) ?_
                    clear hoB hrsB HnY hoY hgY hatY hbY hWY
                    clear hK K
                    try simp only [Act.put, List.setIfInBounds_toArray, List.set_cons_zero, List.set_cons_succ]
                    refine wpAnyU_take (i := 6) (oi := { dst := some 7, op := Op.assign (Operand.tmp 134), type := 23, pos := "law.go:216", after := #[{ on := 5, ground := Ground.data }, { on := 5, ground := Ground.chain }, { on := 0, ground := Ground.phase }, { on := 1, ground := Ground.phase }, { on := 2, ground := Ground.phase }, { on := 3, ground := Ground.phase }, { on := 4, ground := Ground.phase }, { on := 5, ground := Ground.phase }], guard := none }) (v := (.slice aY nY cY)) rfl (by kernel_rfl) (by kernel_rfl) (by kernel_rfl) (by kernel_rfl) (by kernel_rfl) (fun _ _ _ h => h) (BL.cls' HWY.out) ?_ ?_
                    · refine Or.inl ⟨rfl, fun w hSw => ?_⟩
                      exact EffR.same (by go_simp)
                    try simp only [Act.put, List.setIfInBounds_toArray, List.set_cons_zero, List.set_cons_succ]
                    refine wpAnyU_done (by kernel_rfl) (fun w1 hb1 => ?_) _
                    have HWZ : Hid (Below s1.heap.size s1 w1) := HWY.out.next hb1
                    have HOZ := Lib.hid (OwnR.below HOY.out hb1)
                    clear hb1
                    have HRq := Lib.hid (HR6x.out.below HWZ.out)
                    have HJq := Lib.hid (HJ6x.out.below HWZ.out)
                    have hc2 := HRq.out.ht.cell (j := 2) rfl
                    have hap := Append_g w1 g gl 400 D4 _ HJq.out (.slice p2 m2 d2) RS (HRq.out.bss K2.out) rfl HD4.out.1.off (by show 400 / 2 - fr ≤ 400 / 2; omega) (by show (rowsOf (gn + 1) 0 S).length + (recRows (gn + 1) 1 SF).length ≤ 400 / 2; have := HFT.out; omega) (by show gn + 1 ≤ _; have := HGK.out; omega) (by show SF.length ≤ _; have := HSF.out.1; omega) (fun x hx => by have := HRS.out.2 x hx; omega) (by have := HRS.out.1; omega) (by rw [HD4.out.2.2]; simp)
                    have hdue := rest_due (qs := RS) (D := D4) HHL.out.1 HBG.out.side HHL.out.2.1 HBG.out.gen HHL.out.2.2 rfl (by have := HGK.out; omega) (by have := HS3.out; omega) (fun r hr => by have := HSF.out.2 r hr; omega) (fun r hr => by have := HRS.out.2 r hr; omega) (by have := HSF.out.1; have := HRS.out.1; omega) HD4.out.1 HD4.out.2.1 HD4.out.2.2
                    obtain ⟨AR, hAR⟩ : ∃ z, z = appR 400 D4 ⟨400 / 2 - fr, ⟨gn + 1, S, SF, (rowsOf (gn + 1) 0 S).length + (recRows (gn + 1) 1 SF).length⟩, true⟩ RS := ⟨_, rfl⟩
                    rw [← hAR] at hap hdue
                    rw [← HQL.out] at hdue
                    have HDUE := Lib.hid hdue
                    clear hdue hAR
                    go_wp2_with fail
                    (with_reducible refine hap.mono ?_)
                    clear hap
                    rintro e s3 ⟨rfl, F7, hj7, hk7, hf7⟩
                    have HRz := Lib.hid (HRq.out.next hk7 hf7)
                    have HJz := Lib.hid hj7
                    have hoz := HOZ.out.keptJ hk7 (fun x hx e => by have := HOZ.out.ge x hx; have := HJ6x.out.lt x e; omega)
                    have HSt7 : Hid (Stay F7 s3 (fun w' => Bss w' (.slice aY nY cY) (SF ++ RS))) := stay_rows hoz (fun x hx e => by
                      have h8 := HOZ.out.ge x hx
                      have h9 := HOZ.out.lt x hx
                      rcases hf7 x e with h | h
                      · have := HJ6x.out.lt x h; omega
                      · omega) (by rw [List.nil_append]; exact HXj.out.2.1.append HMR.out) HRz.out.be HRz.out.ge
                    clear hj7 hk7 hf7 hoz hc2
                    obtain ⟨Fe, hdx, hsub⟩ := HJz.out.dx
                    have hc4 := HRz.out.ht.cell (j := 4) rfl
                    have hcr := Crash_x s3 g 400 Fe AR.2.1 hdx (.slice p4 m4 d4) pk ((HRz.out.fewer hsub).is K4.out)
                    have HRe := Lib.hid (HRz.out.fewer hsub)
                    have HSe0 : Hid (Stay Fe s3 (fun w' => Bss w' (.slice aY nY cY) ((SF ++ RS)))) := HSt7.out.fewer hsub
                    clear hdx hsub
                    go_wp2_with fail
                    (with_reducible refine hcr.mono ?_)
                    clear hcr
                    rintro e sc ⟨rfl, F4, hd4, hk4, hf4⟩
                    have HRc := Lib.hid (HRe.out.next hk4 hf4)
                    have HSc0 : Hid (Stay F4 sc (fun w' => Bss w' (.slice aY nY cY) ((SF ++ RS)))) := HSe0.out.next hk4 hf4
                    have hst := Start_x sc g 400 F4 _ hd4
                    clear hd4 hk4 hf4 hc4
                    go_wp2_with fail
                    (with_reducible refine hst.mono ?_)
                    clear hst
                    rintro e ss ⟨rfl, F5, hd5, hk5, hf5⟩
                    have HRs := Lib.hid (HRc.out.next hk5 hf5)
                    have HSs0 : Hid (Stay F5 ss (fun w' => Bss w' (.slice aY nY cY) ((SF ++ RS)))) := HSc0.out.next hk5 hf5
                    obtain ⟨D5, hD5⟩ : ∃ z, z = dStart (dCrash AR.2.1 pk) := ⟨_, rfl⟩
                    rw [← hD5] at hd5
                    have HDS := Lib.hid hd5
                    have HD5 : Hid (OnD D5 ∧ D5.op = [] ∧ D5.now = crashN AR.2.1 pk) := by rw [hD5]; exact crash_onD _ _
                    clear hd5 hk5 hf5 hD5
                    have hfd := HDUE.out.fnd pk
                    have HFD := Lib.hid hfd
                    clear hfd
                    go_wp2_with fail
                    exact ⟨⟨k + 1, by omega, by push_cast; rfl, ⟨D5, F5, S, (SF ++ RS), p0, a, aY, m0, d0, q, c, nY, cY, rfl, rfl, rfl, HDS.out, ⟨HRs.out.ge, HD5.out.1, HD5.out.2.1⟩, by rw [HD5.out.2.2]; exact ⟨by rw [HFD.out.2]; have := HGK.out; omega, HFD.out.1, by rw [List.length_append]; have := HSF.out.1; have := HRS.out.1; omega, fun r hr => by rcases List.mem_append.1 hr with h | h; exact HSF.out.2 r h; exact HRS.out.2 r h, HS3.out⟩, HRs.out.bs K0.out, HSs0.out⟩, HRs.out.be⟩, by simp [intOf]; omega⟩
                  · rw [e] at hsy
                    simp only at hsy
                    have HAP6 : Hid (App 400 fr gn N1 S D6 ⟨400 / 2 - fr, ⟨gn + 1, S, SF, (rowsOf (gn + 1) 0 S).length + (recRows (gn + 1) 1 SF).length⟩, true⟩ 7 SF) := by
                      obtain ⟨k1, jj, k2, k3, _⟩ := HXj.out.1
                      exact ⟨h2.trans k1, jj, k2, h3.trans k3, .inr rfl⟩
                    have HDUE : Hid (Due 400 D6 (400 / 2 - fr) (gn + 1) S 0 SF) := HAP6.out.due HBG.out (by have := HFT.out; omega) (by have := HGK.out; omega) (by have := HS3.out; omega) (fun r hr => by have := HSF.out.2 r hr; omega) (by have := HSF.out.1; omega)
                    clear e h2 h3 hon
                    go_wp2_with fail
                    (with_reducible refine hsy.mono ?_)
                    clear hsy
                    rintro e s1 ⟨rfl, F6, hj6, hk6, hf6⟩
                    have HR6x := Lib.hid (HRj.out.next hk6 hf6)
                    have HJ6x := Lib.hid hj6
                    have HSt7 : Hid (Stay F6 s1 (fun w' => Bss w' (.slice a q c) SF)) := HS7t.out.next hk6 hf6
                    clear hj6 hk6 hf6 hc1
                    obtain ⟨Fe, hdx, hsub⟩ := HJ6x.out.dx
                    have hc4 := HR6x.out.ht.cell (j := 4) rfl
                    have hcr := Crash_x s1 g 400 Fe D6 hdx (.slice p4 m4 d4) pk ((HR6x.out.fewer hsub).is K4.out)
                    have HRe := Lib.hid (HR6x.out.fewer hsub)
                    have HSe0 : Hid (Stay Fe s1 (fun w' => Bss w' (.slice a q c) (SF))) := HSt7.out.fewer hsub
                    clear hdx hsub
                    go_wp2_with fail
                    (with_reducible refine hcr.mono ?_)
                    clear hcr
                    rintro e sc ⟨rfl, F4, hd4, hk4, hf4⟩
                    have HRc := Lib.hid (HRe.out.next hk4 hf4)
                    have HSc0 : Hid (Stay F4 sc (fun w' => Bss w' (.slice a q c) (SF))) := HSe0.out.next hk4 hf4
                    have hst := Start_x sc g 400 F4 _ hd4
                    clear hd4 hk4 hf4 hc4
                    go_wp2_with fail
                    (with_reducible refine hst.mono ?_)
                    clear hst
                    rintro e ss ⟨rfl, F5, hd5, hk5, hf5⟩
                    have HRs := Lib.hid (HRc.out.next hk5 hf5)
                    have HSs0 : Hid (Stay F5 ss (fun w' => Bss w' (.slice a q c) (SF))) := HSc0.out.next hk5 hf5
                    obtain ⟨D5, hD5⟩ : ∃ z, z = dStart (dCrash D6 pk) := ⟨_, rfl⟩
                    rw [← hD5] at hd5
                    have HDS := Lib.hid hd5
                    have HD5 : Hid (OnD D5 ∧ D5.op = [] ∧ D5.now = crashN D6 pk) := by rw [hD5]; exact crash_onD _ _
                    clear hd5 hk5 hf5 hD5
                    have hfd := HDUE.out.fnd pk
                    have HFD := Lib.hid hfd
                    clear hfd
                    go_wp2_with fail
                    exact ⟨⟨k + 1, by omega, by push_cast; rfl, ⟨D5, F5, S, SF, p0, none, a, m0, d0, 0, 0, q, c, rfl, rfl, rfl, HDS.out, ⟨HRs.out.ge, HD5.out.1, HD5.out.2.1⟩, by rw [HD5.out.2.2]; exact ⟨by rw [HFD.out.2]; have := HGK.out; omega, HFD.out.1, by have := HSF.out.1; omega, HSF.out.2, HS3.out⟩, HRs.out.bs K0.out, HSs0.out⟩, HRs.out.be⟩, by simp [intOf]; omega⟩
              · have HDUE : Hid (Due 400 Dj (400 / 2 - fr) (gn + 1) S 0 (SF.take j)) := HXj.out.1.due HBG.out (by have := HF6.out; have := (HRR.out j).1; omega) (by have := HGK.out; omega) (by have := HS3.out; omega) (fun r hr => by have := HSF.out.2 r (List.mem_of_mem_take hr); omega) (by have := (HRR.out j).2; omega)
                by_cases hlt : j < m1
                · have hlt2 : (j : Int) < m1 := by omega
                  obtain ⟨Fe, hdx, hsub⟩ := HJj.out.dx
                  have hc4 := HRj.out.ht.cell (j := 4) rfl
                  have hcr := Crash_x wr g 400 Fe Dj hdx (.slice p4 m4 d4) pk ((HRj.out.fewer hsub).is K4.out)
                  have HRe := Lib.hid (HRj.out.fewer hsub)
                  have HSe0 : Hid (Stay Fe wr (fun w' => Bss w' (.slice a q c) ((SF.take j)))) := HS7t.out.fewer hsub
                  clear hdx hsub
                  go_wp2_with fail
                  (with_reducible refine hcr.mono ?_)
                  clear hcr
                  rintro e sc ⟨rfl, F4, hd4, hk4, hf4⟩
                  have HRc := Lib.hid (HRe.out.next hk4 hf4)
                  have HSc0 : Hid (Stay F4 sc (fun w' => Bss w' (.slice a q c) ((SF.take j)))) := HSe0.out.next hk4 hf4
                  have hst := Start_x sc g 400 F4 _ hd4
                  clear hd4 hk4 hf4 hc4
                  go_wp2_with fail
                  (with_reducible refine hst.mono ?_)
                  clear hst
                  rintro e ss ⟨rfl, F5, hd5, hk5, hf5⟩
                  have HRs := Lib.hid (HRc.out.next hk5 hf5)
                  have HSs0 : Hid (Stay F5 ss (fun w' => Bss w' (.slice a q c) ((SF.take j)))) := HSc0.out.next hk5 hf5
                  obtain ⟨D5, hD5⟩ : ∃ z, z = dStart (dCrash Dj pk) := ⟨_, rfl⟩
                  rw [← hD5] at hd5
                  have HDS := Lib.hid hd5
                  have HD5 : Hid (OnD D5 ∧ D5.op = [] ∧ D5.now = crashN Dj pk) := by rw [hD5]; exact crash_onD _ _
                  clear hd5 hk5 hf5 hD5
                  have hfd := HDUE.out.fnd pk
                  have HFD := Lib.hid hfd
                  clear hfd
                  go_wp2_with fail
                  exact ⟨⟨k + 1, by omega, by push_cast; rfl, ⟨D5, F5, S, (SF.take j), p0, none, a, m0, d0, 0, 0, q, c, rfl, rfl, rfl, HDS.out, ⟨HRs.out.ge, HD5.out.1, HD5.out.2.1⟩, by rw [HD5.out.2.2]; exact ⟨by rw [HFD.out.2]; have := HGK.out; omega, HFD.out.1, by rw [List.length_take]; have := HSF.out.1; omega, fun r hr => HSF.out.2 r (List.mem_of_mem_take hr), HS3.out⟩, HRs.out.bs K0.out, HSs0.out⟩, HRs.out.be⟩, by simp [intOf]; omega⟩
                · obtain rfl : j = m1 := by omega
                  obtain ⟨Fe, hdx, hsub⟩ := HJj.out.dx
                  have hc4 := HRj.out.ht.cell (j := 4) rfl
                  have hcr := Crash_x wr g 400 Fe Dj hdx (.slice p4 m4 d4) pk ((HRj.out.fewer hsub).is K4.out)
                  have HRe := Lib.hid (HRj.out.fewer hsub)
                  have HSe0 : Hid (Stay Fe wr (fun w' => Bss w' (.slice a q c) ((SF.take j)))) := HS7t.out.fewer hsub
                  clear hdx hsub
                  go_wp2_with fail
                  (with_reducible refine hcr.mono ?_)
                  clear hcr
                  rintro e sc ⟨rfl, F4, hd4, hk4, hf4⟩
                  have HRc := Lib.hid (HRe.out.next hk4 hf4)
                  have HSc0 : Hid (Stay F4 sc (fun w' => Bss w' (.slice a q c) ((SF.take j)))) := HSe0.out.next hk4 hf4
                  have hst := Start_x sc g 400 F4 _ hd4
                  clear hd4 hk4 hf4 hc4
                  go_wp2_with fail
                  (with_reducible refine hst.mono ?_)
                  clear hst
                  rintro e ss ⟨rfl, F5, hd5, hk5, hf5⟩
                  have HRs := Lib.hid (HRc.out.next hk5 hf5)
                  have HSs0 : Hid (Stay F5 ss (fun w' => Bss w' (.slice a q c) ((SF.take j)))) := HSc0.out.next hk5 hf5
                  obtain ⟨D5, hD5⟩ : ∃ z, z = dStart (dCrash Dj pk) := ⟨_, rfl⟩
                  rw [← hD5] at hd5
                  have HDS := Lib.hid hd5
                  have HD5 : Hid (OnD D5 ∧ D5.op = [] ∧ D5.now = crashN Dj pk) := by rw [hD5]; exact crash_onD _ _
                  clear hd5 hk5 hf5 hD5
                  have hfd := HDUE.out.fnd pk
                  have HFD := Lib.hid hfd
                  clear hfd
                  go_wp2_with fail
                  exact ⟨⟨k + 1, by omega, by push_cast; rfl, ⟨D5, F5, S, (SF.take j), p0, none, a, m0, d0, 0, 0, q, c, rfl, rfl, rfl, HDS.out, ⟨HRs.out.ge, HD5.out.1, HD5.out.2.1⟩, by rw [HD5.out.2.2]; exact ⟨by rw [HFD.out.2]; have := HGK.out; omega, HFD.out.1, by rw [List.length_take]; have := HSF.out.1; omega, fun r hr => HSF.out.2 r (List.mem_of_mem_take hr), HS3.out⟩, HRs.out.bs K0.out, HSs0.out⟩, HRs.out.be⟩, by simp [intOf]; omega⟩
          · rw [e, if_neg (by simp)] at hbg
            have HCR := Lib.hid hcr
            clear e hcr
            simp only at hbg
            go_wp2_with fail
            (with_reducible refine hbg.mono ?_)
            clear hbg
            rintro e z0 ⟨rfl, F3, hj, hkz, hfz⟩
            have HR8 := Lib.hid (HR7.out.next hkz hfz)
            have HJ8 := Lib.hid hj
            have HSd : Hid (Stay F3 z0 (fun w' => Bs w' (.slice a8 q8 c8) T.half.snap)) := HSB.out.next hkz hfz
            have HSf : Hid (Stay F3 z0 (fun w' => Bss w' (.slice aA qA cA) T.half.recs)) := HSC.out.next hkz hfz
            clear hj hkz hfz HSB HSC hc0
            obtain ⟨Fe, hdx, hsub⟩ := HJ8.out.dx
            have hc4 := HR8.out.ht.cell (j := 4) rfl
            have hcr := Crash_x z0 g 400 Fe D' hdx (.slice p4 m4 d4) pk ((HR8.out.fewer hsub).is K4.out)
            have HRe := Lib.hid (HR8.out.fewer hsub)
            have HSe0 : Hid (Stay Fe z0 (fun w' => Bs w' (.slice a8 q8 c8) T.half.snap)) := HSd.out.fewer hsub
            have HSe1 : Hid (Stay Fe z0 (fun w' => Bss w' (.slice aA qA cA) T.half.recs)) := HSf.out.fewer hsub
            clear hdx hsub
            go_wp2_with fail
            (with_reducible refine hcr.mono ?_)
            clear hcr
            rintro e sc ⟨rfl, F4, hd4, hk4, hf4⟩
            have HRc := Lib.hid (HRe.out.next hk4 hf4)
            have HSc0 : Hid (Stay F4 sc (fun w' => Bs w' (.slice a8 q8 c8) T.half.snap)) := HSe0.out.next hk4 hf4
            have HSc1 : Hid (Stay F4 sc (fun w' => Bss w' (.slice aA qA cA) T.half.recs)) := HSe1.out.next hk4 hf4
            have hst := Start_x sc g 400 F4 _ hd4
            clear hd4 hk4 hf4 hc4
            go_wp2_with fail
            (with_reducible refine hst.mono ?_)
            clear hst
            rintro e ss ⟨rfl, F5, hd5, hk5, hf5⟩
            have HRs := Lib.hid (HRc.out.next hk5 hf5)
            have HSs0 : Hid (Stay F5 ss (fun w' => Bs w' (.slice a8 q8 c8) T.half.snap)) := HSc0.out.next hk5 hf5
            have HSs1 : Hid (Stay F5 ss (fun w' => Bss w' (.slice aA qA cA) T.half.recs)) := HSc1.out.next hk5 hf5
            obtain ⟨D5, hD5⟩ : ∃ z, z = dStart (dCrash D' pk) := ⟨_, rfl⟩
            rw [← hD5] at hd5
            have HDS := Lib.hid hd5
            have HD5 : Hid (OnD D5 ∧ D5.op = [] ∧ D5.now = crashN D' pk) := by rw [hD5]; exact crash_onD _ _
            clear hd5 hk5 hf5 hD5
            obtain ⟨T5, hT5⟩ : ∃ z, z = openT 400 D5.now := ⟨_, rfl⟩
            have HT5 : Hid (T5 = T ∨ T5 = ⟨400 / 2 - T.from_, ⟨T.half.gen + 1, S, [], (rowsOf (T.half.gen + 1) 0 S).length⟩, false⟩) := by
              show _ ∨ _
              rw [hT5, HD5.out.2.2]
              exact HCR.out pk
            have hop := Open_f ss g 400 F5 D5 HDS.out HD5.out.1.off (by omega)
            rw [← hT5] at hop
            have HTE := Lib.hid hT5
            have HSM5 : Hid (T5.half.recs.length ≤ 40 ∧ (∀ r ∈ T5.half.recs, r.length ≤ 300) ∧ T5.half.snap.length ≤ 300 ∧ T5.half.gen ≤ k + 1) := by
              rcases HT5.out with e | e
              · rw [e]
                exact ⟨HSM.out.1, HSM.out.2.1, HSM.out.2.2, by have := HGN.out; omega⟩
              · rw [e]
                exact ⟨by simp, fun r hr => by simp at hr, HS3.out, by have := HGN.out; show T.half.gen + 1 ≤ k + 1; omega⟩
            clear hT5
            go_wp2_with fail
            (with_reducible refine hop.mono ?_)
            clear hop
            rintro e z3 ⟨gk, F6, rfl, hj6, hf6, hb6⟩
            have HJk := Lib.hid hj6
            have HBk := Lib.hid hb6
            have HRk := Lib.hid (HRs.out.below hb6)
            have hfo := found_any (B := 0) z3 g gk 400 D5 T5 hj6.jm0 (.slice a8 q8 c8) (.slice aA qA cA) T.half.snap a9 q9 c9 T.half.recs (HSs0.out.below hb6).here (HSs1.out.below hb6).here (fun r hr => by have := HSM5.out.2.1 r hr; omega) (by have := HSM5.out.1; omega) (by have := HSM5.out.2.2.1; omega)
            clear hj6 hf6 hb6
            go_wp2_with fail
            (with_reducible refine hfo.mono ?_)
            clear hfo
            rintro e z4 ⟨⟨bb, rfl, hbb⟩, hb7⟩
            have HBB := Lib.hid hbb
            have HBs4 := Lib.hid (HBk.out.trans (hb7.mono HBk.out.size))
            have HR4 := Lib.hid (HRs.out.below HBs4.out)
            have HJk2 := Lib.hid (HJk.out.below hb7)
            clear hbb hb7
            cases bb with
            | true =>
              go_wp2_with fail
              exact ⟨⟨k + 1, by omega, by push_cast; rfl, ⟨D5, F5, T.half.snap, T.half.recs, a8, a9, aA, q8, c8, q9, c9, qA, cA, rfl, rfl, rfl, HDS.out.below HBs4.out, ⟨HRs.out.ge, HD5.out.1, HD5.out.2.1⟩, by rw [← HTE.out]; exact ⟨HSM5.out.2.2.2, HBB.out.1 (by trivial), HSM.out.1, HSM.out.2.1, HSM.out.2.2⟩, HSs0.out.below HBs4.out, HSs1.out.below HBs4.out⟩, HR4.out.be⟩, by simp [intOf]; omega⟩
            | false =>
              obtain rfl : T5 = ⟨400 / 2 - T.from_, ⟨T.half.gen + 1, S, [], (rowsOf (T.half.gen + 1) 0 S).length⟩, false⟩ := by
                rcases HT5.out with e | e
                · exfalso
                  have h9 := HBB.out.2 (by rw [e]; exact ⟨rfl, by rw [HQ9.out]; exact Nat.le_refl _, Nat.le_refl _, List.take_length.symm⟩)
                  cases h9
                · exact e
              have hc0 := HR4.out.ht.cell (j := 0) rfl
              obtain ⟨W, hW⟩ : ∃ z, z = z4 := ⟨_, rfl⟩
              have HC0 : Hid (W.cell? ⟨gx, 0, none⟩ = some (.slice p0 m0 d0)) := by rw [hW]; exact hc0
              have HRW : Hid (Rnd w F5 W gx [Value.slice p0 m0 d0, .slice p1 m1 d1, .slice p2 m2 d2, .int .i64 ar, .slice p4 m4 d4]) := by rw [hW]; exact HR4.out
              have HJW : Hid (JF F6 W g gk 400 D5 ⟨400 / 2 - T.from_, ⟨T.half.gen + 1, S, [], (rowsOf (T.half.gen + 1) 0 S).length⟩, false⟩) := by rw [hW]; exact HJk2.out
              have HBW : Hid (Below ss.heap.size ss W) := by rw [hW]; exact HBs4.out
              rw [← hW]
              clear hW hc0 HR4 HJk2 HBs4 HJk HRk HBk
              go_wp2_with fail
              refine wp_region_bl 12 (by kernel_rfl) ?_
              refine wpAnyU_take (i := 0) (oi := { dst := some 164, op := Op.move (Operand.tmp 13), type := 30, pos := "law.go:228", after := #[], guard := none }) (v := (.pointer (some ⟨gk, 0, none⟩))) rfl (by kernel_rfl) (by kernel_rfl) (by kernel_rfl) (by kernel_rfl) (by kernel_rfl) (fun _ _ _ h => h) (BL.cls W) ?_ ?_
              · refine Or.inl ⟨rfl, fun w hSw => ?_⟩
                exact EffR.same (by go_simp)
              try simp only [Act.put, List.setIfInBounds_toArray, List.set_cons_zero, List.set_cons_succ]
              refine wpAnyU_take (i := 2) (oi := { dst := some 166, op := Op.fieldAddr 59 (Operand.tmp 9) 0, type := 0, pos := "law.go:228", after := #[], guard := none }) (v := (.pointer (some ⟨gx, 0, none⟩))) rfl (by kernel_rfl) (by kernel_rfl) (by kernel_rfl) (by kernel_rfl) (by kernel_rfl) (fun _ _ _ h => h) (BL.cls W) ?_ ?_
              · refine Or.inl ⟨rfl, fun w hSw => ?_⟩
                exact EffR.same (by go_simp)
              try simp only [Act.put, List.setIfInBounds_toArray, List.set_cons_zero, List.set_cons_succ]
              refine wpAnyU_take (i := 3) (oi := { dst := some 167, op := Op.load 22 (Operand.tmp 166), type := 22, pos := "law.go:228", after := #[{ on := 2, ground := Ground.data }], guard := none }) (v := (.slice p0 m0 d0)) rfl (by kernel_rfl) (by kernel_rfl) (by kernel_rfl) (by kernel_rfl) (by kernel_rfl) (fun _ _ _ h => h) (BL.cls W) ?_ ?_
              · refine Or.inl ⟨rfl, fun w hSw => ?_⟩
                have e0 := BL.cell hSw HC0.out
                exact EffR.same (by go_simp)
              try simp only [Act.put, List.setIfInBounds_toArray, List.set_cons_zero, List.set_cons_succ]
              refine wpAnyU_ready (rs := [1]) (by kernel_rfl) (by simp) ?_
              refine AllReadyU.cons (o := { dst := some 165, op := Op.call { callee := Callee.value (Operand.func 24), args := #[Operand.tmp 164], argTypes := #[30] }, type := 22, pos := "law.go:228", after := #[{ on := 0, ground := Ground.data }], guard := none }) rfl (fun wA1 hA1 K hK => ?_) AllReadyU.nil
              have hs := Snap_j (B := 0) wA1 g gk 400 D5 _ (HJW.out.below hA1).jm0 (by show S.length ≤ _; have := HS3.out; omega)
              go_simp
              refine hs.mono ?_
              rintro e0 wn ⟨u, rfl, hu, hbn⟩
              clear hs
              obtain ⟨au, nu, cu, rfl, _, hu⟩ := hu.named
              have hWn : BL W wn := Below.next hA1 hbn
              have HUS := Lib.hid (OwnB.bs hu)
              have HWN := Lib.hid hWn
              refine hK.out _ _ (BL wn) (BL.cls' hWn) (Below.refl _ _) ?_
              clear hu hbn hWn
              clear hK K
              try simp only [Act.put, List.setIfInBounds_toArray, List.set_cons_zero, List.set_cons_succ]
              refine wpAnyU_ready (rs := [4]) (by kernel_rfl) (by simp) ?_
              refine AllReadyU.cons (o := { dst := some 168, op := Op.call { callee := Callee.value (Operand.func 23), args := #[Operand.tmp 165, Operand.tmp 167], argTypes := #[22, 22] }, type := 4, pos := "law.go:228", after := #[{ on := 1, ground := Ground.data }, { on := 3, ground := Ground.data }, { on := 1, ground := Ground.chain }], guard := none }) rfl (fun wA4 hA4 K hK => ?_) AllReadyU.nil
              have hs := Bytes_any wA4 (.slice au nu cu) (.slice p0 m0 d0) S S (HUS.out.mono hA4) (K0.out.mono (HRW.out.be.trans ((HWN.out.next hA4).mono HRW.out.be.size)))
              rw [decide_eq_true rfl] at hs
              go_simp
              refine hs.mono ?_
              rintro e0 wb ⟨rfl, hbn⟩
              clear hs
              have hWb : BL wn wb := Below.next hA4 hbn
              have HWB := Lib.hid (HWN.out.next hWb)
              refine hK.out _ _ (BL wb) (BL.cls' HWB.out) (Below.refl _ _) ?_
              clear hbn hWb
              clear hK K
              try simp only [Act.put, List.setIfInBounds_toArray, List.set_cons_zero, List.set_cons_succ]
              refine wpAnyU_take (i := 5) (oi := { dst := some 169, op := Op.unOp UnOp.not 4 (Operand.tmp 168), type := 4, pos := "law.go:228", after := #[{ on := 4, ground := Ground.data }], guard := none }) (v := (.bool false)) rfl (by kernel_rfl) (by kernel_rfl) (by kernel_rfl) (by kernel_rfl) (by kernel_rfl) (fun _ _ _ h => h) (BL.cls' HWB.out) ?_ ?_
              · refine Or.inl ⟨rfl, fun w hSw => ?_⟩
                exact EffR.same (by go_simp)
              try simp only [Act.put, List.setIfInBounds_toArray, List.set_cons_zero, List.set_cons_succ]
              refine wpAnyU_take (i := 6) (oi := { dst := some 170, op := Op.move (Operand.tmp 169), type := 4, pos := "law.go:228", after := #[{ on := 5, ground := Ground.data }, { on := 4, ground := Ground.chain }], guard := none }) (v := (.bool false)) rfl (by kernel_rfl) (by kernel_rfl) (by kernel_rfl) (by kernel_rfl) (by kernel_rfl) (fun _ _ _ h => h) (BL.cls' HWB.out) ?_ ?_
              · refine Or.inl ⟨rfl, fun w hSw => ?_⟩
                exact EffR.same (by go_simp)
              try simp only [Act.put, List.setIfInBounds_toArray, List.set_cons_zero, List.set_cons_succ]
              refine wpAnyU_take (i := 7) (oi := { dst := some 171, op := Op.move (Operand.tmp 13), type := 30, pos := "law.go:228", after := #[{ on := 6, ground := Ground.guard }], guard := some (6, false) }) (v := (.pointer (some ⟨gk, 0, none⟩))) rfl (by kernel_rfl) (by kernel_rfl) (by kernel_rfl) (by kernel_rfl) (by kernel_rfl) (fun _ _ _ h => h) (BL.cls' HWB.out) ?_ ?_
              · refine Or.inl ⟨rfl, fun w hSw => ?_⟩
                exact EffR.same (by go_simp)
              try simp only [Act.put, List.setIfInBounds_toArray, List.set_cons_zero, List.set_cons_succ]
              refine wpAnyU_ready (rs := [8]) (by kernel_rfl) (by simp) ?_
              refine AllReadyU.cons (o := { dst := some 172, op := Op.call { callee := Callee.value (Operand.func 19), args := #[Operand.tmp 171], argTypes := #[30] }, type := 23, pos := "law.go:228", after := #[{ on := 7, ground := Ground.data }, { on := 6, ground := Ground.chain }, { on := 6, ground := Ground.guard }], guard := some (6, false) }) rfl (fun wA8 hA8 K hK => ?_) AllReadyU.nil
              have hs := Recs_j (B := 0) wA8 g gk 400 D5 _ ((HJW.out.below HWB.out).below hA8).jm0 (fun x hx => by simp at hx) (by show (0 : Nat) ≤ _; decide)
              go_simp
              refine hs.mono ?_
              rintro e0 wq ⟨u, rfl, hu, hbn⟩
              clear hs
              obtain ⟨av, cv, rfl, _, _⟩ := hu.bss.len
              have hWq : BL wb wq := Below.next hA8 hbn
              have HWQ := Lib.hid (HWB.out.next hWq)
              refine hK.out _ _ (BL wq) (BL.cls' HWQ.out) (Below.refl _ _) ?_
              clear hu hbn hWq
              clear hK K
              try simp only
              refine wpAnyU_take (i := 9) (oi := { dst := some 173, op := Op.call { callee := Callee.builtin Builtin.len, args := #[Operand.tmp 172], argTypes := #[23] }, type := 3, pos := "law.go:228", after := #[{ on := 8, ground := Ground.data }, { on := 6, ground := Ground.guard }], guard := some (6, false) }) (v := (.int .i64 0)) rfl (by kernel_rfl) (by kernel_rfl) (by kernel_rfl) (by kernel_rfl) (by kernel_rfl) (fun _ _ _ h => h) (BL.cls' HWQ.out) ?_ ?_
              · refine Or.inl ⟨rfl, fun w hSw => ?_⟩
                exact EffR.same (by go_simp)
              try simp only [Act.put, List.setIfInBounds_toArray, List.set_cons_zero, List.set_cons_succ]
              refine wpAnyU_take (i := 10) (oi := { dst := some 174, op := Op.binOp BinOp.gtr 3 (Operand.tmp 173) (Operand.const (Value.int IntKind.i64 0)) 3, type := 4, pos := "law.go:228", after := #[{ on := 9, ground := Ground.data }, { on := 6, ground := Ground.guard }], guard := some (6, false) }) (v := (.bool false)) rfl (by kernel_rfl) (by kernel_rfl) (by kernel_rfl) (by kernel_rfl) (by kernel_rfl) (fun _ _ _ h => h) (BL.cls' HWQ.out) ?_ ?_
              · refine Or.inl ⟨rfl, fun w hSw => ?_⟩
                exact EffR.same (by go_simp)
              try simp only [Act.put, List.setIfInBounds_toArray, List.set_cons_zero, List.set_cons_succ]
              refine wpAnyU_take (i := 11) (oi := { dst := some 175, op := Op.pick (Operand.tmp 170) (Operand.const (Value.bool true)) (Operand.tmp 174), type := 4, pos := "law.go:228", after := #[{ on := 6, ground := Ground.data }, { on := 10, ground := Ground.data }], guard := none }) (v := (.bool false)) rfl (by kernel_rfl) (by kernel_rfl) (by kernel_rfl) (by kernel_rfl) (by kernel_rfl) (fun _ _ _ h => h) (BL.cls' HWQ.out) ?_ ?_
              · refine Or.inl ⟨rfl, fun w hSw => ?_⟩
                exact EffR.same (by go_simp)
              try simp only [Act.put, List.setIfInBounds_toArray, List.set_cons_zero, List.set_cons_succ]
              refine wpAnyU_done (by kernel_rfl) (fun w1 hb1 => ?_) _
              have HBE := Lib.hid (HBW.out.trans ((HWQ.out.next hb1).mono HBW.out.size))
              clear hb1
              have hcE := (HRs.out.below HBE.out).ht.cell (j := 0) rfl
              go_wp2_with fail
              exact ⟨⟨k + 1, by omega, by push_cast; rfl, ⟨D5, F5, S, [], p0, none, none, m0, d0, 0, 0, 0, 0, rfl, rfl, rfl, HDS.out.below HBE.out, ⟨HRs.out.ge, HD5.out.1, HD5.out.2.1⟩, by rw [← HTE.out]; exact ⟨HSM5.out.2.2.2, ⟨rfl, Nat.le_refl _, Nat.le_refl _, rfl⟩, by simp, by simp, HS3.out⟩, (HRs.out.below HBE.out).bs K0.out, fun w' _ => ⟨[], rfl, Sl.nil w' 1, fun i h => absurd h (Nat.not_lt_zero _)⟩⟩, (HRs.out.below HBE.out).be⟩, by simp [intOf]; omega⟩
    · obtain rfl : k = n0 := by omega
      have hsm : (openT 400 D.now).half.recs.length ≤ 40 ∧ (∀ r ∈ (openT 400 D.now).half.recs, r.length ≤ 300) ∧ (openT 400 D.now).half.snap.length ≤ 300 := by
        obtain ⟨f1, f2, f3, f4⟩ := HY.out.2.1
        refine ⟨by have := HY.out.2.2.1; omega, fun r hr => ?_, by rw [f1]; exact HY.out.2.2.2.2⟩
        rw [f4] at hr
        exact HY.out.2.2.2.1 r (List.mem_of_mem_take hr)
      have HSM := Lib.hid hsm
      have hop := Open_f wr g 400 Fd D HDX.out HX.out.2.1.off (by omega)
      clear hsm
      go_wp2_with fail
      (with_reducible refine hop.mono ?_)
      clear hop
      rintro e y1 ⟨gl, F1, rfl, hj1, hf1, hb1⟩
      have HB2 := Lib.hid (HB.out.next hb1)
      have hfo := found_any (B := 0) y1 g gl 400 D _ hj1.jm0 (.slice a5 q5 c5) (.slice a7 q7 c7) sn a6 q6 c6 al (HS5.out.more hb1 hf1).here (HS7.out.more hb1 hf1).here (fun r hr => by have := HSM.out.2.1 r hr; omega) (by have := HSM.out.1; omega) (by have := HSM.out.2.2; omega)
      clear hj1 hf1 hb1
      go_wp2_with fail
      (with_reducible refine hfo.mono ?_)
      clear hfo
      rintro e y2 ⟨⟨bb, rfl, hbb⟩, hb2⟩
      obtain rfl : bb = true := hbb.2 HY.out.2.1
      have HB3 := Lib.hid (HB2.out.next hb2)
      have hwk := wakes_any y2
      clear hbb hb2
      go_wp2_with fail
      (with_reducible refine hwk.mono ?_)
      clear hwk
      rintro e y3 ⟨rfl, hb6⟩
      have HB6 := Lib.hid (HB3.out.next hb6)
      clear hb6
      go_wp2_with fail
      go_ret
      exact ⟨rfl, HB6.out⟩
end Cam
