import Derived.Test.YteabnccmomdnpaaCmT
import Derived.Test.YteabnccmomdnpaaCmW
import Derived.Test.YteabnccmomdnpaaCmC
import Derived.Test.YteabnccmomdnpaaClG
import Derived.Test.YteabnccmomdnpaaClY
/- CallExact: the walk. -/
namespace Cam
open Go Go.RowKit Go.Proofs

theorem own_kept {w w' : World} {base : Nat} {v : Value} {l : List CT} {S : Nat → Prop} (h : OwnC w base v l) (hk : Kept S w w') (hS : ∀ g, v.ownBlock = some g → ¬ S g) : OwnC w' base v l := by
  refine ⟨h.1, h.2.1, ?_⟩
  rcases h.2.2 with h2 | ⟨g, cap, cur, rfl, hg, hh, r⟩
  · exact Or.inl h2
  · exact Or.inr ⟨g, cap, cur, rfl, hg, (hk.block g (Array.getElem?_eq_some_iff.1 hh).1 (hS g rfl)).trans hh, r⟩
theorem lateL_len (now : Int) (l : List CT) : (lateL now l).length ≤ l.length := List.length_filter_le _ _
theorem leftL_len (now : Int) (l : List CT) : (leftL now l).length ≤ l.length := List.length_filter_le _ _
theorem woL_len (ws : List Int) (l : List CT) : (withoutL ws l).length ≤ l.length := List.length_filter_le _ _
theorem isOk_eq (l : List CT) : (chkE l == 0) = isOkB l := by
  unfold isOkB
  rw [Bool.eq_iff_iff, beq_iff_eq, decide_eq_true_eq]

set_option maxRecDepth 100000 in
set_option maxHeartbeats 12800000 in
theorem CallExact_walk (W : World) (v0 v4 : Value) (l : List CT) (ws : List Int) (who cur amt at0 now : Int) (h : Cs W v0 l) (hw : Is W v4 ws) :
    Calls Try.prog 7 #[v0, .agg #[.int .i64 who, .int .i64 cur, .int .i64 amt], .int .i64 at0, .int .i64 now, v4] W fun e w' => e = .returned (.bool true) ∧ Below W.heap.size W w' := by
  obtain ⟨av, cap, rfl, hcap, hm⟩ := h.shape
  obtain ⟨aw, capw, rfl, hcapw, hmw⟩ := hw.shape
  have hbW := (Below.refl W.heap.size W).alloc (Nat.le_refl _) (.cells #[.int .i64 who, .int .i64 cur, .int .i64 amt] 26)
  have hn0 := heap_alloc_new W (.cells #[.int .i64 who, .int .i64 cur, .int .i64 amt] 26)
  have hcl : ∀ j u, #[Value.int .i64 who, .int .i64 cur, .int .i64 amt][j]? = some u → (W.alloc (.cells #[.int .i64 who, .int .i64 cur, .int .i64 amt] 26)).cell? ⟨W.heap.size, j, none⟩ = some u := by
    intro j u hu
    unfold World.cell?
    rw [hn0]
    exact hu
  have c0 : _ = some (Value.int .i64 who) := hcl 0 _ rfl
  have c1 : _ = some (Value.int .i64 cur) := hcl 1 _ rfl
  have c2 : _ = some (Value.int .i64 amt) := hcl 2 _ rfl
  have HB0W := Lib.hid hbW
  have hlW := h.mono hbW
  have hwW := hw.mono hbW
  clear hcl hn0 hbW h hw
  obtain ⟨m, hmm⟩ : ∃ m, m = ws.length := ⟨_, rfl⟩
  obtain ⟨n, hn⟩ : ∃ n, n = l.length := ⟨_, rfl⟩
  have HN := Lib.hid hn
  have HM := Lib.hid hmm
  by_cases hlong : 300 < n
  · rw [← hn, ← hmm]
    clear hlW hwW hn hmm
    go_enter Try.func7, Try.ntmps7
    go_wp2_with fail
    go_ret
    exact ⟨rfl, HB0W.out⟩
  · have hlong' : decide ((300 : Int) < (n : Int)) = false := decide_eq_false (by omega)
    by_cases hlongw : 300 < m
    · rw [← hn, ← hmm]
      clear hlW hwW hn hmm
      go_enter Try.func7, Try.ntmps7
      go_wp2_with fail
      go_ret
      exact ⟨rfl, HB0W.out⟩
    · have tw := TwinCalls_any _ _ l hlW (by omega)
      rw [← hn] at hlW tw hcap ⊢
      rw [← hmm] at hwW hcapw ⊢
      have HLL : Hid (l.length ≤ 300) := by show _ ≤ _; omega
      have HL5 : Hid (l.length ≤ 100000) := by show _ ≤ _; omega
      have HLW := Lib.hid hlW
      have HWW := Lib.hid hwW
      obtain ⟨e0, he0⟩ : ∃ x, x = chkE l := ⟨_, rfl⟩
      obtain ⟨b0, hb0⟩ : ∃ x, x = isOkB l := ⟨_, rfl⟩
      have heb : (e0 == 0) = b0 := by rw [he0, hb0]; exact isOk_eq l
      have HE0 := Lib.hid he0
      have HB0 := Lib.hid hb0
      obtain ⟨ov, hov⟩ : ∃ x, x = ofL who cur l := ⟨_, rfl⟩
      have HOV := Lib.hid hov
      clear hn hmm hlW hwW he0 hb0 hov
      have HLONG := Lib.hid hlong
      clear hlong
      go_enter Try.func7, Try.ntmps7
      go_wp2_with fail
      refine tw.mono ?_
      clear tw
      rintro e w1 ⟨ai, ni, ci, rfl, hoi, hb⟩
      have HI := Lib.hid hoi.rs
      have H0 := Lib.hid (HLW.out.mono hb)
      have HW := Lib.hid (HWW.out.mono hb)
      have HBW := Lib.hid (HB0W.out.trans (hb.mono HB0W.out.size))
      have d0 := (Below.cell hb (World.block_lt_of_cell? _ _ c0)).trans c0
      have d1 := (Below.cell hb (World.block_lt_of_cell? _ _ c1)).trans c1
      have d2 := (Below.cell hb (World.block_lt_of_cell? _ _ c2)).trans c2
      have hD : ∀ W2, Below w1.heap.size w1 W2 → W2.cell? ⟨W.heap.size, 0, none⟩ = some (.int .i64 who) ∧ W2.cell? ⟨W.heap.size, 1, none⟩ = some (.int .i64 cur) ∧ W2.cell? ⟨W.heap.size, 2, none⟩ = some (.int .i64 amt) := fun W2 hb =>
        have c : ∀ {p : Addr} {x : Value}, w1.cell? p = some x → W2.cell? p = some x := fun h => (hb.cell (World.block_lt_of_cell? _ _ h)).trans h
        ⟨c d0, c d1, c d2⟩
      have HD := Lib.hid hD
      have HC1 : Hid (Below w1.heap.size w1 w1) := Below.refl _ _
      clear hoi hb c0 c1 c2 d0 d1 d2 hD HLW HWW
      have cc := Check_any _ _ l (HI.out.mono HC1.out) HL5.out
      rw [← HE0.out] at cc
      go_wp2_with fail
      refine cc.mono ?_
      clear cc
      rintro e w2 ⟨rfl, hb⟩
      have HB2 := Lib.hid hb
      have HC2 := Lib.hid (HC1.out.next hb)
      clear hb
      have cc := rCalls_any _ _ l (H0.out.mono HC2.out) HL5.out
      rw [← HB0.out] at cc
      go_wp2_with fail
      refine cc.mono ?_
      clear cc
      rintro e w3 ⟨rfl, hb⟩
      have HB3 := Lib.hid hb
      have HC3 := Lib.hid (HC2.out.next hb)
      clear hb
      obtain ⟨d0, d1, d2⟩ := HD.out _ HC3.out
      have cc := Called_any _ who cur _ l (H0.out.mono HC3.out) HL5.out
      go_wp2_with fail
      refine cc.mono ?_
      clear cc
      rintro e wq ⟨r, rfl, hix, rfl⟩
      have hx := ix_find hix
      rcases hx with ⟨rfl, hf⟩ | ⟨p, hp, rfl, hf⟩
      · have hz : ov = 0 := by rw [HOV.out, ofL_find, hf]
        subst hz
        clear hf hix
        have cc := Of_any _ who cur _ l (HI.out.mono HC3.out) HL5.out
        rw [← HOV.out] at cc
        go_wp2_with fail
        refine cc.mono ?_
        clear cc
        rintro e w4 ⟨rfl, hb⟩
        have HB4 := Lib.hid hb
        have HC4 := Lib.hid (HC3.out.next hb)
        clear hb
        clear d0 d1 d2
        obtain ⟨d0, d1, d2⟩ := HD.out _ HC4.out
        have cc := Ask_any _ (.slice ai ni ci) l who cur amt at0 (HI.out.mono HC4.out) HL5.out
        go_wp2_with fail
        refine cc.mono ?_
        clear cc
        rintro e w5 ⟨aa, na, ca, rfl, hoa, hb⟩
        have HB5 := Lib.hid hb
        have HC5 := Lib.hid (HC4.out.next hb)
        clear hb
        have HX := Lib.hid hoa
        clear hoa
        clear d0 d1 d2
        obtain ⟨d0, d1, d2⟩ := HD.out _ HC5.out
        have cc := rAsk_any _ (.slice av n cap) l who cur amt at0 (H0.out.mono HC5.out) HL5.out
        go_wp2_with fail
        refine cc.mono ?_
        clear cc
        rintro e w6 ⟨ab, nb, cb, rfl, hob, hb⟩
        have HB6 := Lib.hid hb
        have HC6 := Lib.hid (HC5.out.next hb)
        clear hb
        have HXn := Lib.hid (HX.out.below HB6.out)
        clear HX
        have HX := HXn
        clear HXn
        have HY := Lib.hid hob
        clear hob
        clear d0 d1 d2
        have cc := keepCalls_any _ _ _ _ _ HX.out.rs HY.out.rs ⟨by have := askL_len l who cur amt at0; have := HLL.out; omega, by have := askL_len l who cur amt at0; have := HLL.out; omega⟩
        rw [decide_eq_true rfl] at cc
        go_wp2_with fail
        refine cc.mono ?_
        clear cc
        rintro e w7 ⟨rfl, hb⟩
        have HB7 := Lib.hid hb
        have HC7 := Lib.hid (HC6.out.next hb)
        clear hb
        have HXn := Lib.hid (HX.out.below HB7.out)
        clear HX
        have HX := HXn
        clear HXn
        clear HY
        have HS4_7 : Hid (w4.heap.size ≤ w7.heap.size) := Nat.le_trans (Nat.le_trans (Nat.le_trans (Nat.le_refl _) HB5.out.size) HB6.out.size) HB7.out.size
        have cc := spoil_any _ _ _ _ HX.out (by have := askL_len l who cur amt at0; have := HLL.out; omega) HS4_7.out
        go_wp2_with fail
        refine cc.mono ?_
        clear cc
        rintro e w8 ⟨rfl, hb⟩
        have HC8 := Lib.hid (HC7.out.trans (hb.mono HC4.out.size))
        clear HX
        clear hb
        obtain ⟨d0, d1, d2⟩ := HD.out _ HC8.out
        have cc := Meet_any _ (.slice ai ni ci) l who cur amt (HI.out.mono HC8.out) HL5.out
        go_wp2_with fail
        refine cc.mono ?_
        clear cc
        rintro e w9 ⟨aa, na, ca, rfl, hoa, hb⟩
        have HB9 := Lib.hid hb
        have HC9 := Lib.hid (HC8.out.next hb)
        clear hb
        have HX := Lib.hid hoa
        clear hoa
        clear d0 d1 d2
        obtain ⟨d0, d1, d2⟩ := HD.out _ HC9.out
        have cc := rMeet_any _ (.slice av n cap) l who cur amt (H0.out.mono HC9.out) HL5.out
        go_wp2_with fail
        refine cc.mono ?_
        clear cc
        rintro e w10 ⟨ab, nb, cb, rfl, hob, hb⟩
        have HB10 := Lib.hid hb
        have HC10 := Lib.hid (HC9.out.next hb)
        clear hb
        have HXn := Lib.hid (HX.out.below HB10.out)
        clear HX
        have HX := HXn
        clear HXn
        have HY := Lib.hid hob
        clear hob
        clear d0 d1 d2
        have cc := keepCalls_any _ _ _ _ _ HX.out.rs HY.out.rs ⟨by have := meetL_len l who cur amt; have := HLL.out; omega, by have := meetL_len l who cur amt; have := HLL.out; omega⟩
        rw [decide_eq_true rfl] at cc
        go_wp2_with fail
        refine cc.mono ?_
        clear cc
        rintro e w11 ⟨rfl, hb⟩
        have HB11 := Lib.hid hb
        have HC11 := Lib.hid (HC10.out.next hb)
        clear hb
        have HXn := Lib.hid (HX.out.below HB11.out)
        clear HX
        have HX := HXn
        clear HXn
        clear HY
        have HS8_11 : Hid (w8.heap.size ≤ w11.heap.size) := Nat.le_trans (Nat.le_trans (Nat.le_trans (Nat.le_refl _) HB9.out.size) HB10.out.size) HB11.out.size
        have cc := spoil_any _ _ _ _ HX.out (by have := meetL_len l who cur amt; have := HLL.out; omega) HS8_11.out
        go_wp2_with fail
        refine cc.mono ?_
        clear cc
        rintro e w12 ⟨rfl, hb⟩
        have HC12 := Lib.hid (HC11.out.trans (hb.mono HC8.out.size))
        clear HX
        clear hb
        have cc := Late_any _ now (.slice ai ni ci) l (HI.out.mono HC12.out) HL5.out
        go_wp2_with fail
        refine cc.mono ?_
        clear cc
        rintro e w13 ⟨v1, v2, rfl, ho1, ho2, hap, hb⟩
        have HB13 := Lib.hid hb
        have HC13 := Lib.hid (HC12.out.next hb)
        clear hb
        have HX := Lib.hid ho1
        have HZ := Lib.hid ho2
        have HAP := Lib.hid hap
        clear ho1 ho2 hap
        have cc := rLate_any _ now (.slice av n cap) l (H0.out.mono HC13.out) HL5.out
        go_wp2_with fail
        refine cc.mono ?_
        clear cc
        rintro e w14 ⟨u1, u2, rfl, ho1, ho2, hap, hb⟩
        have HB14 := Lib.hid hb
        have HC14 := Lib.hid (HC13.out.next hb)
        clear hb
        have HXn := Lib.hid (HX.out.below HB14.out)
        clear HX
        have HX := HXn
        clear HXn
        have HZn := Lib.hid (HZ.out.below HB14.out)
        clear HZ
        have HZ := HZn
        clear HZn
        have HY := Lib.hid ho1
        have HV := Lib.hid ho2
        clear ho1 ho2 hap
        have cc := keepCalls_any _ _ _ _ _ HX.out.rs HY.out.rs ⟨by have := lateL_len now l; have := HLL.out; omega, by have := lateL_len now l; have := HLL.out; omega⟩
        rw [decide_eq_true rfl] at cc
        go_wp2_with fail
        refine cc.mono ?_
        clear cc
        rintro e w15 ⟨rfl, hb⟩
        have HB15 := Lib.hid hb
        have HC15 := Lib.hid (HC14.out.next hb)
        clear hb
        have HXn := Lib.hid (HX.out.below HB15.out)
        clear HX
        have HX := HXn
        clear HXn
        have HZn := Lib.hid (HZ.out.below HB15.out)
        clear HZ
        have HZ := HZn
        clear HZn
        have HYn := Lib.hid (HY.out.below HB15.out)
        clear HY
        have HY := HYn
        clear HYn
        have HVn := Lib.hid (HV.out.below HB15.out)
        clear HV
        have HV := HVn
        clear HVn
        have cc := keepCalls_any _ _ _ _ _ HZ.out.rs HV.out.rs ⟨by have := leftL_len now l; have := HLL.out; omega, by have := leftL_len now l; have := HLL.out; omega⟩
        rw [decide_eq_true rfl] at cc
        go_wp2_with fail
        refine cc.mono ?_
        clear cc
        rintro e w16 ⟨rfl, hb⟩
        have HB16 := Lib.hid hb
        have HC16 := Lib.hid (HC15.out.next hb)
        clear hb
        have HXn := Lib.hid (HX.out.below HB16.out)
        clear HX
        have HX := HXn
        clear HXn
        have HZn := Lib.hid (HZ.out.below HB16.out)
        clear HZ
        have HZ := HZn
        clear HZn
        have HYn := Lib.hid (HY.out.below HB16.out)
        clear HY
        have HY := HYn
        clear HYn
        have HVn := Lib.hid (HV.out.below HB16.out)
        clear HV
        have HV := HVn
        clear HVn
        clear HY HV
        have HS12_16 : Hid (w12.heap.size ≤ w16.heap.size) := Nat.le_trans (Nat.le_trans (Nat.le_trans (Nat.le_trans (Nat.le_refl _) HB13.out.size) HB14.out.size) HB15.out.size) HB16.out.size
        have cc := spoil_own _ _ _ _ HX.out (by have := lateL_len now l; have := HLL.out; omega) HS12_16.out
        go_wp2_with fail
        refine cc.mono ?_
        clear cc
        rintro e w17 ⟨rfl, hb, hkp⟩
        have HC17 := Lib.hid (HC16.out.trans (hb.mono HC12.out.size))
        have HZn := Lib.hid (own_kept HZ.out hkp (fun g h1 h2 => HAP.out g h2 h1))
        have HSZ : Hid (w12.heap.size ≤ w17.heap.size) := Nat.le_trans HS12_16.out hb.size
        clear HZ HX hb hkp
        have cc := spoil_any _ _ _ _ HZn.out (by have := leftL_len now l; have := HLL.out; omega) HSZ.out
        go_wp2_with fail
        refine cc.mono ?_
        clear cc
        rintro e w18 ⟨rfl, hb⟩
        have HC18 := Lib.hid (HC17.out.trans (hb.mono HC12.out.size))
        clear HZn hb
        have cc := Without_any _ (.slice ai ni ci) (.slice aw m capw) l ws (HI.out.mono HC18.out) (HW.out.mono HC18.out) HL5.out
        go_wp2_with fail
        refine cc.mono ?_
        clear cc
        rintro e w19 ⟨v1, rfl, ho1, hb⟩
        have HB19 := Lib.hid hb
        have HC19 := Lib.hid (HC18.out.next hb)
        clear hb
        have HX := Lib.hid ho1
        clear ho1
        have cc := rWithout_any _ (.slice av n cap) (.slice aw m capw) l ws (H0.out.mono HC19.out) (HW.out.mono HC19.out) HL5.out
        go_wp2_with fail
        refine cc.mono ?_
        clear cc
        rintro e w20 ⟨v2, rfl, ho1, hb⟩
        have HB20 := Lib.hid hb
        have HC20 := Lib.hid (HC19.out.next hb)
        clear hb
        have HXn := Lib.hid (HX.out.below HB20.out)
        clear HX
        have HX := HXn
        clear HXn
        have HY := Lib.hid ho1
        clear ho1
        have cc := keepCalls_any _ _ _ _ _ HX.out.rs HY.out.rs ⟨by have := woL_len ws l; have := HLL.out; omega, by have := woL_len ws l; have := HLL.out; omega⟩
        rw [decide_eq_true rfl] at cc
        go_wp2_with fail
        refine cc.mono ?_
        clear cc
        rintro e w21 ⟨rfl, hb⟩
        have HB21 := Lib.hid hb
        have HC21 := Lib.hid (HC20.out.next hb)
        clear hb
        have HXn := Lib.hid (HX.out.below HB21.out)
        clear HX
        have HX := HXn
        clear HXn
        clear HY
        have HS18_21 : Hid (w18.heap.size ≤ w21.heap.size) := Nat.le_trans (Nat.le_trans (Nat.le_trans (Nat.le_refl _) HB19.out.size) HB20.out.size) HB21.out.size
        have cc := spoil_any _ _ _ _ HX.out (by have := woL_len ws l; have := HLL.out; omega) HS18_21.out
        go_wp2_with fail
        refine cc.mono ?_
        clear cc
        rintro e w22 ⟨rfl, hb⟩
        have HC22 := Lib.hid (HC21.out.trans (hb.mono HC18.out.size))
        clear HX hb
        have cc := keepCalls_any _ _ _ l l (HI.out.mono HC22.out) (H0.out.mono HC22.out) ⟨HL5.out, HL5.out⟩
        rw [decide_eq_true rfl] at cc
        go_wp2_with fail
        refine cc.mono ?_
        clear cc
        rintro e w23 ⟨rfl, hb⟩
        have HB23 := Lib.hid hb
        have HC23 := Lib.hid (HC22.out.next hb)
        clear hb
        have cc := wakes18_any w23
        go_wp2_with fail
        refine cc.mono ?_
        clear cc
        rintro e w24 ⟨rfl, hb⟩
        have HB24 := Lib.hid hb
        have HC24 := Lib.hid (HC23.out.next hb)
        clear hb
        go_wp2_with fail
        go_ret
        exact ⟨rfl, HBW.out.trans (HC24.out.mono HBW.out.size)⟩
      · obtain ⟨bl, off, rfl, _, hcs⟩ := Cs.at4 (H0.out.mono HC3.out) (by omega)
        obtain ⟨m0, m1, m2, m3⟩ := hcs p hp
        have hz : l[p].amt = ov := by rw [HOV.out, ofL_find, hf]
        rw [hz] at m2
        have hpn : p < n := by have := HN.out; omega
        clear hf hix hcs m0 m1 m3 hz hp
        have cc := Of_any _ who cur _ l (HI.out.mono HC3.out) HL5.out
        rw [← HOV.out] at cc
        go_wp2_with fail
        refine cc.mono ?_
        clear cc
        rintro e w4 ⟨rfl, hb⟩
        have HB4 := Lib.hid hb
        have HC4 := Lib.hid (HC3.out.next hb)
        clear hb
        clear d0 d1 d2
        obtain ⟨d0, d1, d2⟩ := HD.out _ HC4.out
        have cc := Ask_any _ (.slice ai ni ci) l who cur amt at0 (HI.out.mono HC4.out) HL5.out
        go_wp2_with fail
        refine cc.mono ?_
        clear cc
        rintro e w5 ⟨aa, na, ca, rfl, hoa, hb⟩
        have HB5 := Lib.hid hb
        have HC5 := Lib.hid (HC4.out.next hb)
        clear hb
        have HX := Lib.hid hoa
        clear hoa
        clear d0 d1 d2
        obtain ⟨d0, d1, d2⟩ := HD.out _ HC5.out
        have cc := rAsk_any _ (.slice (some ⟨bl, off, none⟩) n cap) l who cur amt at0 (H0.out.mono HC5.out) HL5.out
        go_wp2_with fail
        refine cc.mono ?_
        clear cc
        rintro e w6 ⟨ab, nb, cb, rfl, hob, hb⟩
        have HB6 := Lib.hid hb
        have HC6 := Lib.hid (HC5.out.next hb)
        clear hb
        have HXn := Lib.hid (HX.out.below HB6.out)
        clear HX
        have HX := HXn
        clear HXn
        have HY := Lib.hid hob
        clear hob
        clear d0 d1 d2
        have cc := keepCalls_any _ _ _ _ _ HX.out.rs HY.out.rs ⟨by have := askL_len l who cur amt at0; have := HLL.out; omega, by have := askL_len l who cur amt at0; have := HLL.out; omega⟩
        rw [decide_eq_true rfl] at cc
        go_wp2_with fail
        refine cc.mono ?_
        clear cc
        rintro e w7 ⟨rfl, hb⟩
        have HB7 := Lib.hid hb
        have HC7 := Lib.hid (HC6.out.next hb)
        clear hb
        have HXn := Lib.hid (HX.out.below HB7.out)
        clear HX
        have HX := HXn
        clear HXn
        clear HY
        have HS4_7 : Hid (w4.heap.size ≤ w7.heap.size) := Nat.le_trans (Nat.le_trans (Nat.le_trans (Nat.le_refl _) HB5.out.size) HB6.out.size) HB7.out.size
        have cc := spoil_any _ _ _ _ HX.out (by have := askL_len l who cur amt at0; have := HLL.out; omega) HS4_7.out
        go_wp2_with fail
        refine cc.mono ?_
        clear cc
        rintro e w8 ⟨rfl, hb⟩
        have HC8 := Lib.hid (HC7.out.trans (hb.mono HC4.out.size))
        clear HX
        clear hb
        obtain ⟨d0, d1, d2⟩ := HD.out _ HC8.out
        have cc := Meet_any _ (.slice ai ni ci) l who cur amt (HI.out.mono HC8.out) HL5.out
        go_wp2_with fail
        refine cc.mono ?_
        clear cc
        rintro e w9 ⟨aa, na, ca, rfl, hoa, hb⟩
        have HB9 := Lib.hid hb
        have HC9 := Lib.hid (HC8.out.next hb)
        clear hb
        have HX := Lib.hid hoa
        clear hoa
        clear d0 d1 d2
        obtain ⟨d0, d1, d2⟩ := HD.out _ HC9.out
        have cc := rMeet_any _ (.slice (some ⟨bl, off, none⟩) n cap) l who cur amt (H0.out.mono HC9.out) HL5.out
        go_wp2_with fail
        refine cc.mono ?_
        clear cc
        rintro e w10 ⟨ab, nb, cb, rfl, hob, hb⟩
        have HB10 := Lib.hid hb
        have HC10 := Lib.hid (HC9.out.next hb)
        clear hb
        have HXn := Lib.hid (HX.out.below HB10.out)
        clear HX
        have HX := HXn
        clear HXn
        have HY := Lib.hid hob
        clear hob
        clear d0 d1 d2
        have cc := keepCalls_any _ _ _ _ _ HX.out.rs HY.out.rs ⟨by have := meetL_len l who cur amt; have := HLL.out; omega, by have := meetL_len l who cur amt; have := HLL.out; omega⟩
        rw [decide_eq_true rfl] at cc
        go_wp2_with fail
        refine cc.mono ?_
        clear cc
        rintro e w11 ⟨rfl, hb⟩
        have HB11 := Lib.hid hb
        have HC11 := Lib.hid (HC10.out.next hb)
        clear hb
        have HXn := Lib.hid (HX.out.below HB11.out)
        clear HX
        have HX := HXn
        clear HXn
        clear HY
        have HS8_11 : Hid (w8.heap.size ≤ w11.heap.size) := Nat.le_trans (Nat.le_trans (Nat.le_trans (Nat.le_refl _) HB9.out.size) HB10.out.size) HB11.out.size
        have cc := spoil_any _ _ _ _ HX.out (by have := meetL_len l who cur amt; have := HLL.out; omega) HS8_11.out
        go_wp2_with fail
        refine cc.mono ?_
        clear cc
        rintro e w12 ⟨rfl, hb⟩
        have HC12 := Lib.hid (HC11.out.trans (hb.mono HC8.out.size))
        clear HX
        clear hb
        have cc := Late_any _ now (.slice ai ni ci) l (HI.out.mono HC12.out) HL5.out
        go_wp2_with fail
        refine cc.mono ?_
        clear cc
        rintro e w13 ⟨v1, v2, rfl, ho1, ho2, hap, hb⟩
        have HB13 := Lib.hid hb
        have HC13 := Lib.hid (HC12.out.next hb)
        clear hb
        have HX := Lib.hid ho1
        have HZ := Lib.hid ho2
        have HAP := Lib.hid hap
        clear ho1 ho2 hap
        have cc := rLate_any _ now (.slice (some ⟨bl, off, none⟩) n cap) l (H0.out.mono HC13.out) HL5.out
        go_wp2_with fail
        refine cc.mono ?_
        clear cc
        rintro e w14 ⟨u1, u2, rfl, ho1, ho2, hap, hb⟩
        have HB14 := Lib.hid hb
        have HC14 := Lib.hid (HC13.out.next hb)
        clear hb
        have HXn := Lib.hid (HX.out.below HB14.out)
        clear HX
        have HX := HXn
        clear HXn
        have HZn := Lib.hid (HZ.out.below HB14.out)
        clear HZ
        have HZ := HZn
        clear HZn
        have HY := Lib.hid ho1
        have HV := Lib.hid ho2
        clear ho1 ho2 hap
        have cc := keepCalls_any _ _ _ _ _ HX.out.rs HY.out.rs ⟨by have := lateL_len now l; have := HLL.out; omega, by have := lateL_len now l; have := HLL.out; omega⟩
        rw [decide_eq_true rfl] at cc
        go_wp2_with fail
        refine cc.mono ?_
        clear cc
        rintro e w15 ⟨rfl, hb⟩
        have HB15 := Lib.hid hb
        have HC15 := Lib.hid (HC14.out.next hb)
        clear hb
        have HXn := Lib.hid (HX.out.below HB15.out)
        clear HX
        have HX := HXn
        clear HXn
        have HZn := Lib.hid (HZ.out.below HB15.out)
        clear HZ
        have HZ := HZn
        clear HZn
        have HYn := Lib.hid (HY.out.below HB15.out)
        clear HY
        have HY := HYn
        clear HYn
        have HVn := Lib.hid (HV.out.below HB15.out)
        clear HV
        have HV := HVn
        clear HVn
        have cc := keepCalls_any _ _ _ _ _ HZ.out.rs HV.out.rs ⟨by have := leftL_len now l; have := HLL.out; omega, by have := leftL_len now l; have := HLL.out; omega⟩
        rw [decide_eq_true rfl] at cc
        go_wp2_with fail
        refine cc.mono ?_
        clear cc
        rintro e w16 ⟨rfl, hb⟩
        have HB16 := Lib.hid hb
        have HC16 := Lib.hid (HC15.out.next hb)
        clear hb
        have HXn := Lib.hid (HX.out.below HB16.out)
        clear HX
        have HX := HXn
        clear HXn
        have HZn := Lib.hid (HZ.out.below HB16.out)
        clear HZ
        have HZ := HZn
        clear HZn
        have HYn := Lib.hid (HY.out.below HB16.out)
        clear HY
        have HY := HYn
        clear HYn
        have HVn := Lib.hid (HV.out.below HB16.out)
        clear HV
        have HV := HVn
        clear HVn
        clear HY HV
        have HS12_16 : Hid (w12.heap.size ≤ w16.heap.size) := Nat.le_trans (Nat.le_trans (Nat.le_trans (Nat.le_trans (Nat.le_refl _) HB13.out.size) HB14.out.size) HB15.out.size) HB16.out.size
        have cc := spoil_own _ _ _ _ HX.out (by have := lateL_len now l; have := HLL.out; omega) HS12_16.out
        go_wp2_with fail
        refine cc.mono ?_
        clear cc
        rintro e w17 ⟨rfl, hb, hkp⟩
        have HC17 := Lib.hid (HC16.out.trans (hb.mono HC12.out.size))
        have HZn := Lib.hid (own_kept HZ.out hkp (fun g h1 h2 => HAP.out g h2 h1))
        have HSZ : Hid (w12.heap.size ≤ w17.heap.size) := Nat.le_trans HS12_16.out hb.size
        clear HZ HX hb hkp
        have cc := spoil_any _ _ _ _ HZn.out (by have := leftL_len now l; have := HLL.out; omega) HSZ.out
        go_wp2_with fail
        refine cc.mono ?_
        clear cc
        rintro e w18 ⟨rfl, hb⟩
        have HC18 := Lib.hid (HC17.out.trans (hb.mono HC12.out.size))
        clear HZn hb
        have cc := Without_any _ (.slice ai ni ci) (.slice aw m capw) l ws (HI.out.mono HC18.out) (HW.out.mono HC18.out) HL5.out
        go_wp2_with fail
        refine cc.mono ?_
        clear cc
        rintro e w19 ⟨v1, rfl, ho1, hb⟩
        have HB19 := Lib.hid hb
        have HC19 := Lib.hid (HC18.out.next hb)
        clear hb
        have HX := Lib.hid ho1
        clear ho1
        have cc := rWithout_any _ (.slice (some ⟨bl, off, none⟩) n cap) (.slice aw m capw) l ws (H0.out.mono HC19.out) (HW.out.mono HC19.out) HL5.out
        go_wp2_with fail
        refine cc.mono ?_
        clear cc
        rintro e w20 ⟨v2, rfl, ho1, hb⟩
        have HB20 := Lib.hid hb
        have HC20 := Lib.hid (HC19.out.next hb)
        clear hb
        have HXn := Lib.hid (HX.out.below HB20.out)
        clear HX
        have HX := HXn
        clear HXn
        have HY := Lib.hid ho1
        clear ho1
        have cc := keepCalls_any _ _ _ _ _ HX.out.rs HY.out.rs ⟨by have := woL_len ws l; have := HLL.out; omega, by have := woL_len ws l; have := HLL.out; omega⟩
        rw [decide_eq_true rfl] at cc
        go_wp2_with fail
        refine cc.mono ?_
        clear cc
        rintro e w21 ⟨rfl, hb⟩
        have HB21 := Lib.hid hb
        have HC21 := Lib.hid (HC20.out.next hb)
        clear hb
        have HXn := Lib.hid (HX.out.below HB21.out)
        clear HX
        have HX := HXn
        clear HXn
        clear HY
        have HS18_21 : Hid (w18.heap.size ≤ w21.heap.size) := Nat.le_trans (Nat.le_trans (Nat.le_trans (Nat.le_refl _) HB19.out.size) HB20.out.size) HB21.out.size
        have cc := spoil_any _ _ _ _ HX.out (by have := woL_len ws l; have := HLL.out; omega) HS18_21.out
        go_wp2_with fail
        refine cc.mono ?_
        clear cc
        rintro e w22 ⟨rfl, hb⟩
        have HC22 := Lib.hid (HC21.out.trans (hb.mono HC18.out.size))
        clear HX hb
        have cc := keepCalls_any _ _ _ l l (HI.out.mono HC22.out) (H0.out.mono HC22.out) ⟨HL5.out, HL5.out⟩
        rw [decide_eq_true rfl] at cc
        go_wp2_with fail
        refine cc.mono ?_
        clear cc
        rintro e w23 ⟨rfl, hb⟩
        have HB23 := Lib.hid hb
        have HC23 := Lib.hid (HC22.out.next hb)
        clear hb
        have cc := wakes18_any w23
        go_wp2_with fail
        refine cc.mono ?_
        clear cc
        rintro e w24 ⟨rfl, hb⟩
        have HB24 := Lib.hid hb
        have HC24 := Lib.hid (HC23.out.next hb)
        clear hb
        go_wp2_with fail
        go_ret
        exact ⟨rfl, HBW.out.trans (HC24.out.mono HBW.out.size)⟩
end Cam
