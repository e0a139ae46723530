import Derived.Test.YtlnclfiiplpaiaaJnY
import Derived.Test.YtlnclfiiplpaiaaJnMs
import Derived.Test.YtlnclfiiplpaiaaJnL2
/- LogParts: the walk. -/
namespace Cam
open Go Go.RowKit Go.Proofs

theorem Bss.lit1 {B : Nat} {w0 w : World} {a : Option Addr} {n c : Nat} {l : List UInt8} (hsz : w0.heap.size ≤ w.heap.size) (hb : ∀ w', Kept (JS B w0) (w.alloc (.cells #[.slice a n c] 22)) w' → Bs w' (.slice a n c) l) :
    ∀ w', Kept (JS B w0) (w.alloc (.cells #[.slice a n c] 22)) w' → Bss w' (.slice (some ⟨w.heap.size, 0, none⟩) 1 1) [l] := fun w' hk =>
  Bss.mk1 ((hk.block w.heap.size (by simp) (fun e => by have := e.2; omega)).trans (heap_new (w := w) rfl)) (hb w' hk)

theorem first2_snoc {s : List UInt8} {rs : List (List UInt8)} {k : Nat} (hk : k < rs.length) : puts (first2 300 s (rs.take k)) ((rowsOf 1 0 s).length + (recRows 1 1 (rs.take k)).length) (recRows 1 (k + 1) [rs[k]]) = first2 300 s (rs.take (k + 1)) ∧ recRows 1 1 (rs.take (k + 1)) = recRows 1 1 (rs.take k) ++ recRows 1 (k + 1) [rs[k]] := by
  have e : recRows 1 1 (rs.take (k + 1)) = recRows 1 1 (rs.take k) ++ recRows 1 (k + 1) [rs[k]] := by
    rw [List.take_succ_eq_append_getElem hk, recRows_append, List.length_take, Nat.min_eq_left (by omega), Nat.add_comm 1]
  refine ⟨?_, e⟩
  unfold first2
  rw [e, puts_append]

set_option maxRecDepth 100000 in
set_option maxHeartbeats 6400000 in
theorem LogParts_walk (w : World) (v0 v1 v2 : Value) (s : List UInt8) (rs : List (List UInt8)) (ms : List Bool) (h0 : Bs w v0 s) (h1 : Bss w v1 rs) (h2 : Ms w v2 ms) :
    Calls Try.prog 3 #[v0, v1, v2] w fun e w' => e = .returned (.bool true) ∧ Below w.heap.size w w' := by
  obtain ⟨a0, c0, rfl, hc0, hm0⟩ := h0.shape
  obtain ⟨a1, c1, rfl, hc1, hm1⟩ := h1.len
  obtain ⟨a2, c2, rfl, hc2, hm2⟩ := h2.shape
  obtain ⟨n0, hn0⟩ : ∃ z, z = s.length := ⟨_, rfl⟩
  obtain ⟨n1, hn1⟩ : ∃ z, z = rs.length := ⟨_, rfl⟩
  obtain ⟨n2, hn2⟩ : ∃ z, z = ms.length := ⟨_, rfl⟩
  rw [← hn0] at h0 hc0 ⊢
  rw [← hn1] at h1 hc1 ⊢
  rw [← hn2] at h2 hc2 ⊢
  have H0 := Lib.hid h0
  have H1 := Lib.hid h1
  have H2 := Lib.hid h2
  have HN0 := Lib.hid hn0
  have HN1 := Lib.hid hn1
  have HN2 := Lib.hid hn2
  have hfew := few_any w _ _ h1
  clear h0 h1 h2 hn0 hn1 hn2
  by_cases q0 : (300 : Int) < n0
  · go_enter Try.func3, Try.ntmps3
    go_wp2_with fail
    go_ret
    exact ⟨rfl, Below.refl _ _⟩
  have q0' : decide (300 < n0) = false := by simp; omega
  go_enter Try.func3, Try.ntmps3
  go_wp2_with fail
  refine hfew.mono ?_
  clear hfew
  rintro e w' ⟨bf, rfl, hbf, rfl⟩
  have HBF := Lib.hid hbf
  clear hbf
  cases bf with
  | false =>
    go_wp2_with fail
    go_ret
    exact ⟨rfl, Below.refl _ _⟩
  | true =>
    by_cases q2 : (100 : Int) < n2
    · go_wp2_with fail
      go_ret
      exact ⟨rfl, Below.refl _ _⟩
    have q2' : decide (100 < n2) = false := by simp; omega
    have hfw : fewR rs := HBF.out rfl
    have HFW := Lib.hid hfw
    have hn120 : n1 ≤ 20 := by have := hfw.1; have := HN1.out; omega
    have HS6 : Hid ((rowsOf 1 0 s).length ≤ 6 ∧ s.length ≤ 300) := by
      have := HN0.out
      exact ⟨by rw [rowsOf_length]; unfold needN; omega, by omega⟩
    have HR120 : Hid (∀ k j, (recRows 1 j (rs.take k)).length ≤ 120) := fun k j => by
      have h5 := recRows_300 (g := 1) (rs.take k) j (fun x hx => HFW.out.2 x (List.mem_of_mem_take hx))
      have h6 : (rs.take k).length ≤ 20 := by rw [List.length_take]; have := HFW.out.1; omega
      omega
    have hRA : (recRows 1 1 rs).length ≤ 120 := by have := HR120.out rs.length 1; rwa [List.take_length] at this
    have HRA := Lib.hid hRA
    have hn := New_x w 300 (by omega) (by omega)
    rw [show ((300 : Nat) : Int) = 300 from rfl] at hn
    clear hfw hRA
    go_wp2_with fail
    refine hn.mono ?_
    clear hn
    rintro e w1 ⟨ga, Fa, rfl, hda, hFa, hb1⟩
    have HB1 := Lib.hid hb1
    have HDA := Lib.hid hda
    have HFA := Lib.hid hFa
    have hn := New_x w1 300 (by omega) (by omega)
    rw [show ((300 : Nat) : Int) = 300 from rfl] at hn
    clear hda hFa hb1
    go_wp2_with fail
    refine hn.mono ?_
    clear hn
    rintro e w2 ⟨gb, Fb, rfl, hdb, hFb, hb2⟩
    have HB2 := Lib.hid hb2
    have HDB := Lib.hid hdb
    have HFB := Lib.hid hFb
    have hop := Open_f w2 ga 300 Fa _ (HDA.out.below hb2) rfl (by omega)
    rw [openT_new] at hop
    clear hdb hFb hb2
    go_wp2_with fail
    (with_reducible refine hop.mono ?_)
    clear hop
    rintro e w3 ⟨la, FA, rfl, hja, hfa, hb3⟩
    have HB3 := Lib.hid hb3
    have HJA := Lib.hid hja
    have HFA3 := Lib.hid hfa
    have hop := Open_f w3 gb 300 Fb _ (HDB.out.below hb3) rfl (by omega)
    rw [openT_new] at hop
    clear hja hfa hb3
    go_wp2_with fail
    (with_reducible refine hop.mono ?_)
    clear hop
    rintro e w4 ⟨lb, FB, rfl, hjb, hfb, hb4⟩
    have HJ4 := Lib.hid (J2.open (B := w.heap.size) (w2 := w2) HDA.out HJA.out hjb HFA3.out hfb (fun q e => ⟨HFB.out q e, HDB.out.lt q e⟩) hb4 HFA.out ⟨HB1.out.size, HB2.out.size, HB3.out.size⟩)
    have HB4 : Hid (Below w.heap.size w w4) := ((HB1.out.next HB2.out).next HB3.out).next hb4
    have hbg := Begin_2 (B := w.heap.size) w4 w4 300 ga la _ _ gb lb _ _ HJ4.out (Below.refl _ _) HB4.out.size (.slice a0 n0 c0) s (fun w' hk => H0.out.mono (arg_below HB4.out hk HB4.out.size)) (OnD.new 300) (.inr rfl) (by decide) (by have := HS6.out; omega) (by show (rowsOf 1 0 s).length ≤ 150; have := HS6.out; omega) (by decide)
    clear hjb hfb hb4
    go_wp2_with fail
    (with_reducible refine hbg.mono ?_)
    clear hbg
    rintro e w5 ⟨rfl, hj5, hb5⟩
    have HB5 := Lib.hid (HB4.out.trans hb5)
    have hj5' : J2 w.heap.size w5 300 ga la (dLaid (DK.new 300) (first1 300 s)) ⟨0, ⟨1, s, [], (rowsOf 1 0 s).length⟩, true⟩ gb lb (DK.new 300) ⟨300 / 2, ⟨0, [], [], 0⟩, false⟩ := hj5
    have HJ5 := Lib.hid hj5'
    have hbg := Begin_2 (B := w.heap.size) w5 w5 300 gb lb _ _ ga la _ _ HJ5.out.symm (Below.refl _ _) HB5.out.size (.slice a0 n0 c0) s (fun w' hk => H0.out.mono (arg_below HB5.out hk HB5.out.size)) (OnD.new 300) (.inr rfl) (by decide) (by have := HS6.out; omega) (by show (rowsOf 1 0 s).length ≤ 150; have := HS6.out; omega) (by decide)
    clear hj5 hj5' hb5
    go_wp2_with fail
    (with_reducible refine hbg.mono ?_)
    clear hbg
    rintro e w6 ⟨rfl, hj6, hb6⟩
    have HB6 := Lib.hid (HB5.out.trans hb6)
    have hj6' : J2 w.heap.size w6 300 gb lb (dLaid (DK.new 300) (first1 300 s)) ⟨0, ⟨1, s, [], (rowsOf 1 0 s).length⟩, true⟩ ga la (dLaid (DK.new 300) (first1 300 s)) ⟨0, ⟨1, s, [], (rowsOf 1 0 s).length⟩, true⟩ := hj6
    have HJ6 := Lib.hid hj6'.symm
    have hap := Append_2 (B := w.heap.size) w6 w6 300 ga la _ _ gb lb _ _ HJ6.out (Below.refl _ _) HB6.out.size (.slice a1 n1 c1) rs (fun w' hk => H1.out.mono (arg_below HB6.out hk HB6.out.size)) ((OnD.new 300).laid _) rfl (Nat.zero_le _) (by show (rowsOf 1 0 s).length + (recRows 1 1 rs).length ≤ 150; have := HS6.out; have := HRA.out; omega) (by show (1 : Nat) ≤ _; decide) (by show (0 : Nat) ≤ _; decide) (fun x hx => by have := HFW.out.2 x hx; omega) (by have := HFW.out.1; omega) (by show (0 : Nat) ≤ _; decide)
    clear hj6 hj6' hb6
    go_wp2_with fail
    (with_reducible refine hap.mono ?_)
    clear hap
    rintro e w7 ⟨rfl, hj7, hb7⟩
    have HB7 := Lib.hid (HB6.out.trans hb7)
    obtain ⟨DA, TA, hj8, HDA8⟩ : ∃ DA TA, J2 w.heap.size w7 300 ga la DA TA gb lb (dLaid (DK.new 300) (first1 300 s)) ⟨0, ⟨1, s, [], (rowsOf 1 0 s).length⟩, true⟩ ∧ Hid (OnD DA ∧ DA.now = first2 300 s rs ∧ TA.half.recs = rs) := by
      refine ⟨_, _, hj7, ((OnD.new 300).laid _).puts _ _, ?_, rfl⟩
      show puts (first1 300 s) (0 + (rowsOf 1 0 s).length) (recRows 1 1 rs) = _
      rw [Nat.zero_add]; rfl
    have HJ8 := Lib.hid hj8
    clear hj7 hj8 hb7
    go_wp2_with fail
    go_loopw [13] (fun i wr => ∃ (k fin : Nat) (DB : DK), k ≤ n1 ∧ i = .int .i64 k ∧ J2 w.heap.size wr 300 ga la DA TA gb lb DB ⟨0, ⟨1, s, rs.take k, fin⟩, true⟩ ∧ Hid (OnD DB ∧ DB.now = first2 300 s (rs.take k) ∧ fin = (rowsOf 1 0 s).length + (recRows 1 1 (rs.take k)).length ∧ DB.op.length ≤ 120 * k) ∧ Below w.heap.size w wr) (fun i _ => n1 - (intOf i).toNat)
    case atStart => exact ⟨0, _, _, by omega, rfl, HJ8.out, ⟨(OnD.new 300).laid _, by simp [first2, recRows, puts, dLaid], by simp [recRows], by simp [dLaid]⟩, HB7.out⟩
    case round =>
      obtain ⟨k, fin, DB, hk, rfl, hj, HX, hb⟩ := hrel
      have HJ := Lib.hid hj
      have HB := Lib.hid hb
      clear hj hb
      by_cases hlt : k < n1
      · have hkl : k < rs.length := by have := HN1.out; omega
        obtain ⟨b0, off0, rfl, hx⟩ := Bss.at1 H1.out (by omega)
        obtain ⟨⟨s1, s2, s3⟩, hs, hbs⟩ := hx k hkl
        have HSN := Lib.hid (first2_snoc (s := s) hkl)
        obtain ⟨r, hr⟩ : ∃ z, z = rs[k] := ⟨_, rfl⟩
        have hr300 : r.length ≤ 300 := by rw [hr]; exact HFW.out.2 _ (List.getElem_mem hkl)
        have htk : rs.take (k + 1) = rs.take k ++ [r] := by rw [List.take_succ_eq_append_getElem hkl, ← hr]
        rw [← hr] at hbs HSN
        have hcell : wr.cell? ⟨b0, off0 + k, none⟩ = some (.slice s1 s2 s3) := (Below.cell (p := ⟨b0, off0 + k, none⟩) HB.out (World.block_lt_of_cell? w _ hs)).trans hs
        have HBS : Hid (Bs w (.slice s1 s2 s3) r) := hbs
        have hlk : (rs.take k).length = k := by rw [List.length_take]; omega
        have hr6 : (recRows 1 (k + 1) [r]).length ≤ 6 := by
          have := recRows_300 (g := 1) [r] (k + 1) (fun x hx => by simp at hx; rw [hx]; exact hr300)
          simpa using this
        have HBl := Lib.hid (HB.out.alloc HB.out.size (.cells #[.slice s1 s2 s3] 22))
        have hap := Append_2 (B := w.heap.size) wr (wr.alloc (.cells #[.slice s1 s2 s3] 22)) 300 gb lb DB _ ga la _ _ HJ.out.symm ((Below.refl wr.heap.size wr).alloc (Nat.le_refl _) _) HB.out.size (.slice (some ⟨wr.heap.size, 0, none⟩) 1 1) [r] (Bss.lit1 (Nat.le_refl _) (fun w' hk => HBS.out.mono (arg_below HBl.out hk HBl.out.size))) HX.out.1 rfl (Nat.zero_le _) (by show fin + (recRows 1 ((rs.take k).length + 1) [r]).length ≤ 150; rw [hlk]; have := HX.out.2.2.1; have := HS6.out; have := HR120.out k 1; omega) (by show (1 : Nat) ≤ _; decide) (by show (rs.take k).length ≤ _; omega) (fun x hx => by simp at hx; rw [hx]; omega) (by simp) (by have := HX.out.2.2.2; omega)
        have HTK := Lib.hid htk
        have HLK := Lib.hid hlk
        have HR6 := Lib.hid hr6
        have hk0 : (0 : Int) ≤ k ∧ (k : Int) < n1 ∧ (n1 : Int) ≤ 20 := by omega
        clear hx hs hbs hr hr300 htk hlk hr6
        go_wp2_with fail
        (with_reducible refine hap.mono ?_)
        clear hap
        rintro e x1 ⟨rfl, hj1, hb1⟩
        have HB9 := Lib.hid (HBl.out.trans hb1)
        obtain ⟨D1, hj2, HX1⟩ : ∃ D1, J2 w.heap.size x1 300 ga la DA TA gb lb D1 ⟨0, ⟨1, s, rs.take (k + 1), (rowsOf 1 0 s).length + (recRows 1 1 (rs.take (k + 1))).length⟩, true⟩ ∧ Hid (OnD D1 ∧ D1.now = first2 300 s (rs.take (k + 1)) ∧ D1.op.length ≤ 120 * (k + 1)) := by
          have h7 := hj1.symm
          simp only [HLK.out] at h7
          have e1 : fin + (recRows 1 (k + 1) [r]).length = (rowsOf 1 0 s).length + (recRows 1 1 (rs.take (k + 1))).length := by rw [HSN.out.2, List.length_append, HX.out.2.2.1]; omega
          rw [e1, ← HTK.out] at h7
          refine ⟨_, h7, HX.out.1.puts _ _, ?_, ?_⟩
          · show puts DB.now (0 + fin) _ = _
            rw [Nat.zero_add, HX.out.2.1, HX.out.2.2.1]
            exact HSN.out.1
          · show (DB.op ++ idxs _ _).length ≤ _
            rw [List.length_append, idxs_length]
            have := HX.out.2.2.2
            have := HR6.out
            omega
        have HJ1 := Lib.hid hj2
        clear hj1 hj2 hb1
        by_cases hk2 : k < n2
        · have hk3 : (k : Int) < n2 := by omega
          obtain ⟨bm, om, rfl, hlm, hcm⟩ := (H2.out.mono HB9.out).at (by have := HN2.out; omega)
          have hm := hcm k (by have := HN2.out; omega)
          obtain ⟨t, ht⟩ : ∃ t, t = ms[k]'(by have := HN2.out; omega) := ⟨_, rfl⟩
          rw [← ht] at hm
          clear hcm ht
          cases t with
          | true =>
            have hsy := Sync_2 (B := w.heap.size) x1 300 gb lb D1 _ ga la _ _ HJ1.out.symm HB9.out.size HX1.out.1
            go_wp2_with fail
            (with_reducible refine hsy.mono ?_)
            clear hsy
            rintro e x2 ⟨rfl, hj3, hb3⟩
            have HB10 := Lib.hid (HB9.out.trans hb3)
            have HJ3 := Lib.hid hj3.symm
            clear hj3 hb3
            go_wp2_with fail
            exact ⟨⟨k + 1, _, _, by omega, by push_cast; rfl, HJ3.out, ⟨HX1.out.1.laid _, HX1.out.2.1, rfl, by simp [dLaid]⟩, HB10.out⟩, by simp [intOf]; omega⟩
          | false =>
            go_wp2_with fail
            exact ⟨⟨k + 1, _, _, by omega, by push_cast; rfl, HJ1.out, ⟨HX1.out.1, HX1.out.2.1, rfl, HX1.out.2.2⟩, HB9.out⟩, by simp [intOf]; omega⟩
        · have hk3 : decide ((k : Int) < n2) = false := by simp; omega
          go_wp2_with fail
          exact ⟨⟨k + 1, _, _, by omega, by push_cast; rfl, HJ1.out, ⟨HX1.out.1, HX1.out.2.1, rfl, HX1.out.2.2⟩, HB9.out⟩, by simp [intOf]; omega⟩
      · obtain rfl : k = n1 := by omega
        have htk : rs.take k = rs := by rw [HN1.out]; exact List.take_length
        have HXX : Hid (DB.now = DA.now ∧ DB.off = false ∧ DA.off = false ∧ DA.now.length = 300 ∧ ∀ b ∈ DA.now, b.length = 64) := by
          refine ⟨?_, HX.out.1.off, HDA8.out.1.off, HJ.out.fst.disk.ok.now⟩
          rw [HX.out.2.1, HDA8.out.2.1, htk]
        rw [htk] at HJ
        have HXR := Lib.hid HX.out.1
        clear HX htk
        go_wp2_with fail
        go_loopw [14] (fun i wr9 => ∃ (j : Nat), j ≤ 300 ∧ i = .int .i64 j ∧ Below wr.heap.size wr wr9) (fun i _ => 300 - (intOf i).toNat)
        case atStart => exact ⟨0, by omega, rfl, Below.refl _ _⟩
        case round =>
          obtain ⟨j, hj, rfl, hb9⟩ := hrel
          have HJ9 := Lib.hid (HJ.out.below hb9)
          have HB9 := Lib.hid (HB.out.next hb9)
          have HX9 := Lib.hid hb9
          clear hb9
          by_cases hjl : j < 300
          · obtain ⟨b, hbe⟩ : ∃ b, DA.now[j]? = some b := ⟨_, List.getElem?_eq_getElem (by rw [HXX.out.2.2.2.1]; exact hjl)⟩
            have hbl : b.length = 64 := HXX.out.2.2.2.2 b (List.mem_of_getElem? hbe)
            have hbb : DB.now[j]? = some b := by rw [HXX.out.1]; exact hbe
            have rda := Read_j (B := w.heap.size) wr ga 300 DA HJ9.out.fst.disk HXX.out.2.2.1 j hjl b hbe
            have HBB := Lib.hid hbb
            have HBL := Lib.hid hbl
            have heqb : ∀ w, (Op.equalIn 10000 36 (.agg (bvs b).toArray) (.agg (bvs b).toArray)).run Try.prog w = .ok true w := fun w => by
              have := blocks_eq w b b HBL.out HBL.out
              rw [decide_eq_true rfl] at this
              exact this
            have hj0 : (0 : Int) ≤ j ∧ (j : Int) < 300 := by omega
            clear hbe hbl hbb
            go_wp2_with fail
            (with_reducible refine rda.mono ?_)
            clear rda
            rintro e w11 ⟨rfl, hb11⟩
            obtain ⟨q1, q2, q3⟩ := box_world w11 b HBL.out
            have HJ12 := Lib.hid ((HJ9.out.below hb11).below q1)
            have HX12 := Lib.hid ((HX9.out.next hb11).next q1)
            have Q2 := Lib.hid q2
            have Q3 := Lib.hid q3
            have Hsz := Lib.hid (size64_of HBL.out)
            have hun := Try.underlying36
            have rdb := Read_j (B := w.heap.size) _ gb 300 DB HJ12.out.symm.fst.disk HXX.out.2.1 j hjl b HBB.out
            clear q1 q2 q3 hb11
            go_wp2_with (first
              | (refine wpList_store_mid rfl 36 (.tmp 15) (.tmp 127) rfl w11.heap.size 0 (bvs b).toArray rfl rfl Q3.out (by simpa using Hsz.out) (all_oneCell_toArray (bs_oneCell _)) ?_; change wpList _ _ _ _ _ ((w11.alloc (.cells (bvs zero64).toArray 36)).setCells w11.heap.size 0 (bvs b)))
              | fail)
            (with_reducible refine rdb.mono ?_)
            clear rdb
            rintro e w13 ⟨rfl, hb13⟩
            obtain ⟨q4, q5, q6⟩ := box_world w13 b HBL.out
            have HX14 := Lib.hid ((HX12.out.next hb13).next q4)
            have Q6 := Lib.hid q6
            have R1 := Lib.hid ((Q2.out.below hb13).below q4).bytes
            have R2 := Lib.hid q5.bytes
            clear q4 q5 q6 hb13
            go_wp2_with (first
              | (refine wpList_store_mid rfl 36 (.tmp 17) (.tmp 133) rfl w13.heap.size 0 (bvs b).toArray rfl rfl Q6.out (by simpa using Hsz.out) (all_oneCell_toArray (bs_oneCell _)) ?_; change wpList _ _ _ _ _ ((w13.alloc (.cells (bvs zero64).toArray 36)).setCells w13.heap.size 0 (bvs b)))
              | (refine wpList_load_mid rfl 36 (.tmp 15) rfl w11.heap.size 0 rfl (bvs b) _ R1.out Try.underlying36 rfl Hsz.out ?_)
              | (refine wpList_load_mid rfl 36 (.tmp 17) rfl w13.heap.size 0 rfl (bvs b) _ R2.out Try.underlying36 rfl Hsz.out ?_)
              | fail)
            exact ⟨⟨j + 1, by omega, by push_cast; rfl, HX14.out⟩, by simp [intOf]; omega⟩
          · obtain rfl : j = 300 := by omega
            have hrc := Recs_j (B := w.heap.size) wr ga la 300 _ _ HJ9.out.fst (fun x hx => by rw [HDA8.out.2.2] at hx; have := HFW.out.2 x hx; omega) (by rw [HDA8.out.2.2]; have := HFW.out.1; omega)
            rw [HDA8.out.2.2] at hrc
            go_wp2_with fail
            (with_reducible refine hrc.mono ?_)
            clear hrc
            rintro e z1 ⟨u20, rfl, hu20, hb20⟩
            have HBr20 := Lib.hid (HB9.out.next hb20)
            have HJr20 := Lib.hid (HJ9.out.below hb20)
            have hrw := Rows_any z1 u20 (.slice a1 k c1) rs rs hu20.bss (H1.out.mono HBr20.out) (by have := HFW.out.1; omega)
            rw [decide_eq_true rfl] at hrw
            clear hu20 hb20
            go_wp2_with fail
            (with_reducible refine hrw.mono ?_)
            clear hrw
            rintro e z2 ⟨rfl, hc20⟩
            have HBs20 := Lib.hid (HBr20.out.next hc20)
            have HJs20 := Lib.hid (HJr20.out.below hc20)
            clear hc20
            have hrc := Recs_j (B := w.heap.size) z2 gb lb 300 _ _ HJs20.out.symm.fst (fun x hx => by have := HFW.out.2 x hx; omega) (by show rs.length ≤ _; have := HFW.out.1; omega)
            have hrc : Calls Try.prog 19 #[.pointer (some ⟨lb, 0, none⟩)] z2 (RecsPost z2 rs) := hrc
            go_wp2_with fail
            (with_reducible refine hrc.mono ?_)
            clear hrc
            rintro e z3 ⟨u21, rfl, hu21, hb21⟩
            have HBr21 := Lib.hid (HBs20.out.next hb21)
            have HJr21 := Lib.hid (HJs20.out.below hb21)
            have hrw := Rows_any z3 u21 (.slice a1 k c1) rs rs hu21.bss (H1.out.mono HBr21.out) (by have := HFW.out.1; omega)
            rw [decide_eq_true rfl] at hrw
            clear hu21 hb21
            go_wp2_with fail
            (with_reducible refine hrw.mono ?_)
            clear hrw
            rintro e z4 ⟨rfl, hc21⟩
            have HBs21 := Lib.hid (HBr21.out.next hc21)
            have HJs21 := Lib.hid (HJr21.out.below hc21)
            clear hc21
            have hwk := wakes_any z4
            go_wp2_with fail
            (with_reducible refine hwk.mono ?_)
            clear hwk
            rintro e w6 ⟨rfl, hb6⟩
            have HB6 := Lib.hid (HBs21.out.next hb6)
            clear hb6
            go_wp2_with fail
            go_ret
            exact ⟨rfl, HB6.out⟩
end Cam
