import Derived.Test.YtlnclfiiplpaiaaJnV
import Derived.Test.YtlnclfiiplpaiaaJnL2
/- LogHalves: the walk. -/
namespace Cam
open Go Go.RowKit Go.Proofs

theorem zero2048 : ∀ w, (zeroValue 43).run Try.prog w = .ok (.agg (flatW bvs (List.replicate 32 zero64)).toArray) w := (zero_of_info (n := 2048) (by kernel_rfl)).1
theorem Bss.lit2 {F : Nat → Prop} {w : World} {a : Option Addr} {n c : Nat} {l : List UInt8} (hF : ∀ k, F k → k < w.heap.size) (hb : ∀ w', Kept F w w' → Bs w' (.slice a n c) l) :
    ∀ w', Kept F (w.alloc (.cells #[.slice a n c] 22)) w' → Bss w' (.slice (some ⟨w.heap.size, 0, none⟩) 1 1) [l] := fun w' hk =>
  Bss.mk1 ((hk.block w.heap.size (by simp) (fun e => by have := hF _ e; omega)).trans (heap_new (w := w) rfl)) (hb w' ((Kept.of_below ((Below.refl w.heap.size w).alloc (Nat.le_refl _) _)).weaken (fun _ h => h.elim) |>.trans hk (fun _ _ h => h)))

theorem halves_stay {N A B : List (List UInt8)} {o ot : Nat} (hN : N.length = 64) (ho : o = 0 ∨ o = 32) (hot : ot = 32 - o) (hfit : A.length + B.length ≤ 32) (q : Nat) (hq : q < 32) :
    (puts (puts (puts N ot (List.replicate (64 / 2) zero64)) ot A) (ot + A.length) B)[o + q]? = N[o + q]? := by
  rw [puts_get _ _ _ _ (by rw [puts_length, puts_length]; omega), if_neg (by omega), puts_get _ _ _ _ (by rw [puts_length]; omega), if_neg (by omega), puts_get _ _ _ _ (by rw [List.length_replicate]; omega), if_neg (by rw [List.length_replicate]; omega)]

set_option maxRecDepth 100000 in
set_option maxHeartbeats 6400000 in
theorem LogHalves_walk (w : World) (v0 v1 : Value) (ss : List (List UInt8)) (r : List UInt8) (h0 : Bss w v0 ss) (h1 : Bs w v1 r) :
    Calls Try.prog 4 #[v0, v1] w fun e w' => e = .returned (.bool true) ∧ Below w.heap.size w w' := by
  obtain ⟨a0, c0, rfl, hc0, hm0⟩ := h0.len
  obtain ⟨a1, c1, rfl, hc1, hm1⟩ := h1.shape
  obtain ⟨n0, hn0⟩ : ∃ z, z = ss.length := ⟨_, rfl⟩
  obtain ⟨n1, hn1⟩ : ∃ z, z = r.length := ⟨_, rfl⟩
  rw [← hn0] at h0 hc0 ⊢
  rw [← hn1] at h1 hc1 ⊢
  have H0 := Lib.hid h0
  have H1 := Lib.hid h1
  have HN0 := Lib.hid hn0
  have HN1 := Lib.hid hn1
  have hfew := few_any w _ _ h0
  clear h0 h1 hn0 hn1
  go_enter Try.func4, Try.ntmps4
  go_wp2_with fail
  refine hfew.mono ?_
  clear hfew
  rintro e w' ⟨bf, rfl, hbf, rfl⟩
  have HBF := Lib.hid hbf
  clear hbf
  cases bf with
  | false =>
    go_wp2_with fail
    go_ret
    exact ⟨rfl, Below.refl _ _⟩
  | true =>
    by_cases q1 : (300 : Int) < n1
    · go_wp2_with fail
      go_ret
      exact ⟨rfl, Below.refl _ _⟩
    have q1' : decide (300 < n1) = false := by simp; omega
    have hn20 : n0 ≤ 20 := by have := (HBF.out rfl).1; have := HN0.out; omega
    have HRL : Hid (r.length ≤ 300) := by show _ ≤ _; have := HN1.out; omega
    have hn := New_j w 64 (by omega) (by omega)
    rw [show ((64 : Nat) : Int) = 64 from rfl] at hn
    go_wp2_with fail
    refine hn.mono ?_
    clear hn
    rintro e w1 ⟨g, rfl, hd1, hb1⟩
    have HB1 := Lib.hid hb1
    have hop := Open_j w1 g 64 _ hd1 rfl (by omega) hb1.size
    rw [openT_new] at hop
    clear hd1 hb1
    go_wp2_with fail
    refine hop.mono ?_
    clear hop
    rintro e w2 ⟨gl, rfl, hj2, _, hb2⟩
    have HB2 := Lib.hid (HB1.out.next hb2)
    obtain ⟨F2, hj2', hF2⟩ := hj2.jf
    have HJ2 := Lib.hid hj2'
    have HF2 := Lib.hid hF2
    clear hj2 hb2 hj2' hF2
    go_wp2_with fail
    go_loopw [8] (fun i wr => ∃ (k : Nat) (D : DK) (T : LT) (F : Nat → Prop), k ≤ n0 ∧ i = .int .i64 k ∧ JF F wr g gl 64 D T ∧ Hid ((∀ q, F q → w.heap.size ≤ q) ∧ OnD D ∧ D.op = [] ∧ T.from_ = (k + 1) % 2 * 32 ∧ T.half.gen = k) ∧ Below w.heap.size w wr) (fun i _ => n0 - (intOf i).toNat)
    case atStart => exact ⟨0, _, _, F2, by omega, rfl, HJ2.out, ⟨HF2.out, OnD.new 64, rfl, rfl, rfl⟩, HB2.out⟩
    case round =>
      obtain ⟨k, D, T, F, hk, rfl, hj, HX, hb⟩ := hrel
      have HJ := Lib.hid hj
      have HB := Lib.hid hb
      clear hj hb
      by_cases hlt : k < n0
      · obtain ⟨o, ho⟩ : ∃ o, o = (k + 1) % 2 * 32 := ⟨_, rfl⟩
        have hmod : ((k : Int) + 1).tmod 2 = ((((k + 1) % 2 : Nat)) : Int) := by rw [Int.tmod_eq_emod_of_nonneg (by omega)]; push_cast; rfl
        obtain ⟨p2, hp2⟩ : ∃ p, p = (k + 1) % 2 := ⟨_, rfl⟩
        rw [← hp2] at hmod ho
        have hp01 : (0 : Int) ≤ (p2 : Int) ∧ (p2 : Int) < 2 := by omega
        have HO := Lib.hid ho
        have HP2 := Lib.hid hp2
        have hzv := zero2048
        clear ho hp2
        obtain ⟨Z, hZ⟩ : ∃ Z, Z = flatW bvs (List.replicate 32 zero64) := ⟨_, rfl⟩
        rw [← hZ] at hzv
        have HZ := Lib.hid hZ
        have hk20 : (k : Int) < n0 ∧ (n0 : Int) ≤ 20 ∧ (0 : Int) ≤ k := by omega
        clear hZ
        go_wp2_with fail
        have hFlt : ∀ q, F q → q < wr.heap.size := HJ.out.lt
        obtain ⟨gw, hgw⟩ : ∃ z, z = wr.heap.size := ⟨_, rfl⟩
        obtain ⟨x0, hx0⟩ : ∃ z, z = wr.alloc (.cells Z.toArray 43) := ⟨_, rfl⟩
        have HZ0 : Hid (HC x0 gw Z) := by show HC _ _ _; rw [hx0, hgw]; exact HC.new
        have HS0 : Hid (gw < x0.heap.size) := by show _ < _; rw [hx0, hgw]; simp
        have HBx0 : Hid (Below w.heap.size w x0) := by show Below _ _ _; rw [hx0]; exact HB.out.alloc HB.out.size _
        have HJ0 : Hid (JF F x0 g gl 64 D T) := by show JF _ _ _ _ _ _ _; rw [hx0]; exact HJ.out.below ((Below.refl _ _).alloc (Nat.le_refl _) _)
        rw [← hgw] at hFlt
        have HF0 := Lib.hid hFlt
        have HGB : Hid (w.heap.size ≤ gw) := by show _ ≤ _; rw [hgw]; exact HB.out.size
        have HDk : Hid (D.now.length = 64 ∧ ∀ b ∈ D.now, b.length = 64) := HJ.out.jm0.disk.ok.now
        have hol : o ≤ 32 := by have := HO.out; omega
        have hop0 : (p2 : Int) * 32 = (o : Int) := by have := HO.out; omega
        rw [← hx0, ← hgw]
        clear hx0 hgw hFlt HJ HB
        rw [hop0]
        clear hop0 hmod hzv
        go_loopw [11] (fun i wr => ∃ (j : Nat) (L : List (List UInt8)), j ≤ 32 ∧ i = .int .i64 j ∧ HC wr gw (flatW bvs L) ∧ Hid (L.length = 32 ∧ (∀ b ∈ L, b.length = 64) ∧ ∀ q, q < j → L[q]? = D.now[o + q]?) ∧ Kept (fun q => q = gw) x0 wr) (fun i _ => 32 - (intOf i).toNat)
        case atStart => exact ⟨0, List.replicate 32 zero64, by omega, rfl, by rw [← HZ.out]; exact HZ0.out, ⟨by simp, fun b hb => by rw [List.mem_replicate] at hb; rw [hb.2]; rfl, fun q hq => absurd hq (Nat.not_lt_zero q)⟩, Kept.refl _ _⟩
        case round =>
          obtain ⟨j, L, hj, rfl, hc, HL, hkx⟩ := hrel
          have HJ1 := Lib.hid (HJ0.out.kept hkx (fun q hq e => by have := HF0.out q hq; omega))
          have HCW := Lib.hid hc
          have HKX := Lib.hid hkx
          have HSX := Lib.hid hkx.size
          clear hc hkx
          by_cases hjl : j < 32
          · have hoj : o + j < 64 := by omega
            obtain ⟨b, hb⟩ : ∃ b, D.now[o + j]? = some b := ⟨_, List.getElem?_eq_getElem (by rw [HDk.out.1]; exact hoj)⟩
            have hbl : b.length = 64 := HDk.out.2 b (List.mem_of_getElem? hb)
            have hrd := Read_j (B := 0) wr g 64 D HJ1.out.jm0.disk HX.out.2.1.off (o + j) hoj b hb
            rw [show ((o + j : Nat) : Int) = (o : Int) + j from by push_cast; rfl] at hrd
            have HBB := Lib.hid hb
            have HBL := Lib.hid hbl
            have hj0 : (0 : Int) ≤ j ∧ (j : Int) < 32 ∧ (0 : Int) ≤ o ∧ (o : Int) ≤ 32 := by omega
            clear hb hbl
            go_wp2_with fail
            (with_reducible refine hrd.mono ?_)
            clear hrd
            rintro e w' ⟨rfl, hb9⟩
            have HCW2 := Lib.hid (HCW.out.below hb9)
            have HKX2 := Lib.hid (HKX.out.trans (Kept.of_below hb9) (fun _ _ e => e.elim))
            have hroom : w'.there gw (j * 64) (bvs b).length := HCW2.out.there (by rw [flatW_length (W := 64) (fun b hb => by rw [bvs_length]; exact HL.out.2.1 b hb), HL.out.1, bvs_length, HBL.out]; omega)
            have HR0 := Lib.hid hroom
            have Hsz := Lib.hid (size64_of HBL.out)
            have hun := Try.underlying36
            clear hb9 hroom
            go_wp2_with (first
              | (refine wpList_store_mid rfl 36 (.tmp 63) (.tmp 61) rfl gw (j * 64) (bvs b).toArray (by simp [Act.eval]) rfl (by simpa using HR0.out) (by simpa using Hsz.out) (all_oneCell_toArray (bs_oneCell _)) ?_)
              | fail)
            refine ⟨⟨j + 1, L.set j b, by omega, by push_cast; rfl, ?_, ?_, ?_⟩, by simp [intOf]; omega⟩
            · rw [← flatW_set (W := 64) (fun b hb => by rw [bvs_length]; exact HL.out.2.1 b hb) (by rw [HL.out.1]; exact hjl) b (by rw [bvs_length]; exact HBL.out)]
              exact HCW2.out.puts (by rw [flatW_length (W := 64) (fun b hb => by rw [bvs_length]; exact HL.out.2.1 b hb), HL.out.1, bvs_length, HBL.out]; omega)
            · refine ⟨by rw [List.length_set]; exact HL.out.1, fun x hx => ?_, fun q hq => ?_⟩
              · rcases List.mem_or_eq_of_mem_set hx with h | rfl
                · exact HL.out.2.1 x h
                · exact HBL.out
              · by_cases e : j = q
                · subst e
                  rw [List.getElem?_set_self (by rw [HL.out.1]; exact hjl), HBB.out]
                · rw [List.getElem?_set_ne e]
                  exact HL.out.2.2 q (by omega)
            · exact HKX2.out.trans (setCells_kept _ _ _ _) (fun _ _ e => e)
          · obtain rfl : j = 32 := by omega
            have hwB : Below w.heap.size w wr := HBx0.out.trans (keptB HKX.out (fun q e => by have := HGB.out; omega) HBx0.out.size)
            have HW := Lib.hid hwB
            obtain ⟨b0, off0, rfl, hx⟩ := Bss.at1 H0.out (by have := HN0.out; omega)
            have hkl : k < ss.length := by have := HN0.out; omega
            obtain ⟨⟨s1, s2, s3⟩, hs, hbs⟩ := hx k hkl
            obtain ⟨sk, hsk⟩ : ∃ z, z = ss[k] := ⟨_, rfl⟩
            have hs300 : sk.length ≤ 300 := by rw [hsk]; exact (HBF.out trivial).2 _ (List.getElem_mem hkl)
            rw [← hsk] at hbs
            have hcell : wr.cell? ⟨b0, off0 + k, none⟩ = some (.slice s1 s2 s3) := (Below.cell (p := ⟨b0, off0 + k, none⟩) hwB (World.block_lt_of_cell? w _ hs)).trans hs
            have HBS : Hid (Bs w (.slice s1 s2 s3) sk) := hbs
            have hTf : T.from_ = o := by have := HX.out.2.2.2.1; have := HO.out; have := HP2.out; omega
            have hTg : T.half.gen = k := HX.out.2.2.2.2
            have hr6 : (rowsOf (k + 1) 0 sk).length ≤ 6 := by rw [rowsOf_length]; unfold needN; omega
            have hq6 : (recRows (k + 1) (([] : List (List UInt8)).length + 1) [r]).length ≤ 6 := by
              have := recRows_300 (g := k + 1) [r] (([] : List (List UInt8)).length + 1) (fun x hx => by simp at hx; rw [hx]; exact HRL.out)
              simpa using this
            have hbg := Begin_f wr g gl 64 D T HJ1.out (.slice s1 s2 s3) sk (fun w' hk => HBS.out.mono (HW.out.trans (keptB hk HX.out.1 HW.out.size))) HX.out.2.1 (by rw [hTf]; have := HO.out; omega) (by rw [hTg]; omega) (by omega) (by rw [hTg]; omega) (by rw [HX.out.2.2.1]; decide)
            rw [hTf, hTg] at hbg
            obtain ⟨ot, hot⟩ : ∃ z, z = 64 / 2 - o := ⟨_, rfl⟩
            have hot2 : ot = 32 - o := hot
            rw [← hot] at hbg
            have HOT := Lib.hid hot2
            have HR6 := Lib.hid hr6
            have HQ6 := Lib.hid hq6
            have hk0 : (0 : Int) ≤ k ∧ (k : Int) < n0 := by omega
            clear hx hs hbs hTf hTg hot hot2 hr6 hq6 hwB
            go_wp2_with fail
            (with_reducible refine hbg.mono ?_)
            clear hbg
            rintro e y1 ⟨rfl, F1, hj1, hk1, hf1⟩
            have HB1 : Hid (Below w.heap.size w y1) := HW.out.trans (keptB hk1 HX.out.1 HW.out.size)
            have HC1 : Hid (HC y1 gw (flatW bvs L)) := HCW.out.kept hk1 (fun e => by have := HF0.out gw e; omega)
            have HFB1 : Hid (∀ q, F1 q → w.heap.size ≤ q) := fun q e => by rcases hf1 q e with h | h; exact HX.out.1 q h; have := HW.out.size; omega
            have HFG1 : Hid (¬ F1 gw) := fun e => by
              rcases hf1 gw e with h | h
              · have := HF0.out gw h; omega
              · have := HS0.out; have := HSX.out; omega
            have HS1 : Hid (gw < y1.heap.size) := by show _ < _; have := HS0.out; have := HSX.out; have := hk1.size; omega
            have hon1 : OnD (dLaid D (puts (puts D.now ot (List.replicate (64 / 2) zero64)) ot (rowsOf (k + 1) 0 sk))) := HX.out.2.1.laid _
            have hap := Append_f (y1.alloc (.cells #[.slice a1 n1 c1] 22)) g gl 64 _ _ (hj1.below ((Below.refl _ _).alloc (Nat.le_refl _) _)) (.slice (some ⟨y1.heap.size, 0, none⟩) 1 1) [r] (Bss.lit2 hj1.lt (fun w' hk => H1.out.mono (HB1.out.trans (keptB hk HFB1.out HB1.out.size)))) hon1 rfl (by show ot ≤ 32; have := HOT.out; omega) (by show (rowsOf (k + 1) 0 sk).length + (recRows (k + 1) (([] : List (List UInt8)).length + 1) [r]).length ≤ 32; have := HR6.out; have := HQ6.out; omega) (by show k + 1 ≤ _; omega) (by show (0 : Nat) ≤ _; omega) (fun x hx => by simp at hx; rw [hx]; have := HRL.out; omega) (by simp) (by show (0 : Nat) ≤ _; omega)
            have HON1 := Lib.hid hon1
            have hja := hj1.lt
            clear hj1 hk1 hf1 hon1
            go_wp2_with fail
            (with_reducible refine hap.mono ?_)
            clear hap
            rintro e y2 ⟨rfl, F2, hj2, hk2, hf2⟩
            have HB2b : Hid (Below w.heap.size w y2) := (HB1.out.alloc HB1.out.size _).trans (keptB hk2 HFB1.out (HB1.out.alloc HB1.out.size _).size)
            have HC2 : Hid (HC y2 gw (flatW bvs L)) := (HC1.out.alloc _).kept hk2 HFG1.out
            have HFB2 : Hid (∀ q, F2 q → w.heap.size ≤ q) := fun q e => by rcases hf2 q e with h | h; exact HFB1.out q h; have := (HB1.out.alloc HB1.out.size (.cells #[.slice a1 n1 c1] 22)).size; omega
            have HFG2 : Hid (¬ F2 gw) := fun e => by
              rcases hf2 gw e with h | h
              · exact HFG1.out h
              · have := HS1.out; simp at h; omega
            have HS2 : Hid (gw < y2.heap.size) := by show _ < _; have := HS1.out; have := hk2.size; simp at this; omega
            have hon2 := HON1.out.puts (ot + (rowsOf (k + 1) 0 sk).length) (recRows (k + 1) (([] : List (List UInt8)).length + 1) [r])
            have hsy := Sync_f y2 g gl 64 _ _ hj2 hon2
            have HON2 := Lib.hid hon2
            clear hj2 hk2 hf2 hja hon2
            go_wp2_with fail
            (with_reducible refine hsy.mono ?_)
            clear hsy
            rintro e y3 ⟨rfl, F3, hj3, hk3, hf3⟩
            have HB3 : Hid (Below w.heap.size w y3) := HB2b.out.trans (keptB hk3 HFB2.out HB2b.out.size)
            have HC3 : Hid (HC y3 gw (flatW bvs L)) := HC2.out.kept hk3 HFG2.out
            have HFB3 : Hid (∀ q, F3 q → w.heap.size ≤ q) := fun q e => by rcases hf3 q e with h | h; exact HFB2.out q h; have := HB2b.out.size; omega
            have hge : Calls Try.prog 21 #[.pointer (some ⟨gl, 0, none⟩)] y3 fun e w' => e = .returned (.int .i64 ((k : Int) + 1)) ∧ y3 = w' := (Gen_j (B := 0) y3 g gl 64 _ _ hj3.jm0).mono (fun e w' h => ⟨h.1.trans (by push_cast; rfl), h.2⟩)
            have HJ3 := Lib.hid hj3
            clear hj3 hk3 hf3
            go_wp2_with fail
            (with_reducible refine hge.mono ?_)
            clear hge
            rintro e w' ⟨rfl, rfl⟩
            obtain ⟨D3, T3, hj3, HX3, HN3⟩ : ∃ (D3 : DK) (T3 : LT), JF F3 y3 g gl 64 D3 T3 ∧ Hid (OnD D3 ∧ D3.op = [] ∧ T3.from_ = (k + 1 + 1) % 2 * 32 ∧ T3.half.gen = k + 1) ∧ Hid (∀ q, q < 32 → D3.now[o + q]? = D.now[o + q]?) := by
              refine ⟨_, _, HJ3.out, ⟨HON2.out.laid _, rfl, ?_, rfl⟩, fun q hq => ?_⟩
              · show ot = _; have := HOT.out; have := HO.out; have := HP2.out; omega
              · exact halves_stay HDk.out.1 (by have := HO.out; omega) HOT.out (by have := HR6.out; have := HQ6.out; omega) q hq
            have HJ4 := Lib.hid hj3
            clear hj3
            go_wp2_with fail
            go_loopw [12] (fun i wr => ∃ (j : Nat), j ≤ 32 ∧ i = .int .i64 j ∧ Below y3.heap.size y3 wr) (fun i _ => 32 - (intOf i).toNat)
            case atStart => exact ⟨0, by omega, rfl, Below.refl _ _⟩
            case round =>
              obtain ⟨j, hj, rfl, hb9⟩ := hrel
              have HY := Lib.hid hb9
              have HJ5 := Lib.hid (HJ4.out.below hb9)
              have HC5 := Lib.hid (HC3.out.below hb9)
              clear hb9
              by_cases hjl : j < 32
              · have hoj : o + j < 64 := by omega
                obtain ⟨b, hb⟩ : ∃ b, L[j]? = some b := ⟨_, List.getElem?_eq_getElem (by rw [HL.out.1]; exact hjl)⟩
                have hbl : b.length = 64 := HL.out.2.1 b (List.mem_of_getElem? hb)
                have hbD : D3.now[o + j]? = some b := by rw [HN3.out j hjl, ← HL.out.2.2 j hjl, hb]
                have hrd := Read_j (B := 0) wr g 64 D3 HJ5.out.jm0.disk HX3.out.1.off (o + j) hoj b hbD
                rw [show ((o + j : Nat) : Int) = (o : Int) + j from by push_cast; rfl] at hrd
                have HBL := Lib.hid hbl
                have HLJ := Lib.hid hb
                have hj0 : (0 : Int) ≤ j ∧ (j : Int) < 32 ∧ (0 : Int) ≤ o ∧ (o : Int) ≤ 32 := by omega
                clear hb hbl hbD
                go_wp2_with fail
                (with_reducible refine hrd.mono ?_)
                clear hrd
                rintro e w7 ⟨rfl, hb7⟩
                obtain ⟨q1, q2, q3⟩ := box_world w7 b HBL.out
                have HY7 := Lib.hid ((HY.out.next hb7).next q1)
                have hcg : HC ((w7.alloc (.cells (bvs zero64).toArray 36)).setCells w7.heap.size 0 (bvs b)) gw (flatW bvs L) := (HC5.out.below hb7).below q1
                have hgr : ((w7.alloc (.cells (bvs zero64).toArray 36)).setCells w7.heap.size 0 (bvs b)).rangeAt gw (j * 64) (bvs b) := hcg.range (j * 64) (fun i v hv => flatW_at (f := bvs) (W := 64) (fun b hb => by rw [bvs_length]; exact HL.out.2.1 b hb) (by rw [HL.out.1]; exact hjl) i v (by
                  have e : L[j]'(by rw [HL.out.1]; exact hjl) = b := by
                    have h := HLJ.out
                    rw [List.getElem?_eq_getElem (by rw [HL.out.1]; exact hjl)] at h
                    exact Option.some.inj h
                  rw [e]; exact hv))
                have Q3 := Lib.hid q3
                have Hsz := Lib.hid (size64_of HBL.out)
                have hsz := Hsz.out
                have HSS : Hid (((w7.alloc (.cells (bvs zero64).toArray 36)).setCells w7.heap.size 0 (bvs b)).rangeAt w7.heap.size 0 (bvs b) ∧ ((w7.alloc (.cells (bvs zero64).toArray 36)).setCells w7.heap.size 0 (bvs b)).rangeAt gw (j * 64) (bvs b)) := ⟨q2.bytes, hgr⟩
                have hun := Try.underlying36
                have heqb : ∀ w, (Op.equalIn 10000 36 (.agg (bvs b).toArray) (.agg (bvs b).toArray)).run Try.prog w = .ok true w := fun w => by
                  have := blocks_eq w b b HBL.out HBL.out
                  rw [decide_eq_true rfl] at this
                  exact this
                clear q1 q2 q3 hcg hgr hb7 hsz
                go_wp2_with (first
                  | (refine wpList_store_mid rfl 36 (.tmp 13) (.tmp 100) rfl w7.heap.size 0 (bvs b).toArray rfl rfl Q3.out (by simpa using Hsz.out) (all_oneCell_toArray (bs_oneCell _)) ?_; change wpList _ _ _ _ _ ((w7.alloc (.cells (bvs zero64).toArray 36)).setCells w7.heap.size 0 (bvs b)))
                  | fail)
                obtain ⟨W, hW⟩ : ∃ z, z = (w7.alloc (.cells (bvs zero64).toArray 36)).setCells w7.heap.size 0 (bvs b) := ⟨_, rfl⟩
                obtain ⟨bq, hbq⟩ : ∃ z, z = w7.heap.size := ⟨_, rfl⟩
                rw [← hW, ← hbq] at HSS
                rw [← hW] at HY7
                rw [← hW, ← hbq]
                clear hW hbq
                refine wp_region_bl 9 (by kernel_rfl) ?_
                refine wpAnyU_take (i := 0) (oi := { dst := some 102, op := Op.move (Operand.tmp 14), type := 27, pos := "more.go:64", after := #[], guard := none }) (v := (.int .i64 0)) rfl (by kernel_rfl) (by kernel_rfl) (by kernel_rfl) (by kernel_rfl) (by kernel_rfl) (fun _ _ _ h => h) (BL.cls W) ?_ ?_
                · refine Or.inl ⟨rfl, fun w hSw => ?_⟩
                  exact EffR.same (by go_simp)
                try simp only [Act.put, List.setIfInBounds_toArray, List.set_cons_zero, List.set_cons_succ]
                refine wpAnyU_take (i := 1) (oi := { dst := some 103, op := Op.binOp BinOp.neq 27 (Operand.tmp 102) (Operand.const (Value.int IntKind.i64 0)) 27, type := 4, pos := "more.go:64", after := #[{ on := 0, ground := Ground.data }], guard := none }) (v := (.bool false)) rfl (by kernel_rfl) (by kernel_rfl) (by kernel_rfl) (by kernel_rfl) (by kernel_rfl) (fun _ _ _ h => h) (BL.cls W) ?_ ?_
                · refine Or.inl ⟨rfl, fun w hSw => ?_⟩
                  exact EffR.same (by go_simp)
                try simp only [Act.put, List.setIfInBounds_toArray, List.set_cons_zero, List.set_cons_succ]
                refine wpAnyU_take (i := 2) (oi := { dst := some 104, op := Op.move (Operand.tmp 103), type := 4, pos := "more.go:64", after := #[{ on := 1, ground := Ground.data }], guard := none }) (v := (.bool false)) rfl (by kernel_rfl) (by kernel_rfl) (by kernel_rfl) (by kernel_rfl) (by kernel_rfl) (fun _ _ _ h => h) (BL.cls W) ?_ ?_
                · refine Or.inl ⟨rfl, fun w hSw => ?_⟩
                  exact EffR.same (by go_simp)
                try simp only [Act.put, List.setIfInBounds_toArray, List.set_cons_zero, List.set_cons_succ]
                refine wpAnyU_take (i := 3) (oi := { dst := some 105, op := Op.load 36 (Operand.tmp 13), type := 36, pos := "more.go:64", after := #[{ on := 2, ground := Ground.guard }], guard := some (2, false) }) (v := (.agg (bvs b).toArray)) rfl (by kernel_rfl) (by kernel_rfl) (by kernel_rfl) (by kernel_rfl) (by kernel_rfl) (fun _ _ _ h => h) (BL.cls W) ?_ ?_
                · refine Or.inl ⟨rfl, fun w hSw => ?_⟩
                  exact eff_load_mid 36 (.tmp 13) rfl bq 0 rfl (bvs b) _ (fun i v hv => BL.cell hSw (HSS.out.1 i v hv)) Try.underlying36 rfl Hsz.out
                try simp only [Act.put, List.setIfInBounds_toArray, List.set_cons_zero, List.set_cons_succ]
                refine wpAnyU_take (i := 4) (oi := { dst := some 106, op := Op.move (Operand.tmp 12), type := 3, pos := "more.go:64", after := #[{ on := 2, ground := Ground.guard }], guard := some (2, false) }) (v := (.int .i64 (j : Int))) rfl (by kernel_rfl) (by kernel_rfl) (by kernel_rfl) (by kernel_rfl) (by kernel_rfl) (fun _ _ _ h => h) (BL.cls W) ?_ ?_
                · refine Or.inl ⟨rfl, fun w hSw => ?_⟩
                  exact EffR.same (by go_simp)
                try simp only [Act.put, List.setIfInBounds_toArray, List.set_cons_zero, List.set_cons_succ]
                refine wpAnyU_take (i := 5) (oi := { dst := some 107, op := Op.indexAddr 43 (Operand.tmp 10) (Operand.tmp 106), type := 0, pos := "more.go:64", after := #[{ on := 4, ground := Ground.data }, { on := 2, ground := Ground.guard }], guard := some (2, false) }) (v := (.pointer (some ⟨gw, j * 64, none⟩))) rfl (by kernel_rfl) (by kernel_rfl) (by kernel_rfl) (by kernel_rfl) (by kernel_rfl) (fun _ _ _ h => h) (BL.cls W) ?_ ?_
                · refine Or.inl ⟨rfl, fun w hSw => ?_⟩
                  have e0 := hj0
                  exact EffR.same (by go_simp)
                try simp only [Act.put, List.setIfInBounds_toArray, List.set_cons_zero, List.set_cons_succ]
                refine wpAnyU_take (i := 6) (oi := { dst := some 108, op := Op.load 36 (Operand.tmp 107), type := 36, pos := "more.go:64", after := #[{ on := 5, ground := Ground.data }, { on := 2, ground := Ground.guard }], guard := some (2, false) }) (v := (.agg (bvs b).toArray)) rfl (by kernel_rfl) (by kernel_rfl) (by kernel_rfl) (by kernel_rfl) (by kernel_rfl) (fun _ _ _ h => h) (BL.cls W) ?_ ?_
                · refine Or.inl ⟨rfl, fun w hSw => ?_⟩
                  exact eff_load_mid 36 (.tmp 107) rfl gw (j * 64) rfl (bvs b) _ (fun i v hv => BL.cell hSw (HSS.out.2 i v hv)) Try.underlying36 rfl Hsz.out
                try simp only [Act.put, List.setIfInBounds_toArray, List.set_cons_zero, List.set_cons_succ]
                refine wpAnyU_take (i := 7) (oi := { dst := some 109, op := Op.binOp BinOp.neq 36 (Operand.tmp 105) (Operand.tmp 108) 36, type := 4, pos := "more.go:64", after := #[{ on := 3, ground := Ground.data }, { on := 6, ground := Ground.data }, { on := 2, ground := Ground.guard }], guard := some (2, false) }) (v := (.bool false)) rfl (by kernel_rfl) (by kernel_rfl) (by kernel_rfl) (by kernel_rfl) (by kernel_rfl) (fun _ _ _ h => h) (BL.cls W) ?_ ?_
                · refine Or.inl ⟨rfl, fun w hSw => ?_⟩
                  have e0 := heqb
                  exact EffR.same (by go_simp)
                try simp only [Act.put, List.setIfInBounds_toArray, List.set_cons_zero, List.set_cons_succ]
                refine wpAnyU_take (i := 8) (oi := { dst := some 110, op := Op.pick (Operand.tmp 104) (Operand.const (Value.bool true)) (Operand.tmp 109), type := 4, pos := "more.go:64", after := #[{ on := 2, ground := Ground.data }, { on := 7, ground := Ground.data }], guard := none }) (v := (.bool false)) rfl (by kernel_rfl) (by kernel_rfl) (by kernel_rfl) (by kernel_rfl) (by kernel_rfl) (fun _ _ _ h => h) (BL.cls W) ?_ ?_
                · refine Or.inl ⟨rfl, fun w hSw => ?_⟩
                  exact EffR.same (by go_simp)
                try simp only [Act.put, List.setIfInBounds_toArray, List.set_cons_zero, List.set_cons_succ]
                refine wpAnyU_done (by kernel_rfl) (fun w1 hb1 => ?_) _
                have HY9 := Lib.hid (HY7.out.next hb1)
                clear hb1
                go_wp2_with fail
                exact ⟨⟨j + 1, by omega, by push_cast; rfl, HY9.out⟩, by simp [intOf]; omega⟩
              · obtain rfl : j = 32 := by omega
                have hb10 := HB3.out.next HY.out
                have HB10 := Lib.hid hb10
                clear hb10
                go_wp2_with fail
                exact ⟨⟨k + 1, D3, T3, F3, by omega, by push_cast; rfl, HJ5.out, ⟨HFB3.out, HX3.out⟩, HB10.out⟩, by simp [intOf]; omega⟩
      · obtain rfl : k = n0 := by omega
        have hwk := wakes_any wr
        go_wp2_with fail
        (with_reducible refine hwk.mono ?_)
        clear hwk
        rintro e w6 ⟨rfl, hb6⟩
        have HB6 := Lib.hid (HB.out.next hb6)
        clear hb6
        go_wp2_with fail
        go_ret
        exact ⟨rfl, HB6.out⟩
end Cam
