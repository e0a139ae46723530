import Derived.Test.YtlnclfiiplpaiaaJnX
import Derived.Test.YtlnclfiiplpaiaaJnL2
import Derived.Test.YtlnclfiiplpaiaaFrRSeal
/- LogStale: the walk. -/
namespace Cam
open Go Go.RowKit Go.Proofs

theorem Bss.lit2 {F : Nat → Prop} {w : World} {a : Option Addr} {n c : Nat} {l : List UInt8} (hF : ∀ k, F k → k < w.heap.size) (hb : ∀ w', Kept F w w' → Bs w' (.slice a n c) l) :
    ∀ w', Kept F (w.alloc (.cells #[.slice a n c] 22)) w' → Bss w' (.slice (some ⟨w.heap.size, 0, none⟩) 1 1) [l] := fun w' hk =>
  Bss.mk1 ((hk.block w.heap.size (by simp) (fun e => by have := hF _ e; omega)).trans (heap_new (w := w) rfl)) (hb w' ((Kept.of_below ((Below.refl w.heap.size w).alloc (Nat.le_refl _) _)).weaken (fun _ h => h.elim) |>.trans hk (fun _ _ h => h)))

theorem as_u64j (x : Int) : ∃ u : Nat, IntKind.u64.wrap x = (u : Int) ∧ u < 18446744073709551616 := by
  refine ⟨(IntKind.u64.wrap x).toNat, ?_, ?_⟩
  · rw [IntKind.wrap_u64]
    omega
  · rw [IntKind.wrap_u64]
    omega

set_option maxRecDepth 100000 in
set_option maxHeartbeats 6400000 in
theorem LogStale_walk (w : World) (n0 n1 n2 : Int) (v3 v4 : Value) (bd : List UInt8) (sz : List Int) (h3 : Bs w v3 bd) (h4 : Is w v4 sz) :
    Calls Try.prog 5 #[.int .i64 n0, .int .i64 n1, .int .i64 n2, v3, v4] w fun e w' => e = .returned (.bool true) ∧ Below w.heap.size w w' := by
  obtain ⟨a3, c3, rfl, hc3, hm3⟩ := h3.shape
  obtain ⟨a4, c4, rfl, hc4, hm4⟩ := h4.shape
  obtain ⟨n3, hn3⟩ : ∃ z, z = bd.length := ⟨_, rfl⟩
  obtain ⟨n4, hn4⟩ : ∃ z, z = sz.length := ⟨_, rfl⟩
  rw [← hn3] at h3 hc3 ⊢
  rw [← hn4] at h4 hc4 ⊢
  have H3 := Lib.hid h3
  have H4 := Lib.hid h4
  have HN3 := Lib.hid hn3
  have HN4 := Lib.hid hn4
  clear h3 h4 hn3 hn4
  by_cases q0 : n0 < 1
  · go_enter Try.func5, Try.ntmps5
    go_wp2_with fail
    go_ret
    exact ⟨rfl, Below.refl _ _⟩
  have q0' : decide (n0 < 1) = false := by simp; omega
  by_cases q1 : 12 < n0
  · go_enter Try.func5, Try.ntmps5
    go_wp2_with fail
    go_ret
    exact ⟨rfl, Below.refl _ _⟩
  have q1' : decide (12 < n0) = false := by simp; omega
  by_cases q2 : n1 < 0
  · go_enter Try.func5, Try.ntmps5
    go_wp2_with fail
    go_ret
    exact ⟨rfl, Below.refl _ _⟩
  have q2' : decide (n1 < 0) = false := by simp; omega
  by_cases q3 : 20 < n1
  · go_enter Try.func5, Try.ntmps5
    go_wp2_with fail
    go_ret
    exact ⟨rfl, Below.refl _ _⟩
  have q3' : decide (20 < n1) = false := by simp; omega
  by_cases q4 : n2 < 0
  · go_enter Try.func5, Try.ntmps5
    go_wp2_with fail
    go_ret
    exact ⟨rfl, Below.refl _ _⟩
  have q4' : decide (n2 < 0) = false := by simp; omega
  by_cases q5 : 20 < n2
  · go_enter Try.func5, Try.ntmps5
    go_wp2_with fail
    go_ret
    exact ⟨rfl, Below.refl _ _⟩
  have q5' : decide (20 < n2) = false := by simp; omega
  by_cases q6 : (60 : Int) < n3
  · go_enter Try.func5, Try.ntmps5
    go_wp2_with fail
    go_ret
    exact ⟨rfl, Below.refl _ _⟩
  have q6' : decide ((60 : Int) < n3) = false := by simp; omega
  by_cases q7 : (8 : Int) < n4
  · go_enter Try.func5, Try.ntmps5
    go_wp2_with fail
    go_ret
    exact ⟨rfl, Below.refl _ _⟩
  have q7' : decide ((8 : Int) < n4) = false := by simp; omega
  obtain ⟨N, rfl⟩ : ∃ N : Nat, n0 = (N : Int) := ⟨n0.toNat, by omega⟩
  obtain ⟨G, rfl⟩ : ∃ N : Nat, n1 = (N : Int) := ⟨n1.toNat, by omega⟩
  obtain ⟨K, rfl⟩ : ∃ N : Nat, n2 = (N : Int) := ⟨n2.toNat, by omega⟩
  have hN12 : 1 ≤ N ∧ N ≤ 12 := by omega
  have hG20 : G ≤ 20 := by omega
  have hK20 : K ≤ 20 := by omega
  have hn360 : n3 ≤ 60 := by omega
  have hn48 : n4 ≤ 8 := by omega
  have hn := New_x w 120 (by omega) (by omega)
  rw [show ((120 : Nat) : Int) = 120 from rfl] at hn
  go_enter Try.func5, Try.ntmps5
  go_wp2_with fail
  refine hn.mono ?_
  clear hn
  rintro e w1 ⟨g, Fd, rfl, hd1, hF1, hb1⟩
  have HB1 := Lib.hid hb1
  have HD1 := Lib.hid hd1
  have HF1 := Lib.hid hF1
  clear hb1 hd1 hF1
  go_wp2_with fail
  go_loopw [13, 14] (fun v i wr => ∃ (k : Nat) (a : Option Addr) (q c : Nat) (l : List UInt8), k ≤ N ∧ i = .int .i64 k ∧ v = .slice a q c ∧ OwnB 5 wr w1.heap.size (.slice a q c) l ∧ Hid (l.length ≤ k * 81 ∧ k ≤ l.length) ∧ Below w1.heap.size w1 wr) (fun _ i _ => N - (intOf i).toNat)
  case atStart => exact ⟨0, none, 0, 0, [], by omega, rfl, rfl, OwnB.empty _ _ _, ⟨by simp, by simp⟩, Below.refl _ _⟩
  case round =>
    obtain ⟨k, a, q, c, l, hk, rfl, rfl, ho, HLL, hb⟩ := hrel
    have HO := Lib.hid ho
    have HB := Lib.hid hb
    clear ho hb
    by_cases hlt : k < N
    · have hse := refSeal_any wr (.slice a3 n3 c3) G (K + k) bd (H3.out.mono (HB1.out.trans (HB.out.mono HB1.out.size))) (by omega) (by omega) (by have := HN3.out; omega)
      rw [show ((K + k : Nat) : Int) = (K : Int) + k from by push_cast; rfl] at hse
      have hk0 : (0 : Int) ≤ k ∧ (k : Int) < N ∧ (N : Int) ≤ 12 ∧ (0 : Int) ≤ K ∧ (K : Int) ≤ 20 := by omega
      go_wp2_with fail
      refine hse.mono ?_
      clear hse
      rintro e w2 ⟨v2, rfl, ho2, hb2⟩
      have hsl : (sealB G (K + k) bd).length ≤ 81 ∧ 1 ≤ (sealB G (K + k) bd).length := by rw [sealB_length]; have := HN3.out; omega
      obtain ⟨l2, hl2⟩ : ∃ z, z = sealB G (K + k) bd := ⟨_, rfl⟩
      rw [← hl2] at ho2 hsl
      obtain ⟨a2, n2, c2, rfl, Hn2, ho2⟩ := ho2.named
      have HO2 := Lib.hid ho2
      have HB2 := Lib.hid hb2
      have HO3 := Lib.hid (HO.out.below hb2)
      have hbs := Nat.le_trans HB.out.size hb2.size
      clear hl2 ho2 hb2
      go_wp2_with (first
        | (at_builtin; refine wpList_append_bytes rfl (.tmp 64) (.tmp 70) 22 rfl elem_u8 rfl rfl HO3.out HO2.out.bs (by have := HLL.out; omega) hbs ?_; intro a5 n5 c5 w5 Hn5 ho5 hb5 _)
        | fail)
      have HB5 := Lib.hid ((HB.out.next HB2.out).trans hb5)
      exact ⟨⟨k + 1, a5, n5, c5, l ++ l2, by omega, by push_cast; rfl, rfl, ho5, ⟨by rw [List.length_append]; have := HLL.out; omega, by rw [List.length_append]; have := HLL.out; omega⟩, HB5.out⟩, by simp [intOf]; omega⟩
    · obtain rfl : k = N := by omega
      obtain ⟨rq, hrq⟩ : ∃ z : Nat, z = q := ⟨_, rfl⟩
      have HST : Hid (Stay Fd wr (fun w' => Bs w' (.slice a q c) l)) := Stay.own HO.out (fun x hx e => by have := (World.ownsRow.lt HO.out x hx).1; have := HD1.out.lt x e; omega)
      have HL9 : Hid (l.length ≤ 972) := by show _ ≤ _; have := HLL.out; omega
      have HBW := Lib.hid (HB1.out.trans (HB.out.mono HB1.out.size))
      have HDX := Lib.hid (HD1.out.below HB.out)
      clear HO HB HLL hrq rq
      go_wp2_with fail
      go_loopw [15] (fun i wr => ∃ (k : Nat) (D : DK) (Fd : Nat → Prop), k ≤ n4 ∧ i = .int .i64 k ∧ DX wr g Fd 120 D ∧ Hid ((∀ q, Fd q → w.heap.size ≤ q) ∧ OnD D ∧ D.op = [] ∧ (openT 120 D.now).half.gen = k) ∧ Hid (Stay Fd wr (fun w' => Bs w' (.slice a q c) l)) ∧ Below w.heap.size w wr) (fun i _ => n4 - (intOf i).toNat)
      case atStart => exact ⟨0, _, Fd, by omega, rfl, HDX.out, ⟨HF1.out, OnD.new 120, rfl, by rw [openT_new]⟩, HST, HBW.out⟩
      case round =>
        clear HST HDX HBW HD1 HF1
        obtain ⟨k, D, Fd, hk, rfl, hd, HX, HST, hb⟩ := hrel
        have HD := Lib.hid hd
        have HB := Lib.hid hb
        clear hd hb
        by_cases hlt : k < n4
        · have hkp : k < sz.length := by have := HN4.out; omega
          obtain ⟨b9, o9, rfl, hlt9, hcell⟩ := (H4.out.mono HB.out).at (by omega)
          have hc := hcell k hkp
          obtain ⟨p9, hp9⟩ : ∃ z, z = sz[k] := ⟨_, rfl⟩
          rw [← hp9] at hc
          obtain ⟨u, hu, hu64⟩ := as_u64j p9
          obtain ⟨r, hr, hr130⟩ : ∃ r : Nat, ((u : Int) % 130) = (r : Int) ∧ r < 130 := ⟨u % 130, by omega, by omega⟩
          obtain ⟨T, hT⟩ : ∃ z, z = openT 120 D.now := ⟨_, rfl⟩
          have hop := Open_f wr g 120 Fd D HD.out HX.out.2.1.off (by omega)
          obtain ⟨hfr, hhf, hbeg⟩ := openT_half 120 D.now
          have hTg := HX.out.2.2.2
          rw [← hT] at hop hfr hhf hbeg hTg
          have hg : (readL (halfOf D.now T.from_ (120 / 2))).gen = k := by rw [← hhf]; exact hTg
          have hNl : D.now.length = 120 := HD.out.ok.now.1
          obtain ⟨ot, hot⟩ : ∃ z, z = 120 / 2 - T.from_ := ⟨_, rfl⟩
          have hot60 : ot ≤ 60 := by omega
          obtain ⟨sn, hsn⟩ : ∃ z, z = List.replicate r (0 : UInt8) := ⟨_, rfl⟩
          have hsl : sn.length = r := by rw [hsn, List.length_replicate]
          have hr3 : (rowsOf (k + 1) 0 sn).length ≤ 3 := by rw [rowsOf_length, hsl]; unfold needN; omega
          have hq17 : (recRows (k + 1) 1 [l]).length ≤ 17 := by rw [recRows_one, rowsOf_length]; unfold needN; have := HL9.out; omega
          obtain ⟨hold1, hhold1⟩ := openT_begin (g := k) (s := sn) hNl hfr (by omega)
          have hO1 := openT_next hfr hold1 hg hhold1 (by omega) (by omega) (by simp) (by simp)
          obtain ⟨N1, hN1⟩ : ∃ z, z = puts (puts D.now (120 / 2 - T.from_) (List.replicate (120 / 2) zero64)) (120 / 2 - T.from_) (rowsOf (k + 1) 0 sn) := ⟨_, rfl⟩
          have hN1l : N1.length = 120 := by rw [hN1, puts_length, puts_length, hNl]
          rw [← hN1] at hO1 hold1 hhold1
          rw [← hot] at hO1 hhold1
          have hh2 : Holds (puts N1 (ot + (rowsOf (k + 1) 0 sn).length) (recRows (k + 1) 1 [l])) ot (120 / 2) (k + 1) sn [l] := by
            have h := append_holds (qs := [l]) hhold1 (by omega) (by simp only [recRows, List.length_nil, Nat.zero_add] at hq17 ⊢; omega)
            simpa [recRows] using h
          have hold2 : halfOf (puts N1 (ot + (rowsOf (k + 1) 0 sn).length) (recRows (k + 1) 1 [l])) T.from_ (120 / 2) = halfOf D.now T.from_ (120 / 2) := by
            rw [← hold1]
            exact puts_other (by omega) (by omega)
          have hO2 := openT_next hfr hold2 hg (by rw [← hot]; exact hh2) (by omega) (by omega) (by intro x hx; simp at hx; rw [hx]; have := HL9.out; omega) (by simp)
          rw [← hot] at hO2
          have HO1 := Lib.hid hO1
          have HO2 := Lib.hid hO2
          have HSL := Lib.hid hsl
          have HR3 := Lib.hid hr3
          have HQ17 := Lib.hid hq17
          have HN1 := Lib.hid hN1
          have HSN := Lib.hid hsn
          have HOT := Lib.hid hot
          have HFR := Lib.hid hfr
          have HTG := Lib.hid hTg
          have hk0 : (0 : Int) ≤ k ∧ (k : Int) < n4 ∧ (n4 : Int) ≤ 8 := by omega
          have hrr : (0 : Int) ≤ r ∧ (r : Int) < 130 := by omega
          clear hcell hp9 hT hfr hhf hbeg hTg hg hNl hot hsn hsl hr3 hq17 hold1 hhold1 hO1 hN1 hN1l hh2 hold2 hO2
          go_wp2_with fail
          (with_reducible refine hop.mono ?_)
          clear hop
          rintro e x1 ⟨gl, F1, rfl, hj1, hf1, hb1⟩
          have HBx1 := Lib.hid hb1
          have HJ1 := Lib.hid hj1
          have HF1 := Lib.hid hf1
          have hcx := (Below.cell (p := ⟨b9, o9 + k, none⟩) hb1 (World.block_lt_of_cell? wr _ hc)).trans hc
          clear hb1 hj1 hf1 hc
          go_wp2_with (first
            | (refine make_bytes rfl (.tmp 89) (.tmp 89) 22 rfl elem_u8 zero_byte r rfl rfl (by omega) ?_; intro a5 c5 x2 ho5 hb5)
            | fail)
          rw [← HSN.out] at ho5
          have HJ2 := Lib.hid (HJ1.out.below hb5)
          have HW2 := Lib.hid (HBx1.out.trans (hb5.mono HBx1.out.size))
          have HS1 : Hid (Stay F1 x2 (fun w' => Bs w' (.slice a q c) l)) := HST.out.more HW2.out HF1.out
          have HS2 : Hid (Stay F1 x2 (fun w' => Bs w' (.slice a5 r c5) sn)) := Stay.own ho5 (fun x hx e => by have := (World.ownsRow.lt ho5 x hx).1; have := HJ1.out.lt x e; omega)
          have HFB1 : Hid (∀ q, F1 q → w.heap.size ≤ q) := fun x e => by rcases HF1.out x e with h | h; exact HX.out.1 x h; have := HB.out.size; omega
          have hbg := Begin_f x2 g gl 120 D T HJ2.out (.slice a5 r c5) sn HS2.out HX.out.2.1 HFR.out (by rw [HTG.out]; omega) (by rw [HSL.out]; omega) (by rw [HTG.out]; have := HR3.out; omega) (by rw [HX.out.2.2.1]; decide)
          rw [HTG.out, ← HN1.out, ← HOT.out] at hbg
          clear ho5 hb5 hcx
          go_wp2_with fail
          (with_reducible refine hbg.mono ?_)
          clear hbg
          rintro e y1 ⟨rfl, F2, hj2, hk2, hf2⟩
          have HBy1 : Hid (Below w.heap.size w y1) := (HB.out.next HW2.out).trans (keptB hk2 HFB1.out (Nat.le_trans HB.out.size HW2.out.size))
          have HFB2 : Hid (∀ q, F2 q → w.heap.size ≤ q) := fun x e => by rcases hf2 x e with h | h; exact HFB1.out x h; have := HB.out.size; have := HW2.out.size; omega
          have HSR : Hid (Stay F2 y1 (fun w' => Bs w' (.slice a q c) l)) := HS1.out.next hk2 hf2
          have HSS : Hid (Stay F2 y1 (fun w' => Bs w' (.slice a5 r c5) sn)) := HS2.out.next hk2 hf2
          have HON1 : Hid (OnD (dLaid D N1)) := HX.out.2.1.laid _
          obtain ⟨Fe, hdx, hsub⟩ := hj2.dx
          have hop := Open_f y1 g 120 Fe _ hdx HON1.out.off (by omega)
          rw [show (dLaid D N1).now = N1 from rfl, HO1.out] at hop
          have HJ3 := Lib.hid hj2
          clear hj2 hk2 hf2 hdx hsub
          go_wp2_with fail
          (with_reducible refine hop.mono ?_)
          clear hop
          rintro e y2 ⟨gk, F3, rfl, hj3, hf3, hb3⟩
          have HBy2 := Lib.hid hb3
          have HJ4 := Lib.hid hj3
          clear hj3 hf3 hb3
          have hrc := Recs_j (B := 0) y2 g gk 120 _ _ HJ4.out.jm0 (fun x hx => by simp at hx) (by show (0 : Nat) ≤ _; decide)
          go_wp2_with fail
          (with_reducible refine hrc.mono ?_)
          clear hrc
          rintro e y3 ⟨u6, rfl, hu6, hb6⟩
          obtain ⟨a6, c6, rfl, _, _⟩ := hu6.bss.len
          have HBy3 := Lib.hid (HBy2.out.next hb6)
          have HJ5 := Lib.hid (HJ4.out.below hb6)
          rw [show ([] : List (List UInt8)).length = 0 from rfl]
          have hsp := Snap_j (B := 0) y3 g gk 120 _ _ HJ5.out.jm0 (by show sn.length ≤ _; rw [HSL.out]; omega)
          clear hu6 hb6
          go_wp2_with fail
          (with_reducible refine hsp.mono ?_)
          clear hsp
          rintro e y4 ⟨u7, rfl, hu7, hb7⟩
          have HBy4 := Lib.hid (HBy3.out.next hb7)
          have hby := Bytes_any y4 u7 (.slice a5 r c5) sn sn hu7.bs (HSS.out.below HBy4.out).here
          rw [decide_eq_true rfl] at hby
          clear hu7 hb7
          go_wp2_with fail
          (with_reducible refine hby.mono ?_)
          clear hby
          rintro e y5 ⟨rfl, hb8⟩
          have HBy5 := Lib.hid (HBy4.out.next hb8)
          have HJ6 := Lib.hid (HJ3.out.below HBy5.out)
          have HSR5 : Hid (Stay F2 y5 (fun w' => Bs w' (.slice a q c) l)) := HSR.out.below HBy5.out
          have HBB5 := Lib.hid (HBy1.out.next HBy5.out)
          have hap := Append_f (y5.alloc (.cells #[.slice a q c] 22)) g gl 120 _ _ (HJ6.out.below ((Below.refl _ _).alloc (Nat.le_refl _) _)) (.slice (some ⟨y5.heap.size, 0, none⟩) 1 1) [l] (Bss.lit2 HJ6.out.lt HSR5.out) HON1.out rfl (by show ot ≤ 60; omega) (by show (rowsOf (k + 1) 0 sn).length + (recRows (k + 1) 1 [l]).length ≤ 60; have := HR3.out; have := HQ17.out; omega) (by show k + 1 ≤ _; omega) (by show (0 : Nat) ≤ _; omega) (fun x hx => by simp at hx; rw [hx]; have := HL9.out; omega) (by simp) (by show (0 : Nat) ≤ _; omega)
          clear hb8
          go_wp2_with fail
          (with_reducible refine hap.mono ?_)
          clear hap
          rintro e z1 ⟨rfl, F4, hj4, hk4, hf4⟩
          have HBA := Lib.hid (HBB5.out.alloc HBB5.out.size (.cells #[.slice a q c] 22))
          have HBz1 : Hid (Below w.heap.size w z1) := HBA.out.trans (keptB hk4 HFB2.out HBA.out.size)
          have HFB4 : Hid (∀ q, F4 q → w.heap.size ≤ q) := fun x e => by rcases hf4 x e with h | h; exact HFB2.out x h; have := HBA.out.size; omega
          have HSR6 : Hid (Stay F4 z1 (fun w' => Bs w' (.slice a q c) l)) := (HSR5.out.alloc _).next hk4 hf4
          have hon2 := HON1.out.puts (ot + (rowsOf (k + 1) 0 sn).length) (recRows (k + 1) (0 + 1) [l])
          have hsy := Sync_f z1 g gl 120 _ _ hj4 hon2
          have HON2 := Lib.hid hon2
          clear hj4 hk4 hf4 hon2
          go_wp2_with fail
          (with_reducible refine hsy.mono ?_)
          clear hsy
          rintro e z2 ⟨rfl, F5, hj5, hk5, hf5⟩
          have HBz2 : Hid (Below w.heap.size w z2) := HBz1.out.trans (keptB hk5 HFB4.out HBz1.out.size)
          have HFB5 : Hid (∀ q, F5 q → w.heap.size ≤ q) := fun x e => by rcases hf5 x e with h | h; exact HFB4.out x h; have := HBz1.out.size; omega
          have HSR7 : Hid (Stay F5 z2 (fun w' => Bs w' (.slice a q c) l)) := HSR6.out.next hk5 hf5
          obtain ⟨Fe, hdx, hsub⟩ := hj5.dx
          have HSUB := Lib.hid hsub
          obtain ⟨D3, hD3, HDX3⟩ : ∃ D3, Hid (OnD D3 ∧ D3.op = [] ∧ D3.now = puts N1 (ot + (rowsOf (k + 1) 0 sn).length) (recRows (k + 1) 1 [l])) ∧ Hid (DX z2 g Fe 120 D3) := ⟨_, ⟨HON2.out.laid _, rfl, rfl⟩, hdx⟩
          have hop := Open_f z2 g 120 Fe _ HDX3.out hD3.out.1.off (by omega)
          rw [hD3.out.2.2, HO2.out] at hop
          clear hj5 hk5 hf5 hdx hsub
          go_wp2_with fail
          (with_reducible refine hop.mono ?_)
          clear hop
          rintro e z3 ⟨gm, F6, rfl, hj6, hf6, hb9⟩
          have HBz3 := Lib.hid hb9
          have HJ7 := Lib.hid hj6
          clear hj6 hf6 hb9
          have hrc := Recs_j (B := 0) z3 g gm 120 _ _ HJ7.out.jm0 (fun x hx => by simp at hx; rw [hx]; have := HL9.out; omega) (by show (1 : Nat) ≤ _; decide)
          go_wp2_with fail
          (with_reducible refine hrc.mono ?_)
          clear hrc
          rintro e t1 ⟨u10, rfl, hu10, hb10⟩
          obtain ⟨a10, c10, rfl, _, _⟩ := hu10.bss.len
          have HBt1 := Lib.hid (HBz3.out.next hb10)
          have HJt1 := Lib.hid (HJ7.out.below hb10)
          rw [show ([l] : List (List UInt8)).length = 1 from rfl]
          clear hu10 hb10
          have hrc := Recs_j (B := 0) t1 g gm 120 _ _ HJt1.out.jm0 (fun x hx => by simp at hx; rw [hx]; have := HL9.out; omega) (by show (1 : Nat) ≤ _; decide)
          go_wp2_with fail
          (with_reducible refine hrc.mono ?_)
          clear hrc
          rintro e t2 ⟨u11, rfl, hu11, hb11⟩
          obtain ⟨a11, c11, rfl, _, _⟩ := hu11.bss.len
          have HBt2 := Lib.hid (HBt1.out.next hb11)
          have HJt2 := Lib.hid (HJt1.out.below hb11)
          rw [show ([l] : List (List UInt8)).length = 1 from rfl]
          clear hu11 hb11
          have hrc := Recs_j (B := 0) t2 g gm 120 _ _ HJt2.out.jm0 (fun x hx => by simp at hx; rw [hx]; have := HL9.out; omega) (by show (1 : Nat) ≤ _; decide)
          go_wp2_with fail
          (with_reducible refine hrc.mono ?_)
          clear hrc
          rintro e t3 ⟨u12, rfl, hu12, hb12⟩
          obtain ⟨a12, c12, rfl, _, _⟩ := hu12.bss.len
          have HBt3 := Lib.hid (HBt2.out.next hb12)
          have HJt3 := Lib.hid (HJt2.out.below hb12)
          rw [show ([l] : List (List UInt8)).length = 1 from rfl]
          clear hu12 hb12
          have hrc := Recs_j (B := 0) t3 g gm 120 _ _ HJt3.out.jm0 (fun x hx => by simp at hx; rw [hx]; have := HL9.out; omega) (by show (1 : Nat) ≤ _; decide)
          go_wp2_with fail
          (with_reducible refine hrc.mono ?_)
          clear hrc
          rintro e t4 ⟨u13, rfl, hu13, hb13⟩
          obtain ⟨a13, c13, rfl, _, _⟩ := hu13.bss.len
          have HBt4 := Lib.hid (HBt3.out.next hb13)
          have HJt4 := Lib.hid (HJt3.out.below hb13)
          obtain ⟨_, b6, o6, rfl, hF6, hlt6, hcx⟩ := hu13.cellAt (by simp)
          obtain ⟨s6, hs6, ho6⟩ := hcx 0 (by simp)
          obtain ⟨s1, s2, s3⟩ := s6
          have hcell : t4.cell? ⟨b6, o6, none⟩ = some (.slice s1 s2 s3) := hs6
          have hby := Bytes_any t4 (.slice s1 s2 s3) (.slice a q c) l l ho6.bs (HSR7.out.below HBt4.out).here
          rw [decide_eq_true rfl] at hby
          rw [show ([l] : List (List UInt8)).length = 1 from rfl]
          clear hu13 hb13 hcx hs6 ho6 hF6
          go_wp2_with fail
          (with_reducible refine hby.mono ?_)
          clear hby
          rintro e t5 ⟨rfl, hb14⟩
          have HBt5 := Lib.hid (HBt4.out.next hb14)
          clear hb14
          go_wp2_with fail
          exact ⟨⟨k + 1, D3, Fe, by omega, by push_cast; rfl, HDX3.out.below HBt5.out, ⟨fun x e => HFB5.out x (HSUB.out x e), hD3.out.1, hD3.out.2.1, by rw [hD3.out.2.2, HO2.out]⟩, (HSR7.out.fewer HSUB.out).below HBt5.out, HBz2.out.next HBt5.out⟩, by simp [intOf]; omega⟩
        · obtain rfl : k = n4 := by omega
          have hwk := wakes_any wr
          go_wp2_with fail
          (with_reducible refine hwk.mono ?_)
          clear hwk
          rintro e w6 ⟨rfl, hb6⟩
          have HB6 := Lib.hid (HB.out.next hb6)
          clear hb6
          go_wp2_with fail
          go_ret
          exact ⟨rfl, HB6.out⟩
end Cam
