import Derived.Test.YtdihockdaccmdaaRefW2
/- cambistref01: Sum. -/
namespace Cam
open Go Go.RowKit Go.Proofs

set_option maxRecDepth 100000 in
set_option maxHeartbeats 1600000 in
/-- cambistref01.Sum -/
theorem rSum_any (w : World) (v : Value) (l : List Int) (h : Ws w v l) (hW : ∀ x ∈ l, isWide x = true) :
    Calls Try.prog 31 #[v] w fun e w' => e = .returned (.tuple #[wideV (wSum l), .bool (isWide (sumI l))]) ∧ Below w.heap.size w w' := by
  obtain ⟨a, cap, rfl, hcap, hm⟩ := h.shape
  have HW := Lib.hid hW
  have hl := Lib.hid (show l.length ≤ 9223372036854775807 by omega)
  clear hW
  go_enter Try.func31, Try.ntmps31
  go_wp2_with fail
  have h0 := h.alloc (.cells wideZ 63)
  have hb0 : Below w.heap.size w (w.alloc (.cells wideZ 63)) := (Below.refl _ _).alloc (Nat.le_refl _) _
  have hg0 : (w.alloc (.cells wideZ 63)).heap[w.heap.size]? = some (.cells wideZ 63 (0, 0)) := heap_alloc_new _ _
  have Hg := Lib.hid hg0
  clear hg0 h
  change Code.wp _ _ _ _ (w.alloc (.cells wideZ 63))
  generalize w.alloc (.cells wideZ 63) = w0 at *
  go_loop [4, 5, 6, 7] (fun tp hi lo i => ∃ (k x y : Nat) (t : Int), k ≤ l.length ∧ i = .int .i64 k ∧ lo = .int .u64 (x : Int) ∧ hi = .int .u64 (y : Int) ∧ tp = .int .i64 t ∧ (-(k : Int) ≤ t ∧ t ≤ k) ∧ x < 18446744073709551616 ∧ y < 18446744073709551616 ∧ Hid (sumI (l.take k) = t * 340282366920938463463374607431768211456 + (y : Int) * 18446744073709551616 + x)) (fun _ _ _ i => l.length - (intOf i).toNat)
  case atStart => exact ⟨0, 0, 0, 0, Nat.zero_le _, rfl, rfl, rfl, rfl, by omega, by omega, by omega, rfl⟩
  case round =>
    obtain ⟨k, x, y, t, hk, rfl, rfl, rfl, rfl, ht, hx, hy, HS⟩ := hrel
    by_cases hlt : k < l.length
    · obtain ⟨b, off, rfl, hbl, hc⟩ := h0.at (by omega)
      obtain ⟨hc0, hc1⟩ := hc k hlt
      clear hc
      obtain ⟨v, hv⟩ : ∃ v, v = l[k] := ⟨_, rfl⟩
      have wv := IsW.of (HW.out _ (List.getElem_mem hlt))
      rw [← hv] at hc0 hc1 wv
      obtain ⟨n, hn⟩ : ∃ n, n = wHi v := ⟨_, rfl⟩
      rw [← hn] at hc0 wv
      have hbn := wv.1
      have hbu := wv.2.1
      have hvv := wv.2.2
      obtain ⟨u, hu⟩ : ∃ u : Nat, (u : Int) = wLo v := ⟨(wLo v).toNat, by omega⟩
      obtain ⟨s, hs⟩ : ∃ s : Nat, (s : Int) = n % 18446744073709551616 := ⟨(n % 18446744073709551616).toNat, by omega⟩
      have h1 : IntKind.u64.wrap n = (s : Int) := by rw [IntKind.wrap_u64, hs]
      rw [← hu] at hc1 hvv
      have hs1 : sumI (l.take (k + 1)) = sumI (l.take k) + v := by rw [take_snoc l k hlt, sumI_snoc, hv]
      rw [HS.out, hvv] at hs1
      have hadd1 := add64_run x u 0 (by omega) w0
      have hadd2 := add64_run y s ((x + u) / 18446744073709551616) (by omega) w0
      rw [Nat.add_zero, show (((0 : Nat) : Int)) = 0 from rfl] at hadd1
      obtain ⟨d, hd⟩ : ∃ d, d = (y + s + (x + u) / 18446744073709551616) / 18446744073709551616 := ⟨_, rfl⟩
      have hd1 : d ≤ 1 := by omega
      have hS2 : Hid (sumI (l.take (k + 1)) = (t + d - (if n < 0 then 1 else 0)) * 340282366920938463463374607431768211456 + (((y + s + (x + u) / 18446744073709551616) % 18446744073709551616 : Nat) : Int) * 18446744073709551616 + (((x + u) % 18446744073709551616 : Nat) : Int)) := by
        show _ = _
        rw [hs1]
        split <;> omega
      have hx' : (x + u) % 18446744073709551616 < 18446744073709551616 := by omega
      have hy' : (y + s + (x + u) / 18446744073709551616) % 18446744073709551616 < 18446744073709551616 := by omega
      have hlen := hl.out
      rw [← hd] at hadd2
      clear hd hs hu hv wv hvv hs1 HS hbu
      generalize (x + u) / 18446744073709551616 = c1 at *
      generalize (x + u) % 18446744073709551616 = x' at *
      generalize (y + s + c1) % 18446744073709551616 = y' at *
      have Hn := Lib.hid hn
      clear hn
      by_cases hneg : n < 0
      · rw [if_pos hneg] at hS2
        go_wp2_with fail
        exact ⟨⟨k + 1, x', y', t + d - 1, by omega, by push_cast; rfl, rfl, rfl, rfl, by omega, hx', hy', hS2⟩, by simp [intOf]; omega⟩
      · rw [if_neg hneg, Int.sub_zero] at hS2
        have hneg' : decide (n < 0) = false := by simp; omega
        go_wp2_with fail
        exact ⟨⟨k + 1, x', y', t + d, by omega, by push_cast; rfl, rfl, rfl, rfl, by omega, hx', hy', hS2⟩, by simp [intOf]; omega⟩
    · have hS := HS.out
      rw [List.take_of_length_le (by omega)] at hS
      obtain ⟨m, hmm⟩ : ∃ m, wrap64 (y : Int) = m := ⟨_, rfl⟩
      have hmb : (-9223372036854775808 ≤ m ∧ m ≤ 9223372036854775807) ∧ (m = (y : Int) ∨ m = (y : Int) - 18446744073709551616) := by
        rw [← hmm]
        unfold wrap64
        omega
      have HS2 := Lib.hid hS
      have Hmb := Lib.hid hmb
      have Hx := Lib.hid (And.intro hx hy)
      clear hS hmb HS hx hy ht
      by_cases hm0 : m < 0
      · have hm1 : decide (0 ≤ m) = false := by simp; omega
        by_cases ht1 : t = -1
        · subst ht1
          have Ww : Hid (IsW m x (sumI l)) := by
            show IsW _ _ _
            have := HS2.out
            have := Hmb.out
            have := Hx.out
            unfold IsW
            omega
          go_wp2_with (refine wpList_store_row rfl 63 (.tmp 2) (.tmp 73) rfl w.heap.size #[.int .i64 m, .int .u64 x] rfl rfl 63 wideZ Hg.out wideSize rfl (wide_one _ _) ?_)
          refine bodyPost_ret (results_row_tmp rfl _ _ w.heap.size 63 #[.int .i64 m, .int .u64 x] (0, 0) _ rfl (setRow_heap _ _ _ _ _ _ Hg.out) Try.underlying63 rfl wideSize rfl) rfl ?_
          exact ⟨by unfold wSum; rw [Ww.out.wide, if_pos rfl, Ww.out.val]; rfl, Below.setRow hb0 (Nat.le_refl _) _⟩
        · have Hf : Hid (isWide (sumI l) = false) := by
            show _ = _
            have := HS2.out
            have := Hmb.out
            have := Hx.out
            rw [Bool.eq_false_iff, Ne, isWide_iff]
            omega
          have ht2 : (t == -1) = false := by simp [ht1]
          by_cases ht0 : t = 0
          · subst ht0
            go_wp2_with (refine wpList_store_row rfl 63 (.tmp 2) (.tmp 74) rfl w.heap.size wideZ rfl rfl 63 wideZ Hg.out wideSize rfl (wide_one _ _) ?_)
            refine bodyPost_ret (results_row_tmp rfl _ _ w.heap.size 63 wideZ (0, 0) _ rfl (setRow_heap _ _ _ _ _ _ Hg.out) Try.underlying63 rfl wideSize rfl) rfl ?_
            exact ⟨by unfold wSum; rw [Hf.out]; rfl, Below.setRow hb0 (Nat.le_refl _) _⟩
          · have ht3 : (t == 0) = false := by simp [ht0]
            go_wp2_with (refine wpList_store_row rfl 63 (.tmp 2) (.tmp 74) rfl w.heap.size wideZ rfl rfl 63 wideZ Hg.out wideSize rfl (wide_one _ _) ?_)
            refine bodyPost_ret (results_row_tmp rfl _ _ w.heap.size 63 wideZ (0, 0) _ rfl (setRow_heap _ _ _ _ _ _ Hg.out) Try.underlying63 rfl wideSize rfl) rfl ?_
            exact ⟨by unfold wSum; rw [Hf.out]; rfl, Below.setRow hb0 (Nat.le_refl _) _⟩
      · have hm1 : decide (m < 0) = false := by simp; omega
        by_cases ht1 : t = 0
        · subst ht1
          have Ww : Hid (IsW m x (sumI l)) := by
            show IsW _ _ _
            have := HS2.out
            have := Hmb.out
            have := Hx.out
            unfold IsW
            omega
          go_wp2_with (refine wpList_store_row rfl 63 (.tmp 2) (.tmp 73) rfl w.heap.size #[.int .i64 m, .int .u64 x] rfl rfl 63 wideZ Hg.out wideSize rfl (wide_one _ _) ?_)
          refine bodyPost_ret (results_row_tmp rfl _ _ w.heap.size 63 #[.int .i64 m, .int .u64 x] (0, 0) _ rfl (setRow_heap _ _ _ _ _ _ Hg.out) Try.underlying63 rfl wideSize rfl) rfl ?_
          exact ⟨by unfold wSum; rw [Ww.out.wide, if_pos rfl, Ww.out.val]; rfl, Below.setRow hb0 (Nat.le_refl _) _⟩
        · have Hf : Hid (isWide (sumI l) = false) := by
            show _ = _
            have := HS2.out
            have := Hmb.out
            have := Hx.out
            rw [Bool.eq_false_iff, Ne, isWide_iff]
            omega
          have ht2 : (t == 0) = false := by simp [ht1]
          by_cases ht0 : t = -1
          · subst ht0
            go_wp2_with (refine wpList_store_row rfl 63 (.tmp 2) (.tmp 74) rfl w.heap.size wideZ rfl rfl 63 wideZ Hg.out wideSize rfl (wide_one _ _) ?_)
            refine bodyPost_ret (results_row_tmp rfl _ _ w.heap.size 63 wideZ (0, 0) _ rfl (setRow_heap _ _ _ _ _ _ Hg.out) Try.underlying63 rfl wideSize rfl) rfl ?_
            exact ⟨by unfold wSum; rw [Hf.out]; rfl, Below.setRow hb0 (Nat.le_refl _) _⟩
          · have ht3 : (t == -1) = false := by simp [ht0]
            go_wp2_with (refine wpList_store_row rfl 63 (.tmp 2) (.tmp 74) rfl w.heap.size wideZ rfl rfl 63 wideZ Hg.out wideSize rfl (wide_one _ _) ?_)
            refine bodyPost_ret (results_row_tmp rfl _ _ w.heap.size 63 wideZ (0, 0) _ rfl (setRow_heap _ _ _ _ _ _ Hg.out) Try.underlying63 rfl wideSize rfl) rfl ?_
            exact ⟨by unfold wSum; rw [Hf.out]; rfl, Below.setRow hb0 (Nat.le_refl _) _⟩

end Cam
