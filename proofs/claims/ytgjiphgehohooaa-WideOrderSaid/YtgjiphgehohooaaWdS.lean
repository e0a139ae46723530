import Derived.Test.YtgjiphgehohooaaWide
import Derived.Test.YtgjiphgehohooaaWdM
/- wide.Sum. -/
namespace Cam
open Go Go.RowKit Go.Proofs

theorem results_row_tmp {P : Program} {fn : Func} {p u : Tmp} {ty : TypeId} (h : fn.results = #[.cell p ty, .tmp u]) (tmps : Array Value) (w : World) (g : Nat) (t : TypeId) (cs : Array Value) (fr : Nat × Nat) (d : TypeDesc)
    (hp : tmps.getD p undef = .pointer (some ⟨g, 0, none⟩)) (hg : w.heap[g]? = some (.cells cs t fr))
    (hu : P.underlying ty = some d) (hd : (match d with | .struct _ | .array _ _ => true | _ => false) = true) (hi : (P.info? ty).map (·.size) = some cs.size) {x : Value} (hx : tmps.getD u undef = x) :
    (results fn tmps).run P w = .ok (.tuple #[.agg cs, x]) w := by
  have hp' : tmps[p]?.getD undef = .pointer (some ⟨g, 0, none⟩) := by simpa using hp
  subst hx
  rw [results_cell_tmp h]
  simp [hp', asAddr, run_loadVar_row w g t ty cs fr d hg hu hd hi, Result.andThen]

theorem wrap_hiW (n : Int) (h : -9223372036854775808 ≤ n ∧ n ≤ 9223372036854775807) : IntKind.u64.wrap (n / 9223372036854775808) = (hiW n : Int) := by
  rw [IntKind.wrap_u64]; unfold hiW; split <;> omega

/-- Add64 -/
theorem add64_run (x y c : Nat) (hc : c ≤ 1) (w : World) : Sem.run Try.prog (callFunc 31 #[.int .u64 (x : Int), .int .u64 (y : Int), .int .u64 (c : Int)]) w =
    .ok (.value (.tuple #[.int .u64 (((x + y + c) % 18446744073709551616 : Nat) : Int), .int .u64 (((x + y + c) / 18446744073709551616 : Nat) : Int)])) w := by
  have h := run_callFunc_extern (e := add64Entry) (f := 31) Try.func31 (by kernel_rfl) (by kernel_rfl) (by kernel_rfl) (by kernel_rfl) #[.int .u64 (x : Int), .int .u64 (y : Int), .int .u64 (c : Int)] w
  refine Eq.trans h ?_
  rw [run_add64 _ _ _ (by omega) (by omega) (by omega) (by omega)]
  simp [Result.andThen]

set_option maxHeartbeats 1600000 in
/-- wide.Sum -/
theorem wSum_any (w : World) (v : Value) (l : List Int) (h : Ws w v l) (hW : ∀ x ∈ l, isWide x = true) :
    Calls Try.prog 23 #[v] w fun e w' => e = .returned (.tuple #[wideV (wSum l), .int .i64 (wSumE l)]) ∧ Below w.heap.size w w' := by
  obtain ⟨a, cap, rfl, hcap, hm⟩ := h.shape
  have HW := Lib.hid hW
  have hl := Lib.hid (show l.length ≤ 9223372036854775807 by omega)
  clear hW
  go_enter Try.func23, Try.ntmps23
  go_wp2_with fail
  go_loopw [4, 5, 6, 12] (fun lo mid top i wr => ∃ (k x y z : Nat), k ≤ l.length ∧ i = .int .i64 k ∧ lo = .int .u64 (x : Int) ∧ mid = .int .u64 (y : Int) ∧ top = .int .u64 (z : Int) ∧ Words3 z y x (sumI (l.take k)) ∧ Below (w.alloc (.cells wideZ 29)).heap.size (w.alloc (.cells wideZ 29)) wr) (fun _ _ _ i _ => l.length - (intOf i).toNat)
  case atStart => exact ⟨0, 0, 0, 0, Nat.zero_le _, rfl, rfl, rfl, rfl, Words3.zero, Below.refl _ _⟩
  case round =>
    obtain ⟨k, x, y, z, hk, rfl, rfl, rfl, rfl, W, hbr⟩ := hrel
    by_cases hlt : k < l.length
    · have hr := (h.alloc (.cells wideZ 29)).mono hbr
      obtain ⟨b, off, rfl, hbl, hc⟩ := hr.at (by omega)
      obtain ⟨hc0, hc1⟩ := hc k hlt
      clear hc
      obtain ⟨v, hv⟩ : ∃ v, v = l[k] := ⟨_, rfl⟩
      have wv := IsW.of (HW.out _ (List.getElem_mem hlt))
      rw [← hv] at hc0 hc1 wv
      obtain ⟨n, hn⟩ : ∃ n, n = wHi v := ⟨_, rfl⟩
      rw [← hn] at hc0 wv
      have hbn := wv.1
      have hbl := wv.2.1
      obtain ⟨u, hu⟩ : ∃ u : Nat, (u : Int) = wLo v := ⟨(wLo v).toNat, by omega⟩
      obtain ⟨s, hs⟩ : ∃ s : Nat, (s : Int) = n % 18446744073709551616 := ⟨(n % 18446744073709551616).toNat, by omega⟩
      obtain ⟨t, ht⟩ : ∃ t, t = hiW n := ⟨_, rfl⟩
      have W2 := W.step wv u s t hu hs ht
      have h1 : IntKind.u64.wrap n = (s : Int) := by rw [IntKind.wrap_u64, hs]
      have h2 := wrap_hiW n hbn
      rw [← hu] at hc1
      rw [← ht] at h2
      have hx1 : (x + u) / 18446744073709551616 ≤ 1 := by
        have := W.2.2.1
        omega
      have hx2 : (y + s + (x + u) / 18446744073709551616) / 18446744073709551616 ≤ 1 := by
        have := W.2.1
        omega
      rw [hv, ← sumI_snoc, ← take_snoc l k hlt] at W2
      have hadd1 := add64_run x u 0 (by omega) (wr.alloc (.cells #[.int .i64 n, .int .u64 u] 29))
      have hadd2 := add64_run y s ((x + u) / 18446744073709551616) hx1 (wr.alloc (.cells #[.int .i64 n, .int .u64 u] 29))
      have hadd3 := add64_run z t ((y + s + (x + u) / 18446744073709551616) / 18446744073709551616) hx2 (wr.alloc (.cells #[.int .i64 n, .int .u64 u] 29))
      rw [Nat.add_zero, show (((0 : Nat) : Int)) = 0 from rfl] at hadd1
      clear hx1 hx2 ht hs hu hv wv W hbn hbl
      generalize (x + u) / 18446744073709551616 = c1 at hadd1 hadd2 hadd3 W2
      generalize (y + s + c1) / 18446744073709551616 = c2 at hadd2 hadd3 W2
      generalize (x + u) % 18446744073709551616 = x' at hadd1 W2
      generalize (y + s + c1) % 18446744073709551616 = y' at hadd2 W2
      generalize (z + t + c2) % 18446744073709551616 = z' at hadd3 W2
      generalize (z + t + c2) / 18446744073709551616 = c3 at hadd3
      have Hn := Lib.hid hn
      clear hn
      go_wp2_with fail
      exact ⟨⟨k + 1, x', y', z', by omega, by push_cast; rfl, rfl, rfl, rfl, W2, hbr.alloc hbr.size _⟩, by simp [intOf]; omega⟩
    · rw [List.take_of_length_le (by omega)] at W
      have hS := sumW_bound l HW.out
      obtain ⟨m, hmm⟩ : ∃ m, wrap64 (y : Int) = m := ⟨_, rfl⟩
      have hmb : (-9223372036854775808 ≤ m ∧ m ≤ 9223372036854775807) ∧ (m = (y : Int) ∨ m = (y : Int) - 18446744073709551616) := by
        have := W.2.1
        rw [← hmm]
        unfold wrap64
        omega
      have Wd := W.wide (n := m) (by have := hl.out; omega) hmb.1 hmb.2
      have h2 := wrap_hiW m hmb.1
      rw [IntKind.wrap_u64] at h2
      rw [h2] at Wd
      rw [← IntKind.wrap_u64] at h2
      obtain ⟨q, hq⟩ : ∃ q, hiW m = q := ⟨_, rfl⟩
      rw [hq] at h2 Wd
      have hg : wr.heap[w.heap.size]? = some (.cells wideZ 29 (0, 0)) := (hbr.block _ (by simp)).trans (heap_alloc_new _ _)
      have Hg := Lib.hid hg
      have HWd := Lib.hid Wd
      clear hg hq hmb hS W Wd
      by_cases hz : z = q
      · subst hz
        have Ww := Lib.hid (HWd.out.1 rfl)
        go_wp2_with (refine wpList_store_row rfl 29 (.tmp 2) (.tmp 53) rfl w.heap.size #[.int .i64 m, .int .u64 x] rfl rfl 29 wideZ Hg.out wideSize rfl (wide_one _ _) ?_)
        refine bodyPost_ret (results_row_tmp rfl _ _ w.heap.size 29 #[.int .i64 m, .int .u64 x] (0, 0) _ rfl (setRow_heap _ _ _ _ _ _ Hg.out) Try.underlying29 rfl wideSize rfl) rfl ?_
        exact ⟨by unfold wSum wSumE; rw [Ww.out.wide, if_pos rfl, if_pos rfl, Ww.out.val]; rfl, Below.setRow hbr.un (Nat.le_refl _) _⟩
      · have Hf := Lib.hid (HWd.out.2 (by omega))
        have hz2 : ¬ (z : Int) = (q : Int) := by omega
        go_wp2_with (refine wpList_store_row rfl 29 (.tmp 2) (.tmp 49) rfl w.heap.size wideZ rfl rfl 29 wideZ Hg.out wideSize rfl (wide_one _ _) ?_)
        refine bodyPost_ret (results_row_tmp rfl _ _ w.heap.size 29 wideZ (0, 0) _ rfl (setRow_heap _ _ _ _ _ _ Hg.out) Try.underlying29 rfl wideSize rfl) rfl ?_
        exact ⟨by unfold wSum wSumE; rw [Hf.out]; rfl, Below.setRow hbr.un (Nat.le_refl _) _⟩

end Cam
