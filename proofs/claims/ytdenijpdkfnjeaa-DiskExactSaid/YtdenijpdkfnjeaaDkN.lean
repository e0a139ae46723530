import Derived.Test.YtdenijpdkfnjeaaDkR
import Derived.Deep.RegionLaw
/- disk.New. -/
namespace Cam
open Go Go.RowKit Go.Proofs

theorem elem_block : Elem Try.prog 53 29 64 64 := Elem.mk' (z := .agg (bvs zero64).toArray) Try.underlying53 (by kernel_rfl) (by simp [Value.cells, zero64_length]) (by decide)

theorem zeros_flat (n : Nat) : flatW bvs (List.replicate n zero64) = List.replicate (n * 64) (.int .u8 0) := by
  induction n with
  | zero => rfl
  | succ n ih =>
    rw [List.replicate_succ]
    have e : flatW bvs (zero64 :: List.replicate n zero64) = bvs zero64 ++ flatW bvs (List.replicate n zero64) := by simp [flatW]
    rw [e, ih, show bvs zero64 = List.replicate 64 (.int .u8 0) from rfl, List.replicate_append_replicate, Nat.succ_mul, Nat.add_comm]
theorem madeZeros (n : Nat) : (madeCells (bvs zero64).toArray (n * 64)).toList = flatW bvs (List.replicate n zero64) := by
  rw [zeros_flat]
  apply List.ext_getElem
  · simp [madeCells]
  · intro i h1 h2
    simp only [madeCells, Array.toList_map, List.getElem_map, List.getElem_replicate]
    have hs : (bvs zero64).toArray.size = 64 := by simp [zero64_length]
    have hm : ∀ k, k < 64 → (bvs zero64).toArray[k]! = .int .u8 0 := by
      intro k hk
      rw [getElem!_pos _ k (by rw [hs]; exact hk)]
      have e : bvs zero64 = List.replicate 64 (.int .u8 0) := rfl
      simp only [e, List.getElem_toArray, List.getElem_replicate]
    exact (fun x => hm (x % (bvs zero64).toArray.size) (by rw [hs]; exact Nat.mod_lt _ (by omega)) : ∀ x, (bvs zero64).toArray[x % (bvs zero64).toArray.size]! = .int .u8 0) _

theorem run_make_blocks (w : World) (n : Nat) (hn : n ≤ 65536) : ∃ w', (Instr.makeSlice 53 (.int .i64 (n : Int)) (.int .i64 (n : Int))).run Try.prog w = .ok (.slice (some ⟨w.heap.size, 0, none⟩) n n) w' ∧ HC w' w.heap.size (flatW bvs (List.replicate n zero64)) ∧ Below w.heap.size w w' := by
  obtain ⟨ht, ⟨i, z, hi, hz, hs, hby, hzs⟩, hp⟩ := elem_block
  have hz2 : z = .agg (bvs zero64).toArray := by
    have h : (Try.prog.info? 29).map (·.zero) = some (some (.agg (bvs zero64).toArray)) := by kernel_rfl
    rw [hi] at h
    simp only [Option.map_some, Option.some.injEq] at h
    rw [hz] at h
    simpa using h
  obtain ⟨w', hrun, hown, hg⟩ := run_make_full (P := Try.prog) w w.heap.size 53 29 i z 64 ht hi hz hs .i64 .i64 n (by rw [hby]; omega) (by unfold maxLen; omega) (Nat.le_refl _)
  refine ⟨w', hrun, ?_, (Below.refl _ _).grown hg (Nat.le_refl _) (fun k hk => by cases hk)⟩
  subst hz2
  rw [show (Value.agg (bvs zero64).toArray).cells = (bvs zero64).toArray from rfl, madeZeros] at hown
  obtain ⟨hl, h2⟩ := hown
  rcases h2 with ⟨e, _⟩ | ⟨g, cap, cur, e, _, hh, _, _, hsz, htk⟩
  · cases e
  · simp only [Value.slice.injEq, Option.some.injEq, Addr.mk.injEq] at e
    obtain ⟨⟨rfl, _⟩, _, rfl⟩ := e
    refine ⟨29, ?_⟩
    rw [hh, ← htk, List.take_of_length_le (by simp [hsz])]

theorem step_make_blocks {ops : Array Oper} {o : Oper} {a : Act} {w : World} {K : Act → World → Prop} {Q : Exit → Act → World → Prop} {E : Prop} (hgd : o.guard = none) (l c : Operand) (hop : o.op = Op.makeSlice 53 l c)
    (n : Nat) (hn : n ≤ 65536) (hl : a.eval l = .int .i64 (n : Int)) (hc : a.eval c = .int .i64 (n : Int))
    (h : ∀ w', HC w' w.heap.size (flatW bvs (List.replicate n zero64)) → Below w.heap.size w w' → K (a.put o.dst (.slice (some ⟨w.heap.size, 0, none⟩) n n)) w') :
    if Region.wanted o (yielded ops a.tmps) = true then Oper.wp Try.prog o a w K Q else E := by
  rw [if_pos (by simp [Region.wanted, hgd])]
  obtain ⟨w', hrun, h1, h2⟩ := run_make_blocks w n hn
  unfold Oper.wp
  simp [execOp, hop, hl, hc, hrun, Result.andThen]
  exact h w' h1 h2

def DK.new (n : Nat) : DK := ⟨List.replicate n zero64, List.replicate n zero64, [], false, 0, false⟩
theorem DK.new_ok {n : Nat} (h : n ≤ 65536) : DOk n (DK.new n) :=
  ⟨h, ⟨by simp [DK.new], fun b hb => by simp [DK.new] at hb; rw [hb.2]; exact zero64_length⟩, ⟨by simp [DK.new], fun b hb => by simp [DK.new] at hb; rw [hb.2]; exact zero64_length⟩, fun x hx => by simp [DK.new] at hx, by simp [DK.new], by simp [DK.new]⟩

def NewPost (w : World) (n : Nat) (e : Ending) (w' : World) : Prop := ∃ g gs gn, e = .returned (.tuple #[.pointer (some ⟨g, 0, none⟩), .int .i64 0]) ∧ DM w' g gs gn (.slice none 0 0) n (DK.new n) ∧ w.heap.size ≤ gs ∧ w.heap.size ≤ gn ∧ w.heap.size ≤ g ∧ Below w.heap.size w w'

set_option maxRecDepth 100000 in
set_option maxHeartbeats 1600000 in
theorem New_ok (w : World) (n : Nat) (h1 : 1 ≤ n) (h2 : n ≤ 65536) : Calls Try.prog 9 #[.int .i64 (n : Int)] w (NewPost w n) := by
  have h1' : decide ((n : Int) < 1) = false := by simp; omega
  have h2' : decide ((65536 : Int) < (n : Int)) = false := by simp; omega
  have H2 := Lib.hid h2
  have H1 := Lib.hid h1
  clear h1 h2
  go_enter Try.func9, Try.ntmps9
  go_wp2_with fail
  refine wp_region_any (by kernel_rfl) ?_
  change wpAny _ _ _ _ _ _ _ (World.drew _)
  refine wpAny_take (i := 0) (v := .int .i64 n) rfl (by kernel_rfl) (by kernel_rfl) (by kernel_rfl) (fun _ _ _ h => h) (Or.inl ⟨by rfl, by intro w; go_simp⟩) ?_
  refine wpAny_take (i := 2) (v := .int .i64 n) rfl (by kernel_rfl) (by kernel_rfl) (by kernel_rfl) (fun _ _ _ h => h) (Or.inl ⟨by rfl, by intro w; go_simp⟩) ?_
  refine wpAny_ready (rs := [1, 3]) (by kernel_rfl) (by simp) ?_
  refine AllReady.cons rfl (fun K hK => ?_) (AllReady.cons rfl (fun K hK => ?_) AllReady.nil)
  · refine step_make_blocks rfl (.tmp 10) (.tmp 10) rfl n H2.out rfl rfl ?_
    intro w2 hcw2 hbw2
    refine hK _ _ ?_
    clear hK K
    refine wpAny_ready (rs := [3]) (by kernel_rfl) (by simp) ?_
    refine AllReady.cons rfl (fun K hK => ?_) AllReady.nil
    refine step_make_blocks rfl (.tmp 12) (.tmp 12) rfl n H2.out rfl rfl ?_
    intro w3 hcw3 hbw3
    refine hK _ _ ?_
    clear hK K
    refine wpAny_ready (rs := [4]) (by kernel_rfl) (by simp) ?_
    refine AllReady.cons rfl (fun K hK => ?_) AllReady.nil
    go_simp
    refine hK _ _ ?_
    clear hK K
    refine wpAny_ready (rs := [5]) (by kernel_rfl) (by simp) ?_
    refine AllReady.cons rfl (fun K hK => ?_) AllReady.nil
    go_simp
    refine hK _ _ ?_
    clear hK K
    refine wpAny_ready (rs := [6]) (by kernel_rfl) (by simp) ?_
    refine AllReady.cons rfl (fun K hK => ?_) AllReady.nil
    go_simp
    refine hK _ _ ?_
    clear hK K
    refine wpAny_ready (rs := [7]) (by kernel_rfl) (by simp) ?_
    refine AllReady.cons rfl (fun K hK => ?_) AllReady.nil
    go_simp
    refine hK _ _ ?_
    clear hK K
    refine wpAny_done (by kernel_rfl) ?_ _
    have hz2 := hcw2.lt
    have hz3 := hcw3.lt
    have hsz := hbw3.size
    have hsw : w.drew.heap.size = w.heap.size := rfl
    go_wp2_with fail
    go_ret2
    refine ⟨w3.heap.size, w.heap.size, w2.heap.size, rfl, ⟨⟨59, heap_new rfl⟩, (HC.alloc (hcw2.below hbw3) _), (HC.alloc hcw3 _), World.ownsRow_nil _ _ _ _, ⟨by omega, by omega, by omega⟩, DK.new_ok H2.out⟩, by omega, by omega, by omega, ?_⟩
    exact (((Below.refl w.heap.size w).drew.trans hbw2).trans (hbw3.mono hbw2.size)).alloc (by omega) _
  · refine step_make_blocks rfl (.tmp 12) (.tmp 12) rfl n H2.out rfl rfl ?_
    intro w2 hcw2 hbw2
    refine hK _ _ ?_
    clear hK K
    refine wpAny_ready (rs := [1]) (by kernel_rfl) (by simp) ?_
    refine AllReady.cons rfl (fun K hK => ?_) AllReady.nil
    refine step_make_blocks rfl (.tmp 10) (.tmp 10) rfl n H2.out rfl rfl ?_
    intro w3 hcw3 hbw3
    refine hK _ _ ?_
    clear hK K
    refine wpAny_ready (rs := [4]) (by kernel_rfl) (by simp) ?_
    refine AllReady.cons rfl (fun K hK => ?_) AllReady.nil
    go_simp
    refine hK _ _ ?_
    clear hK K
    refine wpAny_ready (rs := [5]) (by kernel_rfl) (by simp) ?_
    refine AllReady.cons rfl (fun K hK => ?_) AllReady.nil
    go_simp
    refine hK _ _ ?_
    clear hK K
    refine wpAny_ready (rs := [6]) (by kernel_rfl) (by simp) ?_
    refine AllReady.cons rfl (fun K hK => ?_) AllReady.nil
    go_simp
    refine hK _ _ ?_
    clear hK K
    refine wpAny_ready (rs := [7]) (by kernel_rfl) (by simp) ?_
    refine AllReady.cons rfl (fun K hK => ?_) AllReady.nil
    go_simp
    refine hK _ _ ?_
    clear hK K
    refine wpAny_done (by kernel_rfl) ?_ _
    have hz2 := hcw2.lt
    have hz3 := hcw3.lt
    have hsz := hbw3.size
    have hsw : w.drew.heap.size = w.heap.size := rfl
    go_wp2_with fail
    go_ret2
    refine ⟨w3.heap.size, w2.heap.size, w.heap.size, rfl, ⟨⟨59, heap_new rfl⟩, (HC.alloc hcw3 _), (HC.alloc (hcw2.below hbw3) _), World.ownsRow_nil _ _ _ _, ⟨by omega, by omega, by omega⟩, DK.new_ok H2.out⟩, by omega, by omega, by omega, ?_⟩
    exact (((Below.refl w.heap.size w).drew.trans hbw2).trans (hbw3.mono hbw2.size)).alloc (by omega) _

end Cam
