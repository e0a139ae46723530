import Derived.Test.YtdihockdaccmdaaShG
import Derived.Laws.CopyOwn
import Derived.RangeFuncBox
import Derived.Laws.ResultCell
import Derived.Laws.Rows
import Derived.Laws.Tables
/- fall: Share, Fits. -/
namespace Cam
open Go Go.RowKit Go.Proofs

theorem results_row_tmp {P : Program} {fn : Func} {p u : Tmp} {ty : TypeId} (h : fn.results = #[.cell p ty, .tmp u]) (tmps : Array Value) (w : World) (g : Nat) (t : TypeId) (cs : Array Value) (fr : Nat × Nat) (d : TypeDesc)
    (hp : tmps.getD p undef = .pointer (some ⟨g, 0, none⟩)) (hg : w.heap[g]? = some (.cells cs t fr))
    (hu : P.underlying ty = some d) (hd : (match d with | .struct _ | .array _ _ => true | _ => false) = true) (hi : (P.info? ty).map (·.size) = some cs.size) {x : Value} (hx : tmps.getD u undef = x) :
    (results fn tmps).run P w = .ok (.tuple #[.agg cs, x]) w := by
  have hp' : tmps[p]?.getD undef = .pointer (some ⟨g, 0, none⟩) := by simpa using hp
  subst hx
  rw [results_cell_tmp h]
  simp [hp', asAddr, run_loadVar_row w g t ty cs fr d hg hu hd hi, Result.andThen]

theorem fallSize : (Try.prog.info? 24).map (·.size) = some 8 := by kernel_rfl
def fallZ : Array Value := #[.int .i64 0, .int .i64 0, .int .i64 0, .int .i64 0, .int .i64 0, .int .i64 0, .int .i64 0, .int .i64 0]

theorem fall_one (c l p0 p1 p2 p3 p4 r : Int) : (#[.int .i64 c, .int .i64 l, .int .i64 p0, .int .i64 p1, .int .i64 p2, .int .i64 p3, .int .i64 p4, .int .i64 r] : Array Value).all (·.oneCell') = true := by
  simp [Value.oneCell']

/-- a fall's cells -/
def fallV (cur loss p0 p1 p2 p3 p4 r : Int) : Value := .agg #[.int .i64 cur, .int .i64 loss, .int .i64 p0, .int .i64 p1, .int .i64 p2, .int .i64 p3, .int .i64 p4, .int .i64 r]
def shareE (cur loss : Int) (l : List Int) : Int := if (0 ≤ cur ∧ cur < 3) ∧ l.length = 5 then rightE loss l else 3

theorem five {l : List Int} (h : l.length = 5) : ∃ c0 c1 c2 c3 c4, l = [c0, c1, c2, c3, c4] := by
  match l, h with
  | [c0, c1, c2, c3, c4], _ => exact ⟨c0, c1, c2, c3, c4, rfl⟩

theorem shareE_cases (cur loss : Int) (l : List Int) : shareE cur loss l = 3 ∨ shareE cur loss l = 0 := by
  unfold shareE
  split
  · rename_i h
    rcases rightE_cases loss l with h1 | h1 | h1
    · exact .inl h1
    · unfold rightE at h1
      split at h1
      · rw [if_pos (by omega)] at h1
        cases h1
      · cases h1
    · exact .inr h1
  · exact .inl rfl
theorem shareE_zero (cur loss : Int) (l : List Int) (h : shareE cur loss l = 0) : (0 ≤ cur ∧ cur < 3) ∧ l.length = 5 ∧ rightE loss l = 0 := by
  unfold shareE at h
  split at h
  · rename_i h1
    exact ⟨h1.1, h1.2, h⟩
  · cases h

set_option maxHeartbeats 800000 in
theorem Share_no (w : World) (cur loss : Int) (v : Value) (l : List Int) (h : Is w v l) (he : shareE cur loss l = 3) :
    Calls Try.prog 8 #[.int .i64 cur, .int .i64 loss, v] w fun e w' => e = .returned (.tuple #[fallV 0 0 0 0 0 0 0 0, .int .i64 3]) ∧ Below w.heap.size w w' := by
  obtain ⟨a, cap, rfl, hcap, hm⟩ := h.shape
  have He := Lib.hid he
  clear he
  by_cases h0 : cur < 0
  · go_enter Try.func8, Try.ntmps8
    go_wp2_with fail
    refine bodyPost_ret (results_row_tmp rfl _ _ w.heap.size 24 fallZ (0, 0) _ rfl (heap_alloc_new _ _) Try.underlying24 rfl fallSize rfl) rfl ?_
    exact ⟨rfl, (Below.refl _ _).alloc (Nat.le_refl _) _⟩
  have h0' : decide (cur < 0) = false := by simp; omega
  by_cases h1 : 3 ≤ cur
  · go_enter Try.func8, Try.ntmps8
    go_wp2_with fail
    refine bodyPost_ret (results_row_tmp rfl _ _ w.heap.size 24 fallZ (0, 0) _ rfl (heap_alloc_new _ _) Try.underlying24 rfl fallSize rfl) rfl ?_
    exact ⟨rfl, (Below.refl _ _).alloc (Nat.le_refl _) _⟩
  have h1' : decide (3 ≤ cur) = false := by simp; omega
  by_cases hl : l.length = 5
  · have h3 : rightE loss l = 3 := by
      have := He.out
      unfold shareE at this
      rwa [if_pos ⟨by omega, hl⟩] at this
    have gr := fun w h => Greedy_no w loss (.slice a l.length cap) l h 3 (by omega) h3
    clear h3
    have h5 : ((l.length : Int) != 5) = false := by simp; omega
    have Hl := Lib.hid hl
    clear hl
    go_enter Try.func8, Try.ntmps8
    go_wp2_with fail
    refine (gr _ (h.alloc _)).mono ?_
    rintro e w1 ⟨rfl, hb⟩
    have hg : w1.heap[w.heap.size]? = some (.cells fallZ 24 (0, 0)) := by
      rw [hb.block _ (by simp)]
      exact heap_alloc_new _ _
    have Hg := Lib.hid hg
    clear hg
    go_wp2_with (refine wpList_store_row rfl 24 (.tmp 6) (.tmp 33) rfl w.heap.size fallZ rfl rfl 24 fallZ Hg.out fallSize rfl (fall_one 0 0 0 0 0 0 0 0) ?_)
    refine bodyPost_ret (results_row_tmp rfl _ _ w.heap.size 24 fallZ (0, 0) _ rfl (setRow_heap _ _ _ _ _ _ Hg.out) Try.underlying24 rfl fallSize rfl) rfl ?_
    exact ⟨rfl, below_setRow hb.un (Nat.le_refl _) _⟩
  · have h5 : ¬ (l.length : Int) = 5 := by omega
    go_enter Try.func8, Try.ntmps8
    go_wp2_with fail
    refine bodyPost_ret (results_row_tmp rfl _ _ w.heap.size 24 fallZ (0, 0) _ rfl (heap_alloc_new _ _) Try.underlying24 rfl fallSize rfl) rfl ?_
    exact ⟨rfl, (Below.refl _ _).alloc (Nat.le_refl _) _⟩

def SharePost (w : World) (cur loss : Int) (l : List Int) (e : Ending) (w' : World) : Prop :=
  ∃ p0 p1 p2 p3 p4, greedyP loss l = [p0, p1, p2, p3, p4] ∧ e = .returned (.tuple #[fallV cur loss p0 p1 p2 p3 p4 (greedyR loss l), .int .i64 0]) ∧ Below w.heap.size w w'

set_option maxHeartbeats 800000 in
theorem Share_ok (w : World) (cur loss : Int) (v : Value) (l : List Int) (h : Is w v l) (he : shareE cur loss l = 0) :
    Calls Try.prog 8 #[.int .i64 cur, .int .i64 loss, v] w (SharePost w cur loss l) := by
  obtain ⟨a, cap, rfl, hcap, hm⟩ := h.shape
  obtain ⟨h0, hl, h3⟩ := shareE_zero _ _ _ he
  have gr := fun w h => Greedy_ok w loss (.slice a l.length cap) l h h3
  obtain ⟨p0, p1, p2, p3, p4, hp⟩ := five (l := greedyP loss l) (by rw [greedyP_length]; exact hl)
  have h0' : decide (cur < 0) = false := by simp; omega
  have h1' : decide (3 ≤ cur) = false := by simp; omega
  have h5 : ((l.length : Int) != 5) = false := by simp; omega
  have Hl := Lib.hid hl
  have Hp := Lib.hid hp
  clear hl h3 he hp
  go_enter Try.func8, Try.ntmps8
  go_wp2_with fail
  refine (gr _ (h.alloc _)).mono ?_
  rintro e w1 ⟨p, rfl, ho, hb⟩
  rw [Hp.out] at ho
  obtain ⟨g, pc, rfl, hlo, hcells⟩ : ∃ g pc, p = .slice (some ⟨g, 0, none⟩) 5 pc ∧ w.heap.size + 1 ≤ g ∧ ∀ j u, ([p0, p1, p2, p3, p4].map (Value.int .i64))[j]? = some u → w1.cell? ((⟨g, 0, none⟩ : Addr).add j) = some u := by
    obtain ⟨g, cap', hv⟩ := ownsRow_succ ho
    refine ⟨g, cap', hv, ?_, ?_⟩
    · have := (World.ownsRow.lt ho g (by rw [hv]; rfl)).1
      simpa using this
    · exact World.ownsRow.cells ho (by rw [hv]; rfl)
  generalize hrr : greedyR loss l = r
  have Hrr := Lib.hid hrr
  clear hrr ho
  have hg : w1.heap[w.heap.size]? = some (.cells fallZ 24 (0, 0)) := by
    rw [hb.block _ (by simp)]
    exact heap_alloc_new _ _
  have Hg := Lib.hid hg
  have Hc := Lib.hid hcells
  clear hg hcells
  have HcA : Hid (∀ o : Obj, ∀ j u, ([p0, p1, p2, p3, p4].map (Value.int .i64))[j]? = some u → (w1.alloc o).cell? ((⟨g, 0, none⟩ : Addr).add j) = some u) := by
    intro o j u hu
    have h1 := Hc.out j u hu
    rw [((Below.refl _ w1).alloc (Nat.le_refl _) o).cell (World.block_lt_of_cell? w1 _ h1)]
    exact h1
  have hsz := hb.size
  have hlt : w.heap.size < w1.heap.size := by simp at hsz; omega
  clear Hc hsz
  go_wp2_with (first
    | ((with_reducible refine wpList_copy_splice rfl (.tmp 40) (.tmp 41) 28 28 rfl 3 Try.underlying28 (by kernel_rfl) _ _ _ _ _ _ rfl rfl w1.heap.size 2 [.int .i64 cur, .int .i64 loss, .int .i64 0, .int .i64 0, .int .i64 0, .int .i64 0, .int .i64 0, .int .i64 r] 24 (heap_alloc_new _ _) ([p0, p1, p2, p3, p4].map (Value.int .i64)) rfl (fun _ => ⟨rfl, _, rfl, HcA.out _⟩) (by simp) (is_oneCell _) w1.heap.size w1 ((Below.refl _ w1).alloc (Nat.le_refl _) _) (Nat.le_refl _) ?_); intro w4 hg4 hb4; have HG4 : Hid (w4.heap[w1.heap.size]? = some (.cells #[.int .i64 cur, .int .i64 loss, .int .i64 p0, .int .i64 p1, .int .i64 p2, .int .i64 p3, .int .i64 p4, .int .i64 r] 24 (0, 0))) := hg4.out; have HG5 : Hid (w4.heap[w.heap.size]? = some (.cells fallZ 24 (0, 0))) := (hb4.block _ hlt).trans Hg.out; clear hg4)
    | (refine wpList_load_row rfl 24 (.tmp 11) rfl w1.heap.size rfl 24 #[.int .i64 cur, .int .i64 loss, .int .i64 p0, .int .i64 p1, .int .i64 p2, .int .i64 p3, .int .i64 p4, .int .i64 r] (0, 0) _ HG4.out Try.underlying24 rfl fallSize ?_)
    | (refine wpList_store_row rfl 24 (.tmp 6) (.tmp 43) rfl w.heap.size #[.int .i64 cur, .int .i64 loss, .int .i64 p0, .int .i64 p1, .int .i64 p2, .int .i64 p3, .int .i64 p4, .int .i64 r] rfl rfl 24 fallZ HG5.out fallSize rfl (fall_one _ _ _ _ _ _ _ _) ?_))
  refine bodyPost_ret (results_row_tmp rfl _ _ w.heap.size 24 #[.int .i64 cur, .int .i64 loss, .int .i64 p0, .int .i64 p1, .int .i64 p2, .int .i64 p3, .int .i64 p4, .int .i64 r] (0, 0) _ rfl (setRow_heap _ _ _ _ _ _ HG5.out) Try.underlying24 rfl fallSize rfl) rfl ?_
  exact ⟨p0, p1, p2, p3, p4, Hp.out, by rw [Hrr.out]; rfl, below_setRow (hb.un.next hb4) (Nat.le_refl _) _⟩

end Cam
