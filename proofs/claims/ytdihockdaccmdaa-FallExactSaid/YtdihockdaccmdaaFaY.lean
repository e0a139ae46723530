import Derived.Test.YtdihockdaccmdaaFaX
/- the page's fall, and sum of falls. -/
namespace Cam
open Go Go.RowKit Go.Proofs

/-- the answer of a fall -/
def fallOf (cur loss : Int) (l : List Int) : FT :=
  if shareE cur loss l = 0 then ⟨cur, loss, (greedyP loss l).getD 0 0, (greedyP loss l).getD 1 0, (greedyP loss l).getD 2 0, (greedyP loss l).getD 3 0, (greedyP loss l).getD 4 0, greedyR loss l⟩ else ⟨0, 0, 0, 0, 0, 0, 0, 0⟩
def fallZs : List Value := [.int .i64 0, .int .i64 0, .int .i64 0, .int .i64 0, .int .i64 0, .int .i64 0, .int .i64 0, .int .i64 0]

set_option maxRecDepth 100000 in
set_option maxHeartbeats 800000 in
theorem rFall_no (w : World) (cur loss : Int) (v : Value) (l : List Int) (h : Is w v l) (he : shareE cur loss l = 3) :
    Calls Try.prog 12 #[.int .i64 cur, .int .i64 loss, v] w fun e w' => e = .returned (.tuple #[.agg fallZ, .int .i64 3]) ∧ Below w.heap.size w w' := by
  obtain ⟨a, cap, rfl, hcap, hm⟩ := h.shape
  have hA := h.alloc (.cells fallZ 24)
  have cu := fun w => Cur_any w cur
  have wi := fun w => within19_any w loss 0 4611686018427387904
  by_cases h0 : 0 ≤ cur ∧ cur ≤ 2
  · rw [decide_eq_true h0] at cu
    by_cases hl : l.length = 5
    · have h5 : ((l.length : Int) != 5) = false := by simp; omega
      have h3 : rightE loss l = 3 := by
        unfold shareE at he
        rw [if_pos ⟨by omega, hl⟩] at he
        exact he
      clear he
      by_cases h1 : 0 ≤ loss ∧ loss ≤ 4611686018427387904
      · rw [decide_eq_true h1] at wi
        have gr := rGreedy_no _ loss _ l hA h1 h3
        clear h3 hl h0 h1 hA
        unfold fallZ at gr ⊢
        go_enter Try.func12, Try.ntmps12
        go_wp2_with (first | (go_at_call 18; refine (cu _).mono ?_; rintro e w1 ⟨rfl, rfl⟩) | (go_at_call 19; refine (wi _).mono ?_; rintro e w1 ⟨rfl, rfl⟩) | (go_at_call 20; refine gr.mono ?_; rintro e w1 ⟨rfl, rfl⟩) | fail)
        refine bodyPost_ret (results_row_tmp rfl _ _ w.heap.size 24 fallZ (0, 0) _ rfl (heap_alloc_new _ _) Try.underlying24 rfl fallSize rfl) rfl ?_
        exact ⟨rfl, (Below.refl _ _).alloc (Nat.le_refl _) _⟩
      · rw [decide_eq_false h1] at wi
        clear h3 hl h0 h1 hA
        unfold fallZ
        go_enter Try.func12, Try.ntmps12
        go_wp2_with (first | (go_at_call 18; refine (cu _).mono ?_; rintro e w1 ⟨rfl, rfl⟩) | (go_at_call 19; refine (wi _).mono ?_; rintro e w1 ⟨rfl, rfl⟩) | fail)
        refine bodyPost_ret (results_row_tmp rfl _ _ w.heap.size 24 fallZ (0, 0) _ rfl (heap_alloc_new _ _) Try.underlying24 rfl fallSize rfl) rfl ?_
        exact ⟨rfl, (Below.refl _ _).alloc (Nat.le_refl _) _⟩
    · have h5 : ((l.length : Int) != 5) = true := by rw [bne_iff_ne]; omega
      clear he hl h0 hA
      unfold fallZ
      go_enter Try.func12, Try.ntmps12
      go_wp2_with (first | (go_at_call 18; refine (cu _).mono ?_; rintro e w1 ⟨rfl, rfl⟩) | fail)
      refine bodyPost_ret (results_row_tmp rfl _ _ w.heap.size 24 fallZ (0, 0) _ rfl (heap_alloc_new _ _) Try.underlying24 rfl fallSize rfl) rfl ?_
      exact ⟨rfl, (Below.refl _ _).alloc (Nat.le_refl _) _⟩
  · rw [decide_eq_false h0] at cu
    clear he h0 hA
    unfold fallZ
    go_enter Try.func12, Try.ntmps12
    go_wp2_with (first | (go_at_call 18; refine (cu _).mono ?_; rintro e w1 ⟨rfl, rfl⟩) | fail)
    refine bodyPost_ret (results_row_tmp rfl _ _ w.heap.size 24 fallZ (0, 0) _ rfl (heap_alloc_new _ _) Try.underlying24 rfl fallSize rfl) rfl ?_
    exact ⟨rfl, (Below.refl _ _).alloc (Nat.le_refl _) _⟩

/-- charges behind k of five -/
def mixK (ps : List Int) (k : Nat) : List Int := ps.take k ++ (List.replicate 5 0).drop k
def mixC (cur loss r : Int) (ps : List Int) : List Value := .int .i64 cur :: .int .i64 loss :: (ps.map (Value.int .i64) ++ [.int .i64 r])
theorem mixC_set {cur loss r : Int} {p0 p1 p2 p3 p4 : Int} (k : Nat) (hk : k < 5) : (mixC cur loss r (mixK [p0, p1, p2, p3, p4] k)).set (2 + k) (.int .i64 ([p0, p1, p2, p3, p4].getD k 0)) = mixC cur loss r (mixK [p0, p1, p2, p3, p4] (k + 1)) := by
  match k, hk with
  | 0, _ => rfl
  | 1, _ => rfl
  | 2, _ => rfl
  | 3, _ => rfl
  | 4, _ => rfl
theorem mixC_at {cur loss r : Int} {p0 p1 p2 p3 p4 : Int} (k : Nat) (hk : k < 5) : ∃ u, (mixC cur loss r (mixK [p0, p1, p2, p3, p4] k))[2 + k]? = some u := by
  match k, hk with
  | 0, _ => exact ⟨_, rfl⟩
  | 1, _ => exact ⟨_, rfl⟩
  | 2, _ => exact ⟨_, rfl⟩
  | 3, _ => exact ⟨_, rfl⟩
  | 4, _ => exact ⟨_, rfl⟩

set_option maxRecDepth 100000 in
set_option maxHeartbeats 1600000 in
theorem rFall_ok (w : World) (cur loss : Int) (v : Value) (l : List Int) (h : Is w v l) (he : shareE cur loss l = 0) :
    Calls Try.prog 12 #[.int .i64 cur, .int .i64 loss, v] w (SharePost w cur loss l) := by
  obtain ⟨a, cap, rfl, hcap, hm⟩ := h.shape
  obtain ⟨h0, hl, h3⟩ := shareE_zero _ _ _ he
  have hb := rightE_zero _ _ h3
  have cu := fun w => Cur_any w cur
  rw [decide_eq_true (by omega)] at cu
  have wi := fun w => within19_any w loss 0 4611686018427387904
  rw [decide_eq_true hb.1] at wi
  have gr := rGreedy_ok _ loss _ l (h.alloc (.cells fallZ 24)) h3
  have h5 : ((l.length : Int) != 5) = false := by simp; omega
  obtain ⟨p0, p1, p2, p3, p4, hp⟩ := five (l := greedyP loss l) (by rw [greedyP_length]; exact hl)
  have Hp := Lib.hid hp
  have Hl := Lib.hid hl
  clear hb h3 he hp hl
  unfold fallZ at gr
  go_enter Try.func12, Try.ntmps12
  go_wp2_with (first | (go_at_call 18; refine (cu _).mono ?_; rintro e w1 ⟨rfl, rfl⟩) | (go_at_call 19; refine (wi _).mono ?_; rintro e w1 ⟨rfl, rfl⟩) | fail)
  refine gr.mono ?_
  rintro e w1 ⟨p, rfl, ho, hb1⟩
  rw [Hp.out] at ho
  obtain ⟨r, hr⟩ : ∃ r, r = greedyR loss l := ⟨_, rfl⟩
  rw [← hr]
  have Hr := Lib.hid hr
  obtain ⟨g, pc, rfl⟩ : ∃ g pc, p = .slice (some ⟨g, 0, none⟩) 5 pc := by
    obtain ⟨g, cap', hv⟩ := ownsRow_succ ho
    exact ⟨g, cap', hv⟩
  have hglt := World.ownsRow.lt ho g rfl
  have hz : w1.heap[w.heap.size]? = some (.cells fallZ 24 (0, 0)) := by
    rw [hb1.block _ (by simp)]
    exact heap_alloc_new _ _
  have hzlt : w.heap.size < w1.heap.size := (Array.getElem?_eq_some_iff.1 hz).1
  have hf : HC (w1.alloc (.cells (mixC cur loss r (mixK [p0, p1, p2, p3, p4] 0)).toArray 24)) w1.heap.size (mixC cur loss r (mixK [p0, p1, p2, p3, p4] 0)) := HC.new
  have hz1 : (w1.alloc (.cells (mixC cur loss r (mixK [p0, p1, p2, p3, p4] 0)).toArray 24)).heap[w.heap.size]? = some (.cells fallZ 24 (0, 0)) := (Below.heap_alloc w1 _ _ hzlt).trans hz
  have ho1 := ho.alloc (.cells (mixC cur loss r (mixK [p0, p1, p2, p3, p4] 0)).toArray 24)
  have hb2 := hb1.un.alloc hb1.un.size (.cells (mixC cur loss r (mixK [p0, p1, p2, p3, p4] 0)).toArray 24)
  have hne : w.heap.size ≠ w1.heap.size ∧ g ≠ w1.heap.size ∧ w.heap.size ≤ w1.heap.size := by omega
  clear hr hb1 ho hz hzlt hglt gr cu wi
  go_wp2_with fail
  change Code.wp _ _ _ _ (w1.alloc (.cells (mixC cur loss r (mixK [p0, p1, p2, p3, p4] 0)).toArray 24))
  generalize w1.alloc (.cells (mixC cur loss r (mixK [p0, p1, p2, p3, p4] 0)).toArray 24) = W at *
  generalize w1.heap.size = gf at *
  go_loopw [12] (fun i wr => ∃ k : Nat, k ≤ 5 ∧ i = .int .i64 k ∧ HC wr gf (mixC cur loss r (mixK [p0, p1, p2, p3, p4] k)) ∧ wr.heap[w.heap.size]? = some (.cells fallZ 24 (0, 0)) ∧ OwnI 3 wr (w.alloc (.cells fallZ 24)).heap.size (.slice (some ⟨g, 0, none⟩) 5 pc) [p0, p1, p2, p3, p4] ∧ Below w.heap.size w wr) (fun i _ => 5 - (intOf i).toNat)
  case atStart => exact ⟨0, by omega, rfl, hf, hz1, ho1, hb2⟩
  case round =>
    obtain ⟨k, hk, rfl, hf, hz, ho, hbel⟩ := hrel
    by_cases hlt : k < 5
    · obtain ⟨bp, offp, e9, _, hc⟩ := ho.is.at (by simp)
      cases e9
      have hck := hc k (by simpa using hlt)
      rw [Nat.zero_add] at hck
      have hgx : [p0, p1, p2, p3, p4][k]'(by simpa using hlt) = [p0, p1, p2, p3, p4].getD k 0 := by simp [List.getD, List.getElem?_eq_getElem (show k < [p0, p1, p2, p3, p4].length by simpa using hlt)]
      rw [hgx] at hck
      obtain ⟨u, hu⟩ := mixC_at (cur := cur) (loss := loss) (r := r) (p0 := p0) (p1 := p1) (p2 := p2) (p3 := p3) (p4 := p4) k hlt
      have hcell := hf.cell hu
      have hfree := hf.frozen (2 + k)
      have hset := hf.put (2 + k) (.int .i64 ([p0, p1, p2, p3, p4].getD k 0))
      rw [mixC_set k hlt] at hset
      generalize [p0, p1, p2, p3, p4].getD k 0 = x at *
      have HS : Hid (HC (wr.setCell ⟨gf, 2 + k, none⟩ (.int .i64 x)) gf (mixC cur loss r (mixK [p0, p1, p2, p3, p4] (k + 1))) ∧ (wr.setCell ⟨gf, 2 + k, none⟩ (.int .i64 x)).heap[w.heap.size]? = some (.cells fallZ 24 (0, 0)) ∧ OwnI 3 (wr.setCell ⟨gf, 2 + k, none⟩ (.int .i64 x)) (w.alloc (.cells fallZ 24)).heap.size (.slice (some ⟨g, 0, none⟩) 5 pc) [p0, p1, p2, p3, p4] ∧ Below w.heap.size w (wr.setCell ⟨gf, 2 + k, none⟩ (.int .i64 x))) :=
        ⟨hset, (Below.heap_setCell wr ⟨gf, 2 + k, none⟩ _ _ hne.1).trans hz, ownsRow_setCell_other ho (a := ⟨gf, 2 + k, none⟩) (fun e => hne.2.1 (by simpa [Value.ownBlock] using e)) _, hbel.setCell hne.2.2 _⟩
      clear hc hgx hset hu hf hz ho hbel
      go_wp2_with fail
      exact ⟨⟨k + 1, by omega, by push_cast; rfl, HS.out.1, HS.out.2.1, HS.out.2.2.1, HS.out.2.2.2⟩, by simp [intOf]; omega⟩
    · obtain rfl : k = 5 := by omega
      have f0 := hf.cell (j := 0) rfl
      have f1 := hf.cell (j := 1) rfl
      have f2 := hf.cell (j := 2) (v := .int .i64 p0) rfl
      have f3 := hf.cell (j := 3) (v := .int .i64 p1) rfl
      have f4 := hf.cell (j := 4) (v := .int .i64 p2) rfl
      have f5 := hf.cell (j := 5) (v := .int .i64 p3) rfl
      have f6 := hf.cell (j := 6) (v := .int .i64 p4) rfl
      have f7 := hf.cell (j := 7) (v := .int .i64 r) rfl
      have Hz := Lib.hid hz
      clear hz hf
      go_wp2_with (first
        | (refine wpList_store_row rfl 24 (.tmp 6) (.tmp 52) rfl w.heap.size #[.int .i64 cur, .int .i64 loss, .int .i64 p0, .int .i64 p1, .int .i64 p2, .int .i64 p3, .int .i64 p4, .int .i64 r] rfl rfl 24 fallZ Hz.out fallSize rfl (fall_one _ _ _ _ _ _ _ _) ?_)
        | fail)
      refine bodyPost_ret (results_row_tmp rfl _ _ w.heap.size 24 #[.int .i64 cur, .int .i64 loss, .int .i64 p0, .int .i64 p1, .int .i64 p2, .int .i64 p3, .int .i64 p4, .int .i64 r] (0, 0) _ rfl (setRow_heap _ _ _ _ _ _ Hz.out) Try.underlying24 rfl fallSize rfl) rfl ?_
      exact ⟨p0, p1, p2, p3, p4, Hp.out, by rw [← Hr.out]; rfl, below_setRow hbel (Nat.le_refl _) _⟩

end Cam
