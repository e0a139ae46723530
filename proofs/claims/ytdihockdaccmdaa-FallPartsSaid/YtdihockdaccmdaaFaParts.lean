import Derived.Test.YtdihockdaccmdaaFaGrow
import Derived.Test.YtdihockdaccmdaaFaS
import Derived.Test.YtdihockdaccmdaaDkM
import Derived.IntWalk
/- FallParts. -/
namespace Cam
open Go Go.RowKit Go.Proofs

def zipL (c p : List Int) : List Int := List.zipWith (· - ·) c p
theorem greedyP_cap (t : Int) (l : List Int) (ht : 0 ≤ t) (hl : ∀ n ∈ l, 0 ≤ n) (k : Nat) (hk : k < l.length) : 0 ≤ (greedyP t l).getD k 0 ∧ (greedyP t l).getD k 0 ≤ l.getD k 0 := by
  rw [greedyP_getD t l k hk]
  have h1 := (greedyR_low t (l.take k) ht (fun n hn => hl n (List.mem_of_mem_take hn))).1
  have h2 := hl (l.getD k 0) (by rw [List.getD_eq_getElem?_getD, List.getElem?_eq_getElem hk]; exact List.getElem_mem _)
  omega
/-- what is known of a loss in two parts -/
theorem parts_facts {cur a b c0 c1 c2 c3 c4 p0 p1 p2 p3 p4 : Int} (ha : 0 ≤ a ∧ a ≤ 1152921504606846976) (hb : 0 ≤ b ∧ b ≤ 1152921504606846976) (he : shareE cur a [c0, c1, c2, c3, c4] = 0) (hp : greedyP a [c0, c1, c2, c3, c4] = [p0, p1, p2, p3, p4]) :
    shareE cur (greedyR a [c0, c1, c2, c3, c4] + b) [c0 - p0, c1 - p1, c2 - p2, c3 - p3, c4 - p4] = 0 ∧ shareE cur (a + b) [c0, c1, c2, c3, c4] = 0 ∧
    (∀ k, k < 5 → 0 ≤ [p0, p1, p2, p3, p4].getD k 0 ∧ [p0, p1, p2, p3, p4].getD k 0 ≤ [c0, c1, c2, c3, c4].getD k 0 ∧ [c0, c1, c2, c3, c4].getD k 0 ≤ 4611686018427387904) ∧
    (0 ≤ greedyR a [c0, c1, c2, c3, c4] ∧ greedyR a [c0, c1, c2, c3, c4] ≤ a) := by
  obtain ⟨h1, _, h3⟩ := shareE_zero _ _ _ he
  obtain ⟨_, hl, _⟩ := rightE_zero _ _ h3
  have hl0 : ∀ n ∈ [c0, c1, c2, c3, c4], 0 ≤ n := fun n hn => (hl n hn).1
  have hP := fun k hk => greedyP_cap a [c0, c1, c2, c3, c4] ha.1 hl0 k hk
  rw [hp] at hP
  have hR := greedyR_low a [c0, c1, c2, c3, c4] ha.1 hl0
  have q0 := hP 0 (by simp)
  have q1 := hP 1 (by simp)
  have q2 := hP 2 (by simp)
  have q3 := hP 3 (by simp)
  have q4 := hP 4 (by simp)
  simp at q0 q1 q2 q3 q4
  have hl' := hl
  simp at hl
  refine ⟨?_, ?_, ?_, hR⟩
  · have hc : capsOk [c0 - p0, c1 - p1, c2 - p2, c3 - p3, c4 - p4] = true := by
      rw [capsOk_iff]
      simp
      omega
    unfold shareE rightE
    rw [if_pos ⟨h1, rfl⟩, if_pos ⟨by omega, hc⟩]
    simp
  · have hc : capsOk [c0, c1, c2, c3, c4] = true := by
      rw [capsOk_iff]
      exact hl'
    unfold shareE rightE
    rw [if_pos ⟨h1, rfl⟩, if_pos ⟨by omega, hc⟩]
    simp
  · intro k hk
    match k, hk with
    | 0, _ => simp <;> omega
    | 1, _ => simp <;> omega
    | 2, _ => simp <;> omega
    | 3, _ => simp <;> omega
    | 4, _ => simp <;> omega

/-- five ints in a block -/
def B5 (w : World) (g : Nat) (l : List Int) : Prop := l.length = 5 ∧ w.heap[g]? = some (.cells (l.map (Value.int .i64)).toArray 22 (0, 0))
theorem B5.lt {w : World} {g : Nat} {l : List Int} (h : B5 w g l) : g < w.heap.size := (Array.getElem?_eq_some_iff.1 h.2).1
theorem B5.next {w w' : World} {g : Nat} {l : List Int} (h : B5 w g l) (hb : Below w.heap.size w w') : B5 w' g l := ⟨h.1, (hb.block _ h.lt).trans h.2⟩
theorem B5.set {w : World} {g : Nat} {l : List Int} (h : B5 w g l) (k : Nat) (n : Int) : B5 (w.setCell ⟨g, k, none⟩ (.int .i64 n)) g (l.set k n) := by
  refine ⟨by simp [h.1], ?_⟩
  have := h.2
  simp [World.setCell, Array.getElem?_modify, this]
theorem B5.drew {w : World} {g : Nat} {l : List Int} (h : B5 w g l) : B5 w.drew g l := h
theorem B5.is {w : World} {g : Nat} {l : List Int} (h : B5 w g l) : Is w (.slice (some ⟨g, 0, none⟩) 5 5) l := by
  have := Is.block (cap := 5) h.2 (by rw [h.1]; exact Nat.le_refl _) (by simp [maxLen])
  rw [h.1] at this
  exact this
theorem B5.free {w : World} {g : Nat} {l : List Int} (h : B5 w g l) (k : Nat) (hk : k < 5) : w.cell? ⟨g, k, none⟩ = some (.int .i64 (l.getD k 0)) ∧ w.frozen? ⟨g, k, none⟩ = false := by
  have h1 := h.2
  have h2 := h.1
  constructor
  · unfold World.cell?
    rw [h1]
    simp [List.getD, List.getElem?_eq_getElem (show k < l.length by omega)]
  · simp [World.frozen?, h1]
/-- what has been left behind k caps -/
def lfK (c p : List Int) (k : Nat) : List Int := (zipL c p).take k ++ c.drop k
theorem FH.far {h g : Nat} {w : World} {cur loss q0 q1 q2 q3 q4 r c0 c1 c2 c3 c4 : Int} (H : FH h g w cur loss q0 q1 q2 q3 q4 r c0 c1 c2 c3 c4) {p : Addr} (h1 : g ≠ p.block) (h2 : h ≠ p.block) (u : Value) :
    FH h g (w.setCell p u) cur loss q0 q1 q2 q3 q4 r c0 c1 c2 c3 c4 := ⟨(Below.heap_setCell w p u g h1).trans H.1, (Below.heap_setCell w p u h h2).trans H.2⟩

/-- what is known of the second part -/
theorem parts_more {a b c0 c1 c2 c3 c4 p0 p1 p2 p3 p4 q0 q1 q2 q3 q4 s0 s1 s2 s3 s4 ra rb rc cur : Int} (ha : 0 ≤ a) (hb : 0 ≤ b) (hab : a ≤ 1152921504606846976 ∧ b ≤ 1152921504606846976) (hl : ∀ n ∈ [c0, c1, c2, c3, c4], 0 ≤ n)
    (hp : greedyP a [c0, c1, c2, c3, c4] = [p0, p1, p2, p3, p4]) (hr : greedyR a [c0, c1, c2, c3, c4] = ra)
    (hq : greedyP (ra + b) [c0 - p0, c1 - p1, c2 - p2, c3 - p3, c4 - p4] = [q0, q1, q2, q3, q4]) (hrb : greedyR (ra + b) [c0 - p0, c1 - p1, c2 - p2, c3 - p3, c4 - p4] = rb)
    (hs : greedyP (a + b) [c0, c1, c2, c3, c4] = [s0, s1, s2, s3, s4]) (hrc : greedyR (a + b) [c0, c1, c2, c3, c4] = rc)
    (hP : ∀ k, k < 5 → 0 ≤ [p0, p1, p2, p3, p4].getD k 0 ∧ [p0, p1, p2, p3, p4].getD k 0 ≤ [c0, c1, c2, c3, c4].getD k 0 ∧ [c0, c1, c2, c3, c4].getD k 0 ≤ 4611686018427387904)
    (hR : 0 ≤ ra ∧ ra ≤ a) :
    rc = rb ∧ (∀ k, k < 5 → 0 ≤ [q0, q1, q2, q3, q4].getD k 0 ∧ [p0, p1, p2, p3, p4].getD k 0 + [q0, q1, q2, q3, q4].getD k 0 = [s0, s1, s2, s3, s4].getD k 0 ∧ [s0, s1, s2, s3, s4].getD k 0 ≤ 4611686018427387904) ∧ (0 ≤ rb ∧ rb ≤ ra + b) ∧
    fsE [⟨cur, a, p0, p1, p2, p3, p4, ra⟩, ⟨cur, ra + b, q0, q1, q2, q3, q4, rb⟩] = 0 ∧ fsC [⟨cur, a, p0, p1, p2, p3, p4, ra⟩, ⟨cur, ra + b, q0, q1, q2, q3, q4, rb⟩] = a + b - rb ∧ fsR [⟨cur, a, p0, p1, p2, p3, p4, ra⟩, ⟨cur, ra + b, q0, q1, q2, q3, q4, rb⟩] = ra + rb := by
  have g1 := greedyR_parts a b _ ha hb hl
  have g2 := greedyP_parts a b _ ha hb hl
  rw [hr, hp] at g1 g2
  have e : List.zipWith (· - ·) [c0, c1, c2, c3, c4] [p0, p1, p2, p3, p4] = [c0 - p0, c1 - p1, c2 - p2, c3 - p3, c4 - p4] := rfl
  rw [e, hrb, hrc] at g1
  rw [e, hq, hs] at g2
  have p0' := hP 0 (by omega)
  have p1' := hP 1 (by omega)
  have p2' := hP 2 (by omega)
  have p3' := hP 3 (by omega)
  have p4' := hP 4 (by omega)
  simp only [List.getD_cons_zero, List.getD_cons_succ] at p0' p1' p2' p3' p4'
  have hl2 : ∀ n ∈ [c0 - p0, c1 - p1, c2 - p2, c3 - p3, c4 - p4], 0 ≤ n := by
    simp
    omega
  have gq := fun k hk => greedyP_cap (ra + b) _ (by omega) hl2 k hk
  rw [hq] at gq
  have q0' := gq 0 (by simp)
  have q1' := gq 1 (by simp)
  have q2' := gq 2 (by simp)
  have q3' := gq 3 (by simp)
  have q4' := gq 4 (by simp)
  simp only [List.getD_cons_zero, List.getD_cons_succ] at q0' q1' q2' q3' q4'
  have hRb := greedyR_low (ra + b) _ (by omega) hl2
  rw [hrb] at hRb
  have t1 := greedy_sum a [c0, c1, c2, c3, c4]
  have t2 := greedy_sum (ra + b) [c0 - p0, c1 - p1, c2 - p2, c3 - p3, c4 - p4]
  rw [hp, hr] at t1
  rw [hq, hrb] at t2
  simp only [List.sum_cons, List.sum_nil] at t1 t2
  have hE : fsE [⟨cur, a, p0, p1, p2, p3, p4, ra⟩, ⟨cur, ra + b, q0, q1, q2, q3, q4, rb⟩] = 0 := by
    have hc : capsOk (chs [⟨cur, a, p0, p1, p2, p3, p4, ra⟩, ⟨cur, ra + b, q0, q1, q2, q3, q4, rb⟩] ++ rts [⟨cur, a, p0, p1, p2, p3, p4, ra⟩, ⟨cur, ra + b, q0, q1, q2, q3, q4, rb⟩]) = true := by
      rw [capsOk_iff]
      simp [chs, rts, FT.ps]
      omega
    have h1 : sumE (chs [⟨cur, a, p0, p1, p2, p3, p4, ra⟩, ⟨cur, ra + b, q0, q1, q2, q3, q4, rb⟩]) = 0 := by
      unfold sumE
      rw [if_pos, if_pos]
      · rw [rightB_iff]
        simp [chs, FT.ps, sumI]
        omega
      · rw [allRight_iff]
        simp [chs, FT.ps]
        omega
    have h2 : sumE (rts [⟨cur, a, p0, p1, p2, p3, p4, ra⟩, ⟨cur, ra + b, q0, q1, q2, q3, q4, rb⟩]) = 0 := by
      unfold sumE
      rw [if_pos, if_pos]
      · rw [rightB_iff]
        simp [rts, sumI]
        omega
      · rw [allRight_iff]
        simp [rts]
        omega
    unfold fsE
    rw [if_pos hc, if_pos h1, h2]
  refine ⟨g1.symm, ?_, hRb, hE, ?_, ?_⟩
  · intro k hk
    have g := g2 k
    match k, hk, g with
    | 0, _, g => simp at g ⊢; omega
    | 1, _, g => simp at g ⊢; omega
    | 2, _, g => simp at g ⊢; omega
    | 3, _, g => simp at g ⊢; omega
    | 4, _, g => simp at g ⊢; omega
  · unfold fsC
    rw [if_pos hE]
    simp [chs, FT.ps, sumI]
    omega
  · unfold fsR
    rw [if_pos hE]
    simp [rts, sumI]
theorem Fs.two {w : World} {f g : FT} : Fs (w.alloc (.cells (fcells [f, g]).toArray 24)) (.slice (some ⟨w.heap.size, 0, none⟩) 2 2) [f, g] :=
  Sl.block (n := 2) (size := 8) (heap_alloc_new w _) rfl (Nat.le_refl _) (by simp [maxLen])

theorem setF {w5 : World} {n : Nat} (h : w5.heap[n]? = some (.cells #[.int .i64 0, .int .i64 0, .int .i64 0, .int .i64 0, .int .i64 0, .int .i64 0, .int .i64 0, .int .i64 0] 24 (0, 0))) (v0 v1 v2 v3 v4 v5 v6 v7 : Value) :
    (w5.setCells n 0 [v0, v1, v2, v3, v4, v5, v6, v7]).heap[n]? = some (.cells #[v0, v1, v2, v3, v4, v5, v6, v7] 24 (0, 0)) := by
  simp [World.setCells, World.setCell, Array.getElem?_modify, h]
theorem setCells_heap {w : World} {g n : Nat} (vs : List Value) (o : Nat) (h : g ≠ n) : (w.setCells n o vs).heap[g]? = w.heap[g]? := by
  induction vs generalizing w o with
  | nil => rfl
  | cons v r ih => exact (ih (o + 1)).trans (Below.heap_setCell w ⟨n, o, none⟩ v g h)

set_option maxRecDepth 100000 in
set_option maxHeartbeats 3200000 in
theorem FallParts_main (w : World) (cur a b c0 c1 c2 c3 c4 : Int) (ha : 0 ≤ a ∧ a ≤ 1152921504606846976) (hb : 0 ≤ b ∧ b ≤ 1152921504606846976) (he1 : shareE cur a [c0, c1, c2, c3, c4] = 0) :
    Calls Try.prog 7 #[.int .i64 cur, .int .i64 a, .int .i64 b, .agg #[.int .i64 c0, .int .i64 c1, .int .i64 c2, .int .i64 c3, .int .i64 c4]] w fun e w' => e = .returned (.bool true) ∧ Below w.heap.size w w' := by
  have sh1 := fun w v h => Share_ok w cur a v [c0, c1, c2, c3, c4] h he1
  have He1 := Lib.hid he1
  have hd1 : decide (a < 0) = false := by simp; omega
  have hd2 : decide (b < 0) = false := by simp; omega
  have hd3 : decide (1152921504606846976 < a) = false := by simp; omega
  have hd4 : decide (1152921504606846976 < b) = false := by simp; omega
  clear he1
  go_enter Try.func7, Try.ntmps7
  go_wp2_with fail
  refine (sh1 _ _ (Is.lit5 rfl _ _ _ _ _ _)).mono ?_
  rintro e w1 ⟨p0, p1, p2, p3, p4, hp, rfl, hb1⟩
  unfold fallV
  obtain ⟨he2, he3, hq, hR⟩ := parts_facts ha hb He1.out hp
  generalize hr : greedyR a [c0, c1, c2, c3, c4] = ra at *
  have sh2 := fun w v h => Share_ok w cur (ra + b) v _ h he2
  have sh3 := fun w v h => Share_ok w cur (a + b) v _ h he3
  have HQ := Lib.hid hq
  have Hra := Lib.hid hr
  have Hp := Lib.hid hp
  have hh : w1.heap[w.heap.size]? = some (.cells #[.int .i64 c0, .int .i64 c1, .int .i64 c2, .int .i64 c3, .int .i64 c4] 22 (0, 0)) := by
    rw [hb1.block _ (by simp)]
    exact heap_alloc_new _ _
  have hfa : FH w.heap.size w1.heap.size (w1.alloc (.cells #[.int .i64 cur, .int .i64 a, .int .i64 p0, .int .i64 p1, .int .i64 p2, .int .i64 p3, .int .i64 p4, .int .i64 ra] 24)) cur a p0 p1 p2 p3 p4 ra c0 c1 c2 c3 c4 := FH.new rfl hh
  have hba : Below w.heap.size w (w1.alloc (.cells #[.int .i64 cur, .int .i64 a, .int .i64 p0, .int .i64 p1, .int .i64 p2, .int .i64 p3, .int .i64 p4, .int .i64 ra] 24)) := hb1.un.alloc hb1.un.size _
  have hc0 := (hfa.q 0 (by omega)).2
  have hc1 := (hfa.q 1 (by omega)).2
  have hc2 := (hfa.q 2 (by omega)).2
  have hc3 := (hfa.q 3 (by omega)).2
  have hc4 := (hfa.q 4 (by omega)).2
  simp only [List.getD_cons_zero, List.getD_cons_succ] at hc0 hc1 hc2 hc3 hc4
  clear hp hr sh1 hh hb1 he2 he3 hq
  go_wp2_with fail
  have hsz2 : w1.heap.size + 1 = (w1.alloc (.cells #[.int .i64 cur, .int .i64 a, .int .i64 p0, .int .i64 p1, .int .i64 p2, .int .i64 p3, .int .i64 p4, .int .i64 ra] 24)).heap.size := by simp
  generalize (w1.alloc (.cells #[.int .i64 cur, .int .i64 a, .int .i64 p0, .int .i64 p1, .int .i64 p2, .int .i64 p3, .int .i64 p4, .int .i64 ra] 24)) = w2 at *
  clear hc0 hc1 hc2 hc3 hc4
  have hls : B5 (w2.alloc (.cells #[.int .i64 c0, .int .i64 c1, .int .i64 c2, .int .i64 c3, .int .i64 c4] 22)) (w1.heap.size + 1) [c0, c1, c2, c3, c4] := ⟨rfl, by rw [hsz2]; exact heap_alloc_new _ _⟩
  have hne : w.heap.size ≠ w1.heap.size + 1 ∧ w1.heap.size ≠ w1.heap.size + 1 := by have := hfa.lt.2; omega
  have hfa2 := hfa.next ((Below.refl _ _).alloc (Nat.le_refl _) (.cells #[.int .i64 c0, .int .i64 c1, .int .i64 c2, .int .i64 c3, .int .i64 c4] 22))
  have hba2 := hba.alloc hba.size (.cells #[.int .i64 c0, .int .i64 c1, .int .i64 c2, .int .i64 c3, .int .i64 c4] 22)
  have hsz3 : w.heap.size ≤ w1.heap.size + 1 := by have := hba.size; omega
  clear hfa hba hsz2
  generalize (w2.alloc (.cells #[.int .i64 c0, .int .i64 c1, .int .i64 c2, .int .i64 c3, .int .i64 c4] 22)) = w3 at *
  generalize w1.heap.size + 1 = gl at *
  generalize w1.heap.size = ga at *
  go_loopw [12] (fun i wr => ∃ k : Nat, k ≤ 5 ∧ i = .int .i64 k ∧ Below w.heap.size w wr ∧ FH w.heap.size ga wr cur a p0 p1 p2 p3 p4 ra c0 c1 c2 c3 c4 ∧ B5 wr gl (lfK [c0, c1, c2, c3, c4] [p0, p1, p2, p3, p4] k)) (fun i _ => 5 - (intOf i).toNat)
  case atStart => exact ⟨0, by omega, rfl, hba2, hfa2, hls⟩
  case round =>
    have ha' := ha
    obtain ⟨k, hk, rfl, hbel, ha, hl⟩ := hrel
    clear hba2 hfa2 hls
    by_cases hlt : k < 5
    · have hx := (ha.q k hlt).2
      have hy := (ha.q k hlt).1
      obtain ⟨hf1, hf2⟩ := hl.free k hlt
      have hle := HQ.out k hlt
      have hst : (lfK [c0, c1, c2, c3, c4] [p0, p1, p2, p3, p4] k).set k ([c0, c1, c2, c3, c4].getD k 0 - [p0, p1, p2, p3, p4].getD k 0) = lfK [c0, c1, c2, c3, c4] [p0, p1, p2, p3, p4] (k + 1) := by
        match k, hlt with
        | 0, _ => rfl
        | 1, _ => rfl
        | 2, _ => rfl
        | 3, _ => rfl
        | 4, _ => rfl
      have HST := Lib.hid hst
      clear hst
      generalize [c0, c1, c2, c3, c4].getD k 0 = x at *
      generalize [p0, p1, p2, p3, p4].getD k 0 = y at *
      generalize (lfK [c0, c1, c2, c3, c4] [p0, p1, p2, p3, p4] k).getD k 0 = z at *
      have hl' := (hl.next (Below.refl _ wr).drew).set k (x - y)
      rw [HST.out] at hl'
      have HL := Lib.hid hl'
      have HA : Hid (FH w.heap.size ga (wr.drew.setCell ⟨gl, k, none⟩ (.int .i64 (x - y))) cur a p0 p1 p2 p3 p4 ra c0 c1 c2 c3 c4) := FH.far (FH.next ha (Below.refl _ wr).drew) hne.2 hne.1 _
      have HB : Hid (Below w.heap.size w (wr.drew.setCell ⟨gl, k, none⟩ (.int .i64 (x - y)))) := hbel.drew.setCell hsz3 _
      clear hl hl' ha hbel
      go_wp2_with fail
      go_still_tail 10, (by kernel_rfl)
      change wpList _ _ _ _ _ wr.drew
      have hg1 : wr.drew.cell? ⟨gl, k, none⟩ = some (.int .i64 z) := hf1
      have hg2 : wr.drew.frozen? ⟨gl, k, none⟩ = false := hf2
      generalize wr.drew = wd at *
      go_wp2_with fail
      exact ⟨⟨k + 1, by omega, by push_cast; rfl, HB.out, HA.out, HL.out⟩, by simp [intOf]; omega⟩
    · obtain rfl : k = 5 := by omega
      have hl5 : B5 wr gl [c0 - p0, c1 - p1, c2 - p2, c3 - p3, c4 - p4] := hl
      have hx := ha.g 7 _ rfl
      simp only [List.getElem_toArray, List.getElem_cons_succ, List.getElem_cons_zero] at hx
      clear hl
      go_upto_region 11 with fail
      go_cut [10, 13] (fun v10 v13 wx => ∃ (gg : Nat) (q0 q1 q2 q3 q4 rb : Int), v10 = .int .i64 0 ∧ v13 = .pointer (some ⟨gg, 0, none⟩) ∧ Hid (greedyP (ra + b) [c0 - p0, c1 - p1, c2 - p2, c3 - p3, c4 - p4] = [q0, q1, q2, q3, q4] ∧ greedyR (ra + b) [c0 - p0, c1 - p1, c2 - p2, c3 - p3, c4 - p4] = rb) ∧ FH w.heap.size gg wx cur (ra + b) q0 q1 q2 q3 q4 rb c0 c1 c2 c3 c4 ∧ FH w.heap.size ga wx cur a p0 p1 p2 p3 p4 ra c0 c1 c2 c3 c4 ∧ Below w.heap.size w wx)
      case first =>
        have hneg : ga ≠ wr.drew.heap.size := by have := ha.lt.1; show ga ≠ wr.heap.size; omega
        have hneh : w.heap.size ≠ wr.drew.heap.size := by have := ha.lt.2; show w.heap.size ≠ wr.heap.size; omega
        have hwr : IntKind.i64.wrap (ra + b) = ra + b := IntWalk.i64_in _ (by omega)
        have hbd := hbel.drew
        have had : FH w.heap.size ga wr.drew cur a p0 p1 p2 p3 p4 ra c0 c1 c2 c3 c4 := ha
        have hld : B5 wr.drew gl [c0 - p0, c1 - p1, c2 - p2, c3 - p3, c4 - p4] := hl5
        replace hx : wr.drew.cell? ⟨ga, 7, none⟩ = some (.int .i64 ra) := hx
        clear hl5 ha hbel
        refine wp_region_any (by kernel_rfl) ?_
        change wpAny _ _ _ _ _ _ _ (World.drew _)
        generalize wr.drew = wd at *
        -- region 11
        refine wpAny_take (i := 0) (v := .int .i64 cur) rfl (by kernel_rfl) (by kernel_rfl) (by kernel_rfl) (fun _ _ _ h => h) (Or.inl ⟨by rfl, by intro w; go_simp⟩) ?_
        try simp only [Act.put]
        refine wpAny_take (i := 1) (v := .pointer (some ⟨ga, 7, none⟩)) rfl (by kernel_rfl) (by kernel_rfl) (by kernel_rfl) (fun _ _ _ h => h) (Or.inl ⟨by rfl, by intro w; go_simp⟩) ?_
        try simp only [Act.put]
        refine wpAny_take (i := 3) (v := .int .i64 b) rfl (by kernel_rfl) (by kernel_rfl) (by kernel_rfl) (fun _ _ _ h => h) (Or.inl ⟨by rfl, by intro w; go_simp⟩) ?_
        try simp only [Act.put]
        refine wpAny_take (i := 5) (v := .slice (some ⟨gl, 0, none⟩) 5 5) rfl (by kernel_rfl) (by kernel_rfl) (by kernel_rfl) (fun _ _ _ h => h) (Or.inl ⟨by rfl, by intro w; go_simp⟩) ?_
        try simp only [Act.put]
        refine wpAny_ready (rs := [2, 10]) (by kernel_rfl) (by simp) ?_
        refine AllReady.cons rfl (fun K hK => ?_) (AllReady.cons rfl (fun K hK => ?_) AllReady.nil)
        · go_simp
          refine hK _ _ ?_
          clear hK K
          try simp only [Act.put]
          refine wpAny_take (i := 4) (v := .int .i64 (ra + b)) rfl (by kernel_rfl) (by kernel_rfl) (by kernel_rfl) (fun _ _ _ h => h) (Or.inl ⟨by rfl, by intro w; go_simp⟩) ?_
          try simp only [Act.put]
          refine wpAny_ready (rs := [6, 10]) (by kernel_rfl) (by simp) ?_
          refine AllReady.cons rfl (fun K hK => ?_) (AllReady.cons rfl (fun K hK => ?_) AllReady.nil)
          · go_simp
            go_at_call 8
            (with_reducible refine (sh2 _ (.slice (some ⟨gl, 0, none⟩) 5 5) ?_).mono ?_)
            · exact hld.is
            rintro e w5 ⟨q0, q1, q2, q3, q4, hq, rfl, hb5⟩
            unfold fallV
            obtain ⟨rb, hrb⟩ : ∃ rb, rb = greedyR (ra + b) [c0 - p0, c1 - p1, c2 - p2, c3 - p3, c4 - p4] := ⟨_, rfl⟩
            rw [← hrb]
            have Hq := Lib.hid hq
            have Hrb := Lib.hid hrb
            clear hq hrb
            go_simp
            refine hK _ _ ?_
            clear hK K
            try simp only [Act.put]
            refine wpAny_take (i := 7) (v := .tuple #[.agg #[.int .i64 cur, .int .i64 (ra + b), .int .i64 q0, .int .i64 q1, .int .i64 q2, .int .i64 q3, .int .i64 q4, .int .i64 rb], .int .i64 0]) rfl (by kernel_rfl) (by kernel_rfl) (by kernel_rfl) (fun _ _ _ h => h) (Or.inl ⟨by rfl, by intro w; go_simp⟩) ?_
            try simp only [Act.put]
            refine wpAny_take (i := 8) (v := .agg #[.int .i64 cur, .int .i64 (ra + b), .int .i64 q0, .int .i64 q1, .int .i64 q2, .int .i64 q3, .int .i64 q4, .int .i64 rb]) rfl (by kernel_rfl) (by kernel_rfl) (by kernel_rfl) (fun _ _ _ h => h) (Or.inl ⟨by rfl, by intro w; go_simp⟩) ?_
            try simp only [Act.put]
            refine wpAny_take (i := 9) (v := .int .i64 0) rfl (by kernel_rfl) (by kernel_rfl) (by kernel_rfl) (fun _ _ _ h => h) (Or.inl ⟨by rfl, by intro w; go_simp⟩) ?_
            try simp only [Act.put]
            refine wpAny_ready (rs := [10]) (by kernel_rfl) (by simp) ?_
            refine AllReady.cons rfl (fun K hK => ?_) AllReady.nil
            go_simp
            refine hK _ _ ?_
            clear hK K
            try simp only [Act.put]
            refine wpAny_ready (rs := [11]) (by kernel_rfl) (by simp) ?_
            refine AllReady.cons rfl (fun K hK => ?_) AllReady.nil
            go_simp
            refine hK _ _ ?_
            clear hK K
            try simp only [Act.put]
            refine wpAny_ready (rs := [12]) (by kernel_rfl) (by simp) ?_
            refine AllReady.cons rfl (fun K hK => ?_) AllReady.nil
            go_simp
            refine hK _ _ ?_
            clear hK K
            try simp only [Act.put]
            refine wpAny_done (by kernel_rfl) ?_ _
            go_wp2_with fail
            go_meet
            exact ⟨w5.heap.size, q0, q1, q2, q3, q4, rb, rfl, rfl, ⟨Hq.out, Hrb.out.symm⟩, FH.new rfl (had.next hb5).2, (had.next hb5).next ((Below.refl _ _).alloc (Nat.le_refl _) _), (hbd.next hb5).alloc (hbd.next hb5).size _⟩
          · go_simp
            refine hK _ _ ?_
            clear hK K
            try simp only [Act.put]
            have hzA := HC.new (w := wd) (C := [.int .i64 0, .int .i64 0, .int .i64 0, .int .i64 0, .int .i64 0, .int .i64 0, .int .i64 0, .int .i64 0]) (t := 24)
            have hzT := heap_alloc_new wd (.cells [.int .i64 0, .int .i64 0, .int .i64 0, .int .i64 0, .int .i64 0, .int .i64 0, .int .i64 0, .int .i64 0].toArray 24)
            have hadA := had.next ((Below.refl _ _).alloc (Nat.le_refl _) (.cells [.int .i64 0, .int .i64 0, .int .i64 0, .int .i64 0, .int .i64 0, .int .i64 0, .int .i64 0, .int .i64 0].toArray 24))
            have hldA := hld.next ((Below.refl _ _).alloc (Nat.le_refl _) (.cells [.int .i64 0, .int .i64 0, .int .i64 0, .int .i64 0, .int .i64 0, .int .i64 0, .int .i64 0, .int .i64 0].toArray 24))
            have hbdA := hbd.alloc hbd.size (.cells [.int .i64 0, .int .i64 0, .int .i64 0, .int .i64 0, .int .i64 0, .int .i64 0, .int .i64 0, .int .i64 0].toArray 24)
            refine wpAny_ready (rs := [6]) (by kernel_rfl) (by simp) ?_
            refine AllReady.cons rfl (fun K hK => ?_) AllReady.nil
            go_simp
            go_at_call 8
            (with_reducible refine (sh2 _ (.slice (some ⟨gl, 0, none⟩) 5 5) ?_).mono ?_)
            · exact hldA.is
            rintro e w5 ⟨q0, q1, q2, q3, q4, hq, rfl, hb5⟩
            unfold fallV
            obtain ⟨rb, hrb⟩ : ∃ rb, rb = greedyR (ra + b) [c0 - p0, c1 - p1, c2 - p2, c3 - p3, c4 - p4] := ⟨_, rfl⟩
            rw [← hrb]
            have Hq := Lib.hid hq
            have Hrb := Lib.hid hrb
            clear hq hrb
            go_simp
            refine hK _ _ ?_
            clear hK K
            try simp only [Act.put]
            refine wpAny_take (i := 7) (v := .tuple #[.agg #[.int .i64 cur, .int .i64 (ra + b), .int .i64 q0, .int .i64 q1, .int .i64 q2, .int .i64 q3, .int .i64 q4, .int .i64 rb], .int .i64 0]) rfl (by kernel_rfl) (by kernel_rfl) (by kernel_rfl) (fun _ _ _ h => h) (Or.inl ⟨by rfl, by intro w; go_simp⟩) ?_
            try simp only [Act.put]
            refine wpAny_take (i := 8) (v := .agg #[.int .i64 cur, .int .i64 (ra + b), .int .i64 q0, .int .i64 q1, .int .i64 q2, .int .i64 q3, .int .i64 q4, .int .i64 rb]) rfl (by kernel_rfl) (by kernel_rfl) (by kernel_rfl) (fun _ _ _ h => h) (Or.inl ⟨by rfl, by intro w; go_simp⟩) ?_
            try simp only [Act.put]
            refine wpAny_take (i := 9) (v := .int .i64 0) rfl (by kernel_rfl) (by kernel_rfl) (by kernel_rfl) (fun _ _ _ h => h) (Or.inl ⟨by rfl, by intro w; go_simp⟩) ?_
            try simp only [Act.put]
            have hz5 := hzA.below hb5
            have hz5T := (hb5.block _ (by simp)).trans hzT
            have hz6 := hz5.puts (vs := [.int .i64 cur, .int .i64 (ra + b), .int .i64 q0, .int .i64 q1, .int .i64 q2, .int .i64 q3, .int .i64 q4, .int .i64 rb]) (o := 0) (by simp)
            have had5 := hadA.next hb5
            have hbd5 := hbdA.next hb5
            refine wpAny_ready (rs := [11]) (by kernel_rfl) (by simp) ?_
            refine AllReady.cons rfl (fun K hK => ?_) AllReady.nil
            refine step_store_mid rfl 24 (.tmp 13) (.tmp 66) rfl wd.heap.size 0 [.int .i64 cur, .int .i64 (ra + b), .int .i64 q0, .int .i64 q1, .int .i64 q2, .int .i64 q3, .int .i64 q4, .int .i64 rb] rfl rfl (hz5.there (by simp)) fallSize (by simp [Value.oneCell']) ?_
            refine hK _ _ ?_
            clear hK K
            try simp only [Act.put]
            refine wpAny_ready (rs := [12]) (by kernel_rfl) (by simp) ?_
            refine AllReady.cons rfl (fun K hK => ?_) AllReady.nil
            go_simp
            refine hK _ _ ?_
            clear hK K
            try simp only [Act.put]
            refine wpAny_done (by kernel_rfl) ?_ _
            go_wp2_with fail
            go_meet
            exact ⟨wd.heap.size, q0, q1, q2, q3, q4, rb, rfl, rfl, ⟨Hq.out, Hrb.out.symm⟩, ⟨setF hz5T _ _ _ _ _ _ _ _, (setCells_heap _ _ hneh).trans had5.2⟩, ⟨(setCells_heap _ _ hneg).trans had5.1, (setCells_heap _ _ hneh).trans had5.2⟩, hbd5.trans ((setCells_kept wd.heap.size [.int .i64 cur, .int .i64 (ra + b), .int .i64 q0, .int .i64 q1, .int .i64 q2, .int .i64 q3, .int .i64 q4, .int .i64 rb] 0 w5).below (fun j hj e => by have := hbd.size; omega) hbd5.size)⟩
        · go_simp
          refine hK _ _ ?_
          clear hK K
          try simp only [Act.put]
          have hzA := HC.new (w := wd) (C := [.int .i64 0, .int .i64 0, .int .i64 0, .int .i64 0, .int .i64 0, .int .i64 0, .int .i64 0, .int .i64 0]) (t := 24)
          have hzT := heap_alloc_new wd (.cells [.int .i64 0, .int .i64 0, .int .i64 0, .int .i64 0, .int .i64 0, .int .i64 0, .int .i64 0, .int .i64 0].toArray 24)
          have hadA := had.next ((Below.refl _ _).alloc (Nat.le_refl _) (.cells [.int .i64 0, .int .i64 0, .int .i64 0, .int .i64 0, .int .i64 0, .int .i64 0, .int .i64 0, .int .i64 0].toArray 24))
          have hldA := hld.next ((Below.refl _ _).alloc (Nat.le_refl _) (.cells [.int .i64 0, .int .i64 0, .int .i64 0, .int .i64 0, .int .i64 0, .int .i64 0, .int .i64 0, .int .i64 0].toArray 24))
          have hbdA := hbd.alloc hbd.size (.cells [.int .i64 0, .int .i64 0, .int .i64 0, .int .i64 0, .int .i64 0, .int .i64 0, .int .i64 0, .int .i64 0].toArray 24)
          refine wpAny_ready (rs := [2]) (by kernel_rfl) (by simp) ?_
          refine AllReady.cons rfl (fun K hK => ?_) AllReady.nil
          have hxA := hadA.g 7 _ rfl
          simp only [List.getElem_toArray, List.getElem_cons_succ, List.getElem_cons_zero] at hxA
          go_simp
          clear hxA
          refine hK _ _ ?_
          clear hK K
          try simp only [Act.put]
          refine wpAny_take (i := 4) (v := .int .i64 (ra + b)) rfl (by kernel_rfl) (by kernel_rfl) (by kernel_rfl) (fun _ _ _ h => h) (Or.inl ⟨by rfl, by intro w; go_simp⟩) ?_
          try simp only [Act.put]
          refine wpAny_ready (rs := [6]) (by kernel_rfl) (by simp) ?_
          refine AllReady.cons rfl (fun K hK => ?_) AllReady.nil
          go_simp
          go_at_call 8
          (with_reducible refine (sh2 _ (.slice (some ⟨gl, 0, none⟩) 5 5) ?_).mono ?_)
          · exact hldA.is
          rintro e w5 ⟨q0, q1, q2, q3, q4, hq, rfl, hb5⟩
          unfold fallV
          obtain ⟨rb, hrb⟩ : ∃ rb, rb = greedyR (ra + b) [c0 - p0, c1 - p1, c2 - p2, c3 - p3, c4 - p4] := ⟨_, rfl⟩
          rw [← hrb]
          have Hq := Lib.hid hq
          have Hrb := Lib.hid hrb
          clear hq hrb
          go_simp
          refine hK _ _ ?_
          clear hK K
          try simp only [Act.put]
          refine wpAny_take (i := 7) (v := .tuple #[.agg #[.int .i64 cur, .int .i64 (ra + b), .int .i64 q0, .int .i64 q1, .int .i64 q2, .int .i64 q3, .int .i64 q4, .int .i64 rb], .int .i64 0]) rfl (by kernel_rfl) (by kernel_rfl) (by kernel_rfl) (fun _ _ _ h => h) (Or.inl ⟨by rfl, by intro w; go_simp⟩) ?_
          try simp only [Act.put]
          refine wpAny_take (i := 8) (v := .agg #[.int .i64 cur, .int .i64 (ra + b), .int .i64 q0, .int .i64 q1, .int .i64 q2, .int .i64 q3, .int .i64 q4, .int .i64 rb]) rfl (by kernel_rfl) (by kernel_rfl) (by kernel_rfl) (fun _ _ _ h => h) (Or.inl ⟨by rfl, by intro w; go_simp⟩) ?_
          try simp only [Act.put]
          refine wpAny_take (i := 9) (v := .int .i64 0) rfl (by kernel_rfl) (by kernel_rfl) (by kernel_rfl) (fun _ _ _ h => h) (Or.inl ⟨by rfl, by intro w; go_simp⟩) ?_
          try simp only [Act.put]
          have hz5 := hzA.below hb5
          have hz5T := (hb5.block _ (by simp)).trans hzT
          have hz6 := hz5.puts (vs := [.int .i64 cur, .int .i64 (ra + b), .int .i64 q0, .int .i64 q1, .int .i64 q2, .int .i64 q3, .int .i64 q4, .int .i64 rb]) (o := 0) (by simp)
          have had5 := hadA.next hb5
          have hbd5 := hbdA.next hb5
          refine wpAny_ready (rs := [11]) (by kernel_rfl) (by simp) ?_
          refine AllReady.cons rfl (fun K hK => ?_) AllReady.nil
          refine step_store_mid rfl 24 (.tmp 13) (.tmp 66) rfl wd.heap.size 0 [.int .i64 cur, .int .i64 (ra + b), .int .i64 q0, .int .i64 q1, .int .i64 q2, .int .i64 q3, .int .i64 q4, .int .i64 rb] rfl rfl (hz5.there (by simp)) fallSize (by simp [Value.oneCell']) ?_
          refine hK _ _ ?_
          clear hK K
          try simp only [Act.put]
          refine wpAny_ready (rs := [12]) (by kernel_rfl) (by simp) ?_
          refine AllReady.cons rfl (fun K hK => ?_) AllReady.nil
          go_simp
          refine hK _ _ ?_
          clear hK K
          try simp only [Act.put]
          refine wpAny_done (by kernel_rfl) ?_ _
          go_wp2_with fail
          go_meet
          exact ⟨wd.heap.size, q0, q1, q2, q3, q4, rb, rfl, rfl, ⟨Hq.out, Hrb.out.symm⟩, ⟨setF hz5T _ _ _ _ _ _ _ _, (setCells_heap _ _ hneh).trans had5.2⟩, ⟨(setCells_heap _ _ hneg).trans had5.1, (setCells_heap _ _ hneh).trans had5.2⟩, hbd5.trans ((setCells_kept wd.heap.size [.int .i64 cur, .int .i64 (ra + b), .int .i64 q0, .int .i64 q1, .int .i64 q2, .int .i64 q3, .int .i64 q4, .int .i64 rb] 0 w5).below (fun j hj e => by have := hbd.size; omega) hbd5.size)⟩
        -- end of region 11
      case rest =>
        obtain ⟨gg, q0, q1, q2, q3, q4, rb, rfl, rfl, HQR, hgb, hga, hbb⟩ := hcut
        clear hbel ha hl5 hx
        go_wp2_with fail
        refine (sh3 _ _ hga.is).mono ?_
        rintro e w5 ⟨s0, s1, s2, s3, s4, hs, rfl, hb5⟩
        unfold fallV
        obtain ⟨rc, hrc⟩ : ∃ rc, rc = greedyR (a + b) [c0, c1, c2, c3, c4] := ⟨_, rfl⟩
        rw [← hrc]
        obtain ⟨e1, hS, hRB, hE, hC, hRR⟩ := parts_more (cur := cur) ha'.1 hb.1 ⟨ha'.2, hb.2⟩ (fun n hn => ((rightE_zero _ _ (shareE_zero _ _ _ He1.out).2.2).2.1 n hn).1) Hp.out Hra.out HQR.out.1 HQR.out.2 hs hrc.symm HQ.out hR
        subst e1
        have HS := Lib.hid hS
        have HE := Lib.hid hE
        have HCC := Lib.hid hC
        have HRR := Lib.hid hRR
        have hgb2 := (hgb.next hb5).next ((Below.refl _ w5).alloc (Nat.le_refl _) (.cells #[.int .i64 cur, .int .i64 (a + b), .int .i64 s0, .int .i64 s1, .int .i64 s2, .int .i64 s3, .int .i64 s4, .int .i64 rc] 24))
        have hga2 := (hga.next hb5).next ((Below.refl _ w5).alloc (Nat.le_refl _) (.cells #[.int .i64 cur, .int .i64 (a + b), .int .i64 s0, .int .i64 s1, .int .i64 s2, .int .i64 s3, .int .i64 s4, .int .i64 rc] 24))
        have hgc : FH w.heap.size w5.heap.size (w5.alloc (.cells #[.int .i64 cur, .int .i64 (a + b), .int .i64 s0, .int .i64 s1, .int .i64 s2, .int .i64 s3, .int .i64 s4, .int .i64 rc] 24)) cur (a + b) s0 s1 s2 s3 s4 rc c0 c1 c2 c3 c4 := FH.new rfl (hga.next hb5).2
        have hbe := (hbb.next hb5).alloc (hbb.next hb5).size (.cells #[.int .i64 cur, .int .i64 (a + b), .int .i64 s0, .int .i64 s1, .int .i64 s2, .int .i64 s3, .int .i64 s4, .int .i64 rc] 24)
        have hx7 := hgb2.g 7 _ rfl
        have hy7 := hgc.g 7 _ rfl
        simp only [List.getElem_toArray, List.getElem_cons_succ, List.getElem_cons_zero] at hx7 hy7
        clear hs hrc hS hE hC hRR hb5 hbb hga hgb sh2 sh3
        go_wp2_with fail
        clear hx7 hy7
        generalize (w5.alloc (.cells #[.int .i64 cur, .int .i64 (a + b), .int .i64 s0, .int .i64 s1, .int .i64 s2, .int .i64 s3, .int .i64 s4, .int .i64 rc] 24)) = w6 at *
        generalize w5.heap.size = gc at *
        go_loopw [16] (fun i wr => ∃ k : Nat, k ≤ 5 ∧ i = .int .i64 k ∧ Below w.heap.size w wr ∧ FH w.heap.size ga wr cur a p0 p1 p2 p3 p4 ra c0 c1 c2 c3 c4 ∧ FH w.heap.size gg wr cur (ra + b) q0 q1 q2 q3 q4 rc c0 c1 c2 c3 c4 ∧ FH w.heap.size gc wr cur (a + b) s0 s1 s2 s3 s4 rc c0 c1 c2 c3 c4) (fun i _ => 5 - (intOf i).toNat)
        case atStart => exact ⟨0, by omega, rfl, hbe, hga2, hgb2, hgc⟩
        case round =>
          obtain ⟨k, hk, rfl, hbel, ha, hg, hc⟩ := hrel
          clear hbe hga2 hgb2 hgc
          by_cases hlt : k < 5
          · have hx := (ha.q k hlt).1
            have hy := (hg.q k hlt).1
            have hz := (hc.q k hlt).1
            have hle := HQ.out k hlt
            obtain ⟨hs1, hs2, hs3⟩ := HS.out k hlt
            rw [← hs2] at hz hs3
            clear hs2
            generalize [c0, c1, c2, c3, c4].getD k 0 = z at *
            generalize [p0, p1, p2, p3, p4].getD k 0 = x at *
            generalize [q0, q1, q2, q3, q4].getD k 0 = y at *
            have HK : Hid (k + 1 ≤ 5 ∧ 5 - (k + 1) < 5 - k) := ⟨by omega, by omega⟩
            have hwr : IntKind.i64.wrap (x + y) = x + y := IntWalk.i64_in _ (by omega)
            go_wp2_with fail
            go_quiet (fail)
            clear hwr
            go_wp2_with fail
            exact ⟨⟨k + 1, by omega, by push_cast; rfl, below_drewN' hbel _, ha.drew _, hg.drew _, hc.drew _⟩, by simp [intOf]; omega⟩
          · have hgo := ha
            have x0 := ha.g 0 _ rfl
            have x1 := ha.g 1 _ rfl
            have x2 := ha.g 2 _ rfl
            have x3 := ha.g 3 _ rfl
            have x4 := ha.g 4 _ rfl
            have x5 := ha.g 5 _ rfl
            have x6 := ha.g 6 _ rfl
            have x7 := ha.g 7 _ rfl
            have y0 := hg.g 0 _ rfl
            have y1 := hg.g 1 _ rfl
            have y2 := hg.g 2 _ rfl
            have y3 := hg.g 3 _ rfl
            have y4 := hg.g 4 _ rfl
            have y5 := hg.g 5 _ rfl
            have y6 := hg.g 6 _ rfl
            have y7 := hg.g 7 _ rfl
            have z1 := hc.g 1 _ rfl
            have z7 := hc.g 7 _ rfl
            simp only [List.getElem_toArray, List.getElem_cons_succ, List.getElem_cons_zero] at x0 x1 x2 x3 x4 x5 x6 x7 y0 y1 y2 y3 y4 y5 y6 y7 z1 z7
            have su := fallSum_any _ _ _ (Fs.two (w := wr) (f := ⟨cur, a, p0, p1, p2, p3, p4, ra⟩) (g := ⟨cur, ra + b, q0, q1, q2, q3, q4, rc⟩)) (by simp)
            rw [HE.out, HCC.out, HRR.out] at su
            have hbA := hbel.alloc hbel.size (.cells (fcells [⟨cur, a, p0, p1, p2, p3, p4, ra⟩, ⟨cur, ra + b, q0, q1, q2, q3, q4, rc⟩]).toArray 24)
            have hcA := hc.next ((Below.refl _ wr).alloc (Nat.le_refl _) (.cells (fcells [⟨cur, a, p0, p1, p2, p3, p4, ra⟩, ⟨cur, ra + b, q0, q1, q2, q3, q4, rc⟩]).toArray 24))
            have haA := ha.next ((Below.refl _ wr).alloc (Nat.le_refl _) (.cells (fcells [⟨cur, a, p0, p1, p2, p3, p4, ra⟩, ⟨cur, ra + b, q0, q1, q2, q3, q4, rc⟩]).toArray 24))
            have hgA := hg.next ((Below.refl _ wr).alloc (Nat.le_refl _) (.cells (fcells [⟨cur, a, p0, p1, p2, p3, p4, ra⟩, ⟨cur, ra + b, q0, q1, q2, q3, q4, rc⟩]).toArray 24))
            clear z1 z7 hgo ha hg hc hbel
            go_wp2_with fail
            refine su.mono ?_
            rintro e w7 ⟨rfl, hb7⟩
            have hc7 := hcA.next hb7
            have ha7 := haA.next hb7
            have hg7 := hgA.next hb7
            have hbw := hbA.next hb7
            have z1 := hc7.g 1 _ rfl
            have z7 := hc7.g 7 _ rfl
            have x7' := ha7.g 7 _ rfl
            have y7' := hg7.g 7 _ rfl
            simp only [List.getElem_toArray, List.getElem_cons_succ, List.getElem_cons_zero] at z1 z7 x7' y7'
            clear su hcA haA hgA hbA hb7 hc7 ha7 hg7 x0 x1 x2 x3 x4 x5 x6 x7 y0 y1 y2 y3 y4 y5 y6 y7
            go_wp2_with fail
            refine (wakes_any _).mono ?_
            rintro e w8 ⟨rfl, hb8⟩
            go_wp2_with fail
            go_ret
            exact ⟨rfl, hbw.next hb8⟩

set_option maxRecDepth 100000 in
set_option maxHeartbeats 800000 in
theorem FallParts_walk (w : World) (cur a b c0 c1 c2 c3 c4 : Int) :
    Calls Try.prog 7 #[.int .i64 cur, .int .i64 a, .int .i64 b, .agg #[.int .i64 c0, .int .i64 c1, .int .i64 c2, .int .i64 c3, .int .i64 c4]] w fun e w' => e = .returned (.bool true) ∧ Below w.heap.size w w' := by
  have hb0 : Below w.heap.size w (w.alloc (.cells #[.int .i64 c0, .int .i64 c1, .int .i64 c2, .int .i64 c3, .int .i64 c4] 22)) := (Below.refl _ _).alloc (Nat.le_refl _) _
  by_cases h1 : a < 0
  · go_enter Try.func7, Try.ntmps7
    go_wp2_with fail
    go_ret
    exact ⟨rfl, hb0⟩
  have hd1 : decide (a < 0) = false := by simp; omega
  by_cases h2 : b < 0
  · go_enter Try.func7, Try.ntmps7
    go_wp2_with fail
    go_ret
    exact ⟨rfl, hb0⟩
  have hd2 : decide (b < 0) = false := by simp; omega
  by_cases h3 : 1152921504606846976 < a
  · go_enter Try.func7, Try.ntmps7
    go_wp2_with fail
    go_ret
    exact ⟨rfl, hb0⟩
  have hd3 : decide (1152921504606846976 < a) = false := by simp; omega
  by_cases h4 : 1152921504606846976 < b
  · go_enter Try.func7, Try.ntmps7
    go_wp2_with fail
    go_ret
    exact ⟨rfl, hb0⟩
  have hd4 : decide (1152921504606846976 < b) = false := by simp; omega
  rcases shareE_cases cur a [c0, c1, c2, c3, c4] with he | he
  · have sh := fun w v h => Share_no w cur a v [c0, c1, c2, c3, c4] h he
    clear he
    go_enter Try.func7, Try.ntmps7
    go_wp2_with fail
    refine (sh _ _ (Is.lit5 rfl _ _ _ _ _ _)).mono ?_
    rintro e w1 ⟨rfl, hb⟩
    unfold fallV
    go_wp2_with fail
    refine (wakes_any _).mono ?_
    rintro e w3 ⟨rfl, hb3⟩
    go_wp2_with fail
    go_ret
    exact ⟨rfl, (hb.un.alloc hb.un.size _).next hb3⟩
  · exact FallParts_main w cur a b c0 c1 c2 c3 c4 ⟨by omega, by omega⟩ ⟨by omega, by omega⟩ he

end Cam
