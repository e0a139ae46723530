import Derived.Test.YtgjiphgehohooaaWdW
import Derived.Deep.DeepCutAuto
/- WideMany. -/
namespace Cam
open Go Go.RowKit Go.Proofs

theorem elem_wide : Elem Try.prog 41 29 2 16 := Elem.mk' (z := .agg #[.int .i64 0, .int .u64 0]) Try.underlying41 (by kernel_rfl) rfl (by decide)
theorem wSum_wide (l : List Int) : isWide (wSum l) = true := by
  unfold wSum
  split
  · assumption
  · decide
theorem wSumE_cases (l : List Int) : wSumE l = 0 ∨ wSumE l = 1 := by
  unfold wSumE
  split <;> simp
theorem wSum_of (l m : List Int) (h : sumI l = sumI m) : wSum l = wSum m ∧ wSumE l = wSumE m := by
  unfold wSum wSumE
  rw [h]
  exact ⟨rfl, rfl⟩
theorem wSum_ok {l : List Int} (h : wSumE l = 0) : wSum l = sumI l ∧ isWide (sumI l) = true := by
  unfold wSumE at h
  split at h
  · rename_i h1
    exact ⟨by unfold wSum; rw [if_pos h1], h1⟩
  · cases h
theorem Ws.lit1 {w : World} {g : Nat} (hg : g = w.heap.size) (n a b : Int) (hn : IsW a b n) (e : TypeId) : Ws (w.alloc (.cells #[.int .i64 a, .int .u64 b] e)) (.slice (some ⟨g, 0, none⟩) 1 1) [n] := by
  refine Ws.block (l := [n]) (fr := (0, 0)) (e := e) ?_ (Nat.le_refl _) (by simp [maxLen])
  simp only [wcells, hn.words.1, hn.words.2]
  exact heap_new hg
theorem Ws.take {w : World} {a : Option Addr} {len cap : Nat} {l : List Int} (h : Ws w (.slice a len cap) l) (K : Nat) (hK : K ≤ l.length) : Ws w (.slice a K cap) (l.take K) := by
  obtain ⟨h0, a', cap', hv, hn, hm, ha, hc⟩ := h
  cases hv
  have hl : (l.take K).length = K := by rw [List.length_take]; omega
  refine ⟨by rw [wcells_length], a, cap, by rw [hl], by rw [hl]; omega, hm, ha, fun ad had i u hu => hc ad had i u ?_⟩
  rw [← wcells_take, List.getElem?_take] at hu
  split at hu
  · exact hu
  · cases hu
theorem wcell {w : World} {g : Nat} {a b : Int} (h : w.heap[g]? = some (.cells #[.int .i64 a, .int .u64 b] 29 (0, 0))) : w.cell? ⟨g, 0, none⟩ = some (.int .i64 a) ∧ w.cell? ⟨g, 1, none⟩ = some (.int .u64 b) := by
  unfold World.cell?
  rw [h]
  exact ⟨rfl, rfl⟩
theorem hkeep {w w' : World} {g : Nat} {o : Obj} (hb : Below w.heap.size w w') (h : w.heap[g]? = some o) : w'.heap[g]? = some o := (hb.block _ (Array.getElem?_eq_some_iff.1 h).1).trans h
theorem hkeepA {w : World} {g : Nat} {o : Obj} (o' : Obj) (h : w.heap[g]? = some o) : (w.alloc o').heap[g]? = some o := hkeep ((Below.refl _ _).alloc (Nat.le_refl _) _) h
/-- Sum of a list whose sum is another list's -/
theorem sum_same (l m : List Int) (p q : Int) (hpq : IsW p q (wSum l)) (hW : ∀ x ∈ m, isWide x = true) (h : sumI m = sumI l) (w : World) (v : Value) (hv : Ws w v m) :
    Calls Try.prog 23 #[v] w fun e w' => e = .returned (.tuple #[.agg #[.int .i64 p, .int .u64 q], .int .i64 (wSumE l)]) ∧ Below w.heap.size w w' := by
  have hs := wSum_any w v m hv hW
  rw [(wSum_of m l h).1, (wSum_of m l h).2, hpq.val] at hs
  exact hs

set_option maxRecDepth 100000 in
set_option maxHeartbeats 3200000 in
theorem WideMany_walk (w : World) (v : Value) (l : List Int) (at_ : Int) (h : Ws w v l) (hW : ∀ x ∈ l, isWide x = true) :
    Calls Try.prog 7 #[v, .int .i64 at_] w fun e w' => e = .returned (.bool true) ∧ Below w.heap.size w w' := by
  obtain ⟨a, cap, rfl, hcap, hm⟩ := h.shape
  by_cases hlen : 2000 < l.length
  · go_enter Try.func7, Try.ntmps7
    go_wp2_with fail
    go_ret
    exact ⟨rfl, Below.refl _ _⟩
  obtain ⟨p, q, hpq, _⟩ := wideV_form (wSum_wide l)
  have ss := fun m hW h w v hv => sum_same l m p q hpq hW h w v hv
  have sm := fun w => same_run w _ _ p q p q hpq hpq
  rw [decide_eq_true (rfl : wSum l = wSum l)] at sm
  have Hpq := Lib.hid hpq
  have HW := Lib.hid hW
  have hlen' : decide (2000 < (l.length : Int)) = false := by simp; omega
  generalize hE : wSumE l = E at ss
  have HE := Lib.hid hE
  clear hpq hW hE
  go_enter Try.func7, Try.ntmps7
  go_wp2_with fail
  refine (ss l HW.out rfl _ _ h).mono ?_
  rintro e w1 ⟨rfl, hb1⟩
  have hw2 : Below w.heap.size w (w1.alloc (.cells #[.int .i64 p, .int .u64 q] 29)) := hb1.alloc hb1.size _
  have hg2 : (w1.alloc (.cells #[.int .i64 p, .int .u64 q] 29)).heap[w1.heap.size]? = some (.cells #[.int .i64 p, .int .u64 q] 29 (0, 0)) := heap_alloc_new _ _
  have hlt2 : w1.heap.size < (w1.alloc (.cells #[.int .i64 p, .int .u64 q] 29)).heap.size := by simp
  have hge : w.heap.size ≤ w1.heap.size := hb1.size
  clear hb1
  go_wp2_with fail
  generalize (w1.alloc (.cells #[.int .i64 p, .int .u64 q] 29)) = w2 at *
  generalize w1.heap.size = gs at *
  have Hg2 := Lib.hid hg2
  clear hg2
  go_loopw [7, 8] (fun bk i wr => ∃ (j : Nat) (r : List Int) (ab : Option Addr) (nb cb : Nat), j ≤ l.length ∧ i = .int .i64 ((j : Int) - 1) ∧ bk = .slice ab nb cb ∧ OwnW 29 wr (gs + 1) (.slice ab nb cb) r ∧ Hid (r = (l.drop j).reverse) ∧ Below (gs + 1) w2 wr ∧ gs + 1 ≤ wr.heap.size) (fun _ i _ => (intOf i + 1).toNat)
  case atStart => exact ⟨l.length, [], none, 0, 0, Nat.le_refl _, rfl, rfl, OwnW.empty _ _ _, (by simp [Hid]), Below.refl _ _, hlt2⟩
  case round =>
    rename_i wr
    obtain ⟨j, r, ab, nb, cb, hj, rfl, rfl, hown, Hr, hbr, hsz⟩ := hrel
    rcases j with _ | j
    · rw [show ((0 : Nat) : Int) - 1 = -1 from rfl]
      have hr : r = l.reverse := by rw [Hr.out, List.drop_zero]
      have hwr : Below w.heap.size w wr := hw2.trans (hbr.mono (by omega))
      have hWr : ∀ x ∈ r, isWide x = true := fun x hx => HW.out x (by rw [hr] at hx; exact List.mem_reverse.1 hx)
      have hSr : sumI r = sumI l := by rw [hr, sumI_rev]
      have sr := fun w v hv => ss r hWr hSr w v hv
      have hws := hown.ws
      have hgr : wr.heap[gs]? = some (.cells #[.int .i64 p, .int .u64 q] 29 (0, 0)) := (hbr.block _ (by omega)).trans Hg2.out
      have Hgr := Lib.hid hgr
      have hgslt : gs < wr.heap.size := by omega
      clear hr hWr hSr hown Hr hbr hsz hw2 hlt2 Hg2 hgr
      go_wp2_with fail
      refine (sr _ _ hws).mono ?_
      rintro e w3 ⟨rfl, hb3⟩
      have hw4 : Below w.heap.size w (w3.alloc (.cells #[.int .i64 p, .int .u64 q] 29)) := (hwr.next hb3).alloc (hwr.next hb3).size _
      have hg4 : (w3.alloc (.cells #[.int .i64 p, .int .u64 q] 29)).heap[gs]? = some (.cells #[.int .i64 p, .int .u64 q] 29 (0, 0)) :=
        (((Below.refl _ w3).alloc (Nat.le_refl _) _).block _ (Nat.lt_of_lt_of_le hgslt hb3.size)).trans ((hb3.block _ hgslt).trans Hgr.out)
      have hc0 : (w3.alloc (.cells #[.int .i64 p, .int .u64 q] 29)).cell? ⟨gs, 0, none⟩ = some (.int .i64 p) := by unfold World.cell?; rw [hg4]; rfl
      have hc1 : (w3.alloc (.cells #[.int .i64 p, .int .u64 q] 29)).cell? ⟨gs, 1, none⟩ = some (.int .u64 q) := by unfold World.cell?; rw [hg4]; rfl
      have hc2 : (w3.alloc (.cells #[.int .i64 p, .int .u64 q] 29)).cell? ⟨w3.heap.size, 0, none⟩ = some (.int .i64 p) := by rw [World.cell?_alloc_new]; rfl
      have hc3 : (w3.alloc (.cells #[.int .i64 p, .int .u64 q] 29)).cell? ⟨w3.heap.size, 1, none⟩ = some (.int .u64 q) := by rw [World.cell?_alloc_new]; rfl
      clear sr hws hb3 hwr
      go_wp2_with fail
      refine (sm _).mono ?_
      rintro e w5 ⟨rfl, hb5⟩
      have hw5 : Below w.heap.size w w5 := hw4.next hb5
      have hg5 : w5.heap[gs]? = some (.cells #[.int .i64 p, .int .u64 q] 29 (0, 0)) := (hb5.block _ (Array.getElem?_eq_some_iff.1 hg4).1).trans hg4
      have Hg5 := Lib.hid hg5
      obtain ⟨K, hK, hKl⟩ : ∃ K : Nat, (IntKind.u64.wrap at_).tmod ((l.length : Int) + 1) = (K : Int) ∧ K ≤ l.length := by
        rw [IntKind.wrap_u64, Int.tmod_eq_emod_of_nonneg (by omega)]
        have h1 := Int.emod_nonneg (at_ % 18446744073709551616) (show (l.length : Int) + 1 ≠ 0 by omega)
        have h2 := Int.emod_lt_of_pos (at_ % 18446744073709551616) (show 0 < (l.length : Int) + 1 by omega)
        exact ⟨((at_ % 18446744073709551616) % ((l.length : Int) + 1)).toNat, by omega, by omega⟩
      clear hc0 hc1 hc2 hc3 hg4 hg5 hb5 hw4
      obtain ⟨p1, q1, hpq1, _⟩ := wideV_form (wSum_wide (l.take K))
      obtain ⟨p2, q2, hpq2, _⟩ := wideV_form (wSum_wide (l.drop K))
      have s1 := fun w v hv => sum_same (l.take K) (l.take K) p1 q1 hpq1 (fun x hx => HW.out x (List.mem_of_mem_take hx)) rfl w v hv
      have s2 := fun w v hv => sum_same (l.drop K) (l.drop K) p2 q2 hpq2 (fun x hx => HW.out x (List.mem_of_mem_drop hx)) rfl w v hv
      obtain ⟨E1, hE1⟩ : ∃ E1, wSumE (l.take K) = E1 := ⟨_, rfl⟩
      obtain ⟨E2, hE2⟩ : ∃ E2, wSumE (l.drop K) = E2 := ⟨_, rfl⟩
      have hl5 := h.monoB hw5 (Nat.le_refl _)
      rw [hE1] at s1
      rw [hE2] at s2
      have HE1 := Lib.hid hE1
      have HE2 := Lib.hid hE2
      have Hpq1 := Lib.hid hpq1
      have Hpq2 := Lib.hid hpq2
      clear hE1 hE2 hpq1 hpq2
      have hcut := hl5.cut K l.length hKl (Nat.le_refl _)
      rw [List.take_of_length_le (by rw [List.length_drop]; omega)] at hcut
      have hE1 := wSumE_cases (l.take K)
      rw [HE1.out] at hE1
      have hE2 := wSumE_cases (l.drop K)
      rw [HE2.out] at hE2
      by_cases hck : cap = K
      · rw [if_pos hck, hck, Nat.sub_self, show l.length - K = 0 by omega] at hcut
        have hd := hcut
        clear hcut
        have hck' := hck.symm
        clear hck
        subst hck'
        go_wp2_with fail
        refine (s1 _ _ (hl5.take K hKl)).mono ?_
        rintro e w6 ⟨rfl, hb6⟩
        have hw6 : Below w.heap.size w (w6.alloc (.cells #[.int .i64 p1, .int .u64 q1] 29)) := (hw5.next hb6).alloc (hw5.next hb6).size _
        have ha6 : (w6.alloc (.cells #[.int .i64 p1, .int .u64 q1] 29)).heap[gs]? = some (.cells #[.int .i64 p, .int .u64 q] 29 (0, 0)) := hkeepA _ (hkeep hb6 Hg5.out)
        have hb6' : (w6.alloc (.cells #[.int .i64 p1, .int .u64 q1] 29)).heap[w6.heap.size]? = some (.cells #[.int .i64 p1, .int .u64 q1] 29 (0, 0)) := heap_alloc_new _ _
        have hd6 := (hd.mono hb6).alloc (.cells #[.int .i64 p1, .int .u64 q1] 29)
        have Ha6 := Lib.hid ha6
        have Hb6 := Lib.hid hb6'
        clear ha6 hb6' hb6 hd s1
        go_wp2_with fail
        generalize (w6.alloc (.cells #[.int .i64 p1, .int .u64 q1] 29)) = w7 at *
        generalize w6.heap.size = g1 at *
        refine (s2 _ _ hd6).mono ?_
        rintro e w8 ⟨rfl, hb8⟩
        have hw8 : Below w.heap.size w (w8.alloc (.cells #[.int .i64 p2, .int .u64 q2] 29)) := (hw6.next hb8).alloc (hw6.next hb8).size _
        have ha8 : (w8.alloc (.cells #[.int .i64 p2, .int .u64 q2] 29)).heap[gs]? = some (.cells #[.int .i64 p, .int .u64 q] 29 (0, 0)) := hkeepA _ (hkeep hb8 Ha6.out)
        have hc8 : (w8.alloc (.cells #[.int .i64 p2, .int .u64 q2] 29)).heap[g1]? = some (.cells #[.int .i64 p1, .int .u64 q1] 29 (0, 0)) := hkeepA _ (hkeep hb8 Hb6.out)
        have he8 : (w8.alloc (.cells #[.int .i64 p2, .int .u64 q2] 29)).heap[w8.heap.size]? = some (.cells #[.int .i64 p2, .int .u64 q2] 29 (0, 0)) := heap_alloc_new _ _
        have Ha8 := Lib.hid ha8
        have Hc8 := Lib.hid hc8
        have He8 := Lib.hid he8
        clear ha8 hc8 he8 hb8 s2 hd6
        rcases hE1 with rfl | rfl
        · rcases hE2 with rfl | rfl
          · go_upto_region 17 with fail
            have ⟨x0, x1⟩ := wcell Hc8.out
            have ⟨y0, y1⟩ := wcell He8.out
            generalize (w8.alloc (.cells #[.int .i64 p2, .int .u64 q2] 29)) = w9 at *
            generalize w8.heap.size = g2 at *
            have o1 := wSum_ok HE1.out
            have o2 := wSum_ok HE2.out
            have hq1 := Hpq1.out
            have hq2 := Hpq2.out
            rw [o1.1] at hq1
            rw [o2.1] at hq2
            have hS : sumI [sumI (l.take K), sumI (l.drop K)] = sumI l := by
              have := sumI_append (l.take K) (l.drop K)
              rw [List.take_append_drop] at this
              simp [sumI, this]
            have su := fun w => ss _ (fun x hx => by
              simp only [List.mem_cons, List.not_mem_nil, or_false] at hx
              rcases hx with rfl | rfl
              · exact o1.2
              · exact o2.2) hS _ _ (Ws.lit2 (w := w) rfl _ _ p1 q1 p2 q2 hq1 hq2 29)
            clear hq1 hq2 o1 o2 hS
            go_wp2_with fail
            refine (su _).mono ?_
            rintro e w10 ⟨rfl, hb10⟩
            have hb11 := hb10.un
            have hw11 : Below w.heap.size w (w10.alloc (.cells #[.int .i64 p, .int .u64 q] 29)) := (hw8.next hb11).alloc (hw8.next hb11).size _
            have ⟨z0, z1⟩ := wcell (hkeepA (.cells #[.int .i64 p, .int .u64 q] 29) (hkeep hb11 Ha8.out))
            have ⟨v0, v1⟩ := wcell (heap_alloc_new w10 (.cells #[.int .i64 p, .int .u64 q] 29))
            clear hb10 hb11 su x0 x1 y0 y1
            go_wp2_with fail
            refine (sm _).mono ?_
            rintro e w12 ⟨rfl, hb12⟩
            go_wp2_with fail
            refine (wakes_any _).mono ?_
            rintro e w13 ⟨rfl, hb13⟩
            go_wp2_with fail
            go_ret
            exact ⟨rfl, (hw11.next hb12).next hb13⟩
          · go_wp2_with fail
            refine (wakes_any _).mono ?_
            rintro e w13 ⟨rfl, hb13⟩
            go_wp2_with fail
            go_ret
            exact ⟨rfl, hw8.next hb13⟩
        · go_wp2_with fail
          refine (wakes_any _).mono ?_
          rintro e w13 ⟨rfl, hb13⟩
          go_wp2_with fail
          go_ret
          exact ⟨rfl, hw8.next hb13⟩
      · rw [if_neg hck] at hcut
        have hd := hcut
        clear hcut
        go_wp2_with fail
        refine (s1 _ _ (hl5.take K hKl)).mono ?_
        rintro e w6 ⟨rfl, hb6⟩
        have hw6 : Below w.heap.size w (w6.alloc (.cells #[.int .i64 p1, .int .u64 q1] 29)) := (hw5.next hb6).alloc (hw5.next hb6).size _
        have ha6 : (w6.alloc (.cells #[.int .i64 p1, .int .u64 q1] 29)).heap[gs]? = some (.cells #[.int .i64 p, .int .u64 q] 29 (0, 0)) := hkeepA _ (hkeep hb6 Hg5.out)
        have hb6' : (w6.alloc (.cells #[.int .i64 p1, .int .u64 q1] 29)).heap[w6.heap.size]? = some (.cells #[.int .i64 p1, .int .u64 q1] 29 (0, 0)) := heap_alloc_new _ _
        have hd6 := (hd.mono hb6).alloc (.cells #[.int .i64 p1, .int .u64 q1] 29)
        have Ha6 := Lib.hid ha6
        have Hb6 := Lib.hid hb6'
        clear ha6 hb6' hb6 hd s1
        go_wp2_with fail
        generalize (w6.alloc (.cells #[.int .i64 p1, .int .u64 q1] 29)) = w7 at *
        generalize w6.heap.size = g1 at *
        refine (s2 _ _ hd6).mono ?_
        rintro e w8 ⟨rfl, hb8⟩
        have hw8 : Below w.heap.size w (w8.alloc (.cells #[.int .i64 p2, .int .u64 q2] 29)) := (hw6.next hb8).alloc (hw6.next hb8).size _
        have ha8 : (w8.alloc (.cells #[.int .i64 p2, .int .u64 q2] 29)).heap[gs]? = some (.cells #[.int .i64 p, .int .u64 q] 29 (0, 0)) := hkeepA _ (hkeep hb8 Ha6.out)
        have hc8 : (w8.alloc (.cells #[.int .i64 p2, .int .u64 q2] 29)).heap[g1]? = some (.cells #[.int .i64 p1, .int .u64 q1] 29 (0, 0)) := hkeepA _ (hkeep hb8 Hb6.out)
        have he8 : (w8.alloc (.cells #[.int .i64 p2, .int .u64 q2] 29)).heap[w8.heap.size]? = some (.cells #[.int .i64 p2, .int .u64 q2] 29 (0, 0)) := heap_alloc_new _ _
        have Ha8 := Lib.hid ha8
        have Hc8 := Lib.hid hc8
        have He8 := Lib.hid he8
        clear ha8 hc8 he8 hb8 s2 hd6
        rcases hE1 with rfl | rfl
        · rcases hE2 with rfl | rfl
          · go_upto_region 17 with fail
            have ⟨x0, x1⟩ := wcell Hc8.out
            have ⟨y0, y1⟩ := wcell He8.out
            generalize (w8.alloc (.cells #[.int .i64 p2, .int .u64 q2] 29)) = w9 at *
            generalize w8.heap.size = g2 at *
            have o1 := wSum_ok HE1.out
            have o2 := wSum_ok HE2.out
            have hq1 := Hpq1.out
            have hq2 := Hpq2.out
            rw [o1.1] at hq1
            rw [o2.1] at hq2
            have hS : sumI [sumI (l.take K), sumI (l.drop K)] = sumI l := by
              have := sumI_append (l.take K) (l.drop K)
              rw [List.take_append_drop] at this
              simp [sumI, this]
            have su := fun w => ss _ (fun x hx => by
              simp only [List.mem_cons, List.not_mem_nil, or_false] at hx
              rcases hx with rfl | rfl
              · exact o1.2
              · exact o2.2) hS _ _ (Ws.lit2 (w := w) rfl _ _ p1 q1 p2 q2 hq1 hq2 29)
            clear hq1 hq2 o1 o2 hS
            go_wp2_with fail
            refine (su _).mono ?_
            rintro e w10 ⟨rfl, hb10⟩
            have hb11 := hb10.un
            have hw11 : Below w.heap.size w (w10.alloc (.cells #[.int .i64 p, .int .u64 q] 29)) := (hw8.next hb11).alloc (hw8.next hb11).size _
            have ⟨z0, z1⟩ := wcell (hkeepA (.cells #[.int .i64 p, .int .u64 q] 29) (hkeep hb11 Ha8.out))
            have ⟨v0, v1⟩ := wcell (heap_alloc_new w10 (.cells #[.int .i64 p, .int .u64 q] 29))
            clear hb10 hb11 su x0 x1 y0 y1
            go_wp2_with fail
            refine (sm _).mono ?_
            rintro e w12 ⟨rfl, hb12⟩
            go_wp2_with fail
            refine (wakes_any _).mono ?_
            rintro e w13 ⟨rfl, hb13⟩
            go_wp2_with fail
            go_ret
            exact ⟨rfl, (hw11.next hb12).next hb13⟩
          · go_wp2_with fail
            refine (wakes_any _).mono ?_
            rintro e w13 ⟨rfl, hb13⟩
            go_wp2_with fail
            go_ret
            exact ⟨rfl, hw8.next hb13⟩
        · go_wp2_with fail
          refine (wakes_any _).mono ?_
          rintro e w13 ⟨rfl, hb13⟩
          go_wp2_with fail
          go_ret
          exact ⟨rfl, hw8.next hb13⟩
    · have ej : ((j + 1 : Nat) : Int) - 1 = (j : Int) := by omega
      rw [ej]
      clear ej
      have hrl : r.length ≤ 2000 := by rw [Hr.out]; simp; omega
      have hbel : Below w.heap.size w wr := hw2.trans (hbr.mono (by omega))
      obtain ⟨blk, off, rfl, _, hc⟩ := (h.monoB hbel (Nat.le_refl _)).at (by omega)
      obtain ⟨hc0, hc1⟩ := hc j (by omega)
      clear hc
      obtain ⟨n, hn⟩ : ∃ n, n = l[j] := ⟨_, rfl⟩
      have wn := IsW.of (HW.out _ (List.getElem_mem (show j < l.length by omega)))
      rw [← hn] at hc0 hc1 wn
      obtain ⟨x, hx⟩ : ∃ x, x = wHi n := ⟨_, rfl⟩
      obtain ⟨y, hy⟩ : ∃ y, y = wLo n := ⟨_, rfl⟩
      rw [← hx] at hc0 wn
      rw [← hy] at hc1 wn
      have Wn := Lib.hid wn
      have Hn := Lib.hid hn
      clear hn hx hy wn
      have hone : Ws (wr.alloc (.cells #[.int .i64 x, .int .u64 y] 29)) (.slice (some ⟨wr.heap.size, 0, none⟩) 1 1) [n] := Ws.lit1 rfl n x y Wn.out _
      go_wp2_with (first | (at_builtin; refine wpList_append_wides rfl (.tmp 32) (.tmp 37) 41 rfl (m := [n]) elem_wide rfl rfl (OwnW.alloc hown _) hone (by simp; omega) (by simp; omega) ?_; intro a' n' c' w' Hn' hown' hb' hg'))
      go_roundw
      case rel =>
        have hb0 : Below (gs + 1) w2 (wr.alloc (.cells #[.int .i64 x, .int .u64 y] 29)) := hbr.alloc hsz _
        refine ⟨j, r ++ [n], _, _, _, by omega, by go_num, rfl, hown', ?_, hb0.trans hb', ?_⟩
        · show _ = _
          rw [Hr.out, Hn.out, List.drop_eq_getElem_cons (i := j) (by omega), List.reverse_cons]
        · have := hb'.size
          simp at this
          omega
      case measure => simp [intOf]

end Cam
