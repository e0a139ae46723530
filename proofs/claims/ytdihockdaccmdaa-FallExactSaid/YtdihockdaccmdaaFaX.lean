import Derived.Test.YtdihockdaccmdaaNumRf2
import Derived.Test.YtdihockdaccmdaaFaS
import Derived.Test.YtdihockdaccmdaaDkM
import Derived.Deep.QuietTactic
import Derived.BigQuiet
/- what FallExact reaches beside: twins, comparisons, the page's fall. -/
namespace Cam
open Go Go.RowKit Go.Proofs

def RetI (w : World) (l : List Int) (e : Ending) (w' : World) : Prop := ∃ v, e = .returned v ∧ OwnI 3 w' w.heap.size v l ∧ Below w.heap.size w w'
set_option maxHeartbeats 400000 in
theorem TwinI_any (w : World) (v : Value) (l : List Int) (h : Is w v l) (hl : l.length ≤ 1000000) :
    Calls Try.prog 11 #[v] w (RetI w l) := by
  obtain ⟨a, cap, rfl, hcap, hm⟩ := h.shape
  go_enter Try.func11, Try.ntmps11
  go_wp2_with (at_builtin; refine wpList_append_ints rfl (.tmp 4) (.tmp 5) 28 rfl (l := []) (m := l) elem_int rfl rfl (OwnI.empty _ _ w.heap.size) h (by simp; omega) (Nat.le_refl _) ?_; intro a2 n2 cap2 w2 Hn2 hown2 hb2 hg2)
  go_ret
  exact ⟨_, rfl, hown2, hb2⟩

set_option maxHeartbeats 400000 in
theorem Ints_any (w : World) (va vb : Value) (la lb : List Int) (ha : Is w va la) (hb : Is w vb lb) :
    Calls Try.prog 14 #[va, vb] w fun e w' => e = .returned (.bool (decide (la = lb))) ∧ Below w.heap.size w w' := by
  obtain ⟨aa, capa, rfl, hcapa, hma⟩ := ha.shape
  obtain ⟨ab, capb, rfl, hcapb, hmb⟩ := hb.shape
  by_cases hl : la.length = lb.length
  · have hl' : ((la.length : Int) != (lb.length : Int)) = false := by rw [hl]; simp
    have Hl := Lib.hid hl
    have hlle : la.length ≤ lb.length := by omega
    clear hl
    go_enter Try.func14, Try.ntmps14
    go_wp2
    go_loopw [5] (fun i wr => ∃ k : Nat, k ≤ la.length ∧ i = .int .i64 k ∧ Hid (la.take k = lb.take k) ∧ Below w.heap.size w wr) (fun i _ => la.length - (intOf i).toNat)
    case atStart => exact ⟨0, Nat.zero_le _, rfl, rfl, Below.refl _ _⟩
    case round =>
      obtain ⟨k, hk, rfl, Heq, hbel⟩ := hrel
      by_cases hlt : k < la.length
      · obtain ⟨ba, offa, rfl, _, hca⟩ := (ha.mono hbel).at (by omega)
        obtain ⟨bb, offb, rfl, _, hcb⟩ := (hb.mono hbel).at (by omega)
        have hcka := hca k hlt
        have hckb := hcb k (by omega)
        clear hca hcb
        obtain ⟨x, hx⟩ : ∃ x, x = la[k] := ⟨_, rfl⟩
        obtain ⟨y, hy⟩ : ∃ y, y = lb[k] := ⟨_, rfl⟩
        rw [← hx] at hcka
        rw [← hy] at hckb
        have HX := Lib.hid hx
        have HY := Lib.hid hy
        clear hx hy
        have hk0 : (0 : Int) ≤ k := by omega
        have hk1 : (k : Int) < la.length := by omega
        have hk2 : (k : Int) < lb.length := by omega
        go_wp2
        go_quiet (fail)
        have hbq := below_drewN' hbel nq
        by_cases hne : x = y
        · subst hne
          go_wp2
          go_roundw
          case rel => exact ⟨k + 1, by omega, by go_num, by show _ = _; rw [take_snoc _ _ hlt, take_snoc _ _ (by omega), Heq.out, ← HX.out, ← HY.out], hbq⟩
          case measure => simp [intOf]; omega
        · have hne' : (x != y) = true := by rw [bne_iff_ne]; exact hne
          have Hne : Hid (la ≠ lb) := by
            show _ ≠ _
            intro e
            subst e
            exact hne (HX.out.trans HY.out.symm)
          go_wp2
          go_ret
          exact ⟨by rw [decide_eq_false Hne.out]; rfl, hbq⟩
      · have hall : la = lb := by
          have := Heq.out
          rwa [List.take_of_length_le (by omega), List.take_of_length_le (by rw [← Hl.out]; omega)] at this
        have Hall := Lib.hid hall
        clear hall
        go_wp2
        go_ret
        exact ⟨by rw [decide_eq_true Hall.out]; rfl, hbel⟩
  · have hl' : ((la.length : Int) != (lb.length : Int)) = true := by rw [bne_iff_ne]; omega
    have hne : la ≠ lb := fun e => hl (by rw [e])
    go_enter Try.func14, Try.ntmps14
    go_wp2
    go_ret
    exact ⟨by rw [decide_eq_false hne]; rfl, Below.refl _ _⟩

/-- a fall in a block -/
def FB (w : World) (g : Nat) (f : FT) : Prop := w.heap[g]? = some (.cells f.vs.toArray 24 (0, 0))
theorem FB.lt {w : World} {g : Nat} {f : FT} (h : FB w g f) : g < w.heap.size := (Array.getElem?_eq_some_iff.1 h).1
theorem FB.below {w w' : World} {g B : Nat} {f : FT} (h : FB w g f) (hb : Below B w w') (hg : g < B) : FB w' g f := (hb.block _ hg).trans h
theorem FB.cell {w : World} {g : Nat} {f : FT} (h : FB w g f) (j : Nat) (u : Value) (hu : f.vs[j]? = some u) : w.cell? ⟨g, j, none⟩ = some u := by
  have h' : w.heap[g]? = _ := h
  unfold World.cell?
  rw [h']
  simpa using hu
theorem FB.q {w : World} {g : Nat} {f : FT} (h : FB w g f) (k : Nat) (hk : k < 5) : w.cell? ⟨g, 2 + k, none⟩ = some (.int .i64 (f.ps.getD k 0)) := by
  match k, hk with
  | 0, _ => exact h.cell 2 _ rfl
  | 1, _ => exact h.cell 3 _ rfl
  | 2, _ => exact h.cell 4 _ rfl
  | 3, _ => exact h.cell 5 _ rfl
  | 4, _ => exact h.cell 6 _ rfl
def fEq (f g : FT) : Bool := decide (f.ps = g.ps ∧ f.cur = g.cur ∧ f.loss = g.loss ∧ f.r = g.r)
theorem fEq_refl (f : FT) : fEq f f = true := by simp [fEq]
theorem ps_eq {f g : FT} (h : ∀ k, k < 5 → f.ps.getD k 0 = g.ps.getD k 0) : f.ps = g.ps := by
  have h0 := h 0 (by omega)
  have h1 := h 1 (by omega)
  have h2 := h 2 (by omega)
  have h3 := h 3 (by omega)
  have h4 := h 4 (by omega)
  simp [FT.ps] at h0 h1 h2 h3 h4 ⊢
  exact ⟨h0, h1, h2, h3, h4⟩

set_option maxHeartbeats 800000 in
theorem keepFall_any (w : World) (f g : FT) :
    Calls Try.prog 13 #[.agg f.vs.toArray, .agg g.vs.toArray] w fun e w' => e = .returned (.bool (fEq f g)) ∧ Below w.heap.size w w' := by
  have hf : FB ((w.alloc (.cells f.vs.toArray 24)).alloc (.cells g.vs.toArray 24)) w.heap.size f := (Below.heap_alloc _ _ _ (by simp)).trans (heap_alloc_new w _)
  have hg : FB ((w.alloc (.cells f.vs.toArray 24)).alloc (.cells g.vs.toArray 24)) (w.heap.size + 1) g := by
    have := heap_alloc_new (w.alloc (.cells f.vs.toArray 24)) (.cells g.vs.toArray 24)
    simpa [FB] using this
  have hb : Below w.heap.size w ((w.alloc (.cells f.vs.toArray 24)).alloc (.cells g.vs.toArray 24)) := ((Below.refl _ _).alloc (Nat.le_refl _) _).alloc (by simp) _
  unfold FT.vs
  go_enter Try.func13, Try.ntmps13
  go_wp2
  change Code.wp _ _ _ _ ((w.alloc (.cells f.vs.toArray 24)).alloc (.cells g.vs.toArray 24))
  generalize (w.alloc (.cells f.vs.toArray 24)).alloc (.cells g.vs.toArray 24) = W at *
  go_loopw [5] (fun i wr => ∃ k : Nat, k ≤ 5 ∧ i = .int .i64 k ∧ FB wr w.heap.size f ∧ FB wr (w.heap.size + 1) g ∧ Hid (∀ j, j < k → f.ps.getD j 0 = g.ps.getD j 0) ∧ Below w.heap.size w wr) (fun i _ => 5 - (intOf i).toNat)
  case atStart => exact ⟨0, by omega, rfl, hf, hg, fun j hj => by omega, hb⟩
  case round =>
    obtain ⟨k, hk, rfl, hfr, hgr, HE, hbel⟩ := hrel
    clear hf hg hb
    by_cases hlt : k < 5
    · have hx := hfr.q k hlt
      have hy := hgr.q k hlt
      obtain ⟨x, hxx⟩ : ∃ x, x = f.ps.getD k 0 := ⟨_, rfl⟩
      obtain ⟨y, hyy⟩ : ∃ y, y = g.ps.getD k 0 := ⟨_, rfl⟩
      rw [← hxx] at hx
      rw [← hyy] at hy
      have HX := Lib.hid hxx
      have HY := Lib.hid hyy
      clear hxx hyy
      go_wp2_with fail
      go_quiet (fail)
      have hbq := below_drewN' hbel nq
      by_cases hne : x = y
      · subst hne
        have HE2 : Hid (∀ j, j < k + 1 → f.ps.getD j 0 = g.ps.getD j 0) := by
          show ∀ j, _
          intro j hj
          by_cases hjk : j = k
          · subst hjk
            rw [← HX.out, ← HY.out]
          · exact HE.out j (by omega)
        go_wp2_with fail
        exact ⟨⟨k + 1, by omega, by push_cast; rfl, hfr, hgr, HE2, hbq⟩, by simp [intOf]; omega⟩
      · have hne' : (x != y) = true := by rw [bne_iff_ne]; exact hne
        have H : Hid (fEq f g = false) := by
          show _ = _
          unfold fEq
          apply decide_eq_false
          rintro ⟨e, _⟩
          apply hne
          rw [HX.out, HY.out, e]
        go_wp2_with fail
        go_ret
        exact ⟨by rw [H.out]; rfl, hbq⟩
    · have hps := ps_eq (f := f) (g := g) (fun j hj => HE.out j (by omega))
      have HPS := Lib.hid hps
      have f0 := hfr.cell 0 _ rfl
      have f1 := hfr.cell 1 _ rfl
      have f7 := hfr.cell 7 _ rfl
      have g0 := hgr.cell 0 _ rfl
      have g1 := hgr.cell 1 _ rfl
      have g7 := hgr.cell 7 _ rfl
      clear hps hfr hgr
      obtain ⟨fc, hfc⟩ : ∃ x, x = f.cur := ⟨_, rfl⟩
      obtain ⟨fl, hfl⟩ : ∃ x, x = f.loss := ⟨_, rfl⟩
      obtain ⟨fr, hfr⟩ : ∃ x, x = f.r := ⟨_, rfl⟩
      obtain ⟨gc, hgc⟩ : ∃ x, x = g.cur := ⟨_, rfl⟩
      obtain ⟨gl, hgl⟩ : ∃ x, x = g.loss := ⟨_, rfl⟩
      obtain ⟨gr, hgr⟩ : ∃ x, x = g.r := ⟨_, rfl⟩
      have HF : Hid (fEq f g = decide (fc = gc ∧ fl = gl ∧ fr = gr)) := by
        show _ = _
        unfold fEq
        rw [hfc, hfl, hfr, hgc, hgl, hgr]
        simp [HPS.out]
      rw [← hfc] at f0
      rw [← hfl] at f1
      rw [← hfr] at f7
      rw [← hgc] at g0
      rw [← hgl] at g1
      rw [← hgr] at g7
      clear hfc hfl hfr hgc hgl hgr
      by_cases e0 : fc = gc
      · subst e0
        by_cases e1 : fl = gl
        · subst e1
          by_cases e2 : fr = gr
          · subst e2
            go_wp2_with fail
            go_ret
            exact ⟨by rw [HF.out]; simp, hbel⟩
          · have e2' : (fr == gr) = false := by simpa using e2
            go_wp2_with fail
            go_ret
            exact ⟨by rw [HF.out]; simp [e2], hbel⟩
        · have e1' : (fl == gl) = false := by simpa using e1
          go_wp2_with fail
          go_ret
          exact ⟨by rw [HF.out]; simp [e1], hbel⟩
      · have e0' : (fc == gc) = false := by simpa using e0
        go_wp2_with fail
        go_ret
        exact ⟨by rw [HF.out]; simp [e0], hbel⟩

theorem within19_any (w : World) (n lo hi : Int) : Calls Try.prog 19 #[.int .i64 n, .int .i64 lo, .int .i64 hi] w fun e w' => e = .returned (.bool (decide (lo ≤ n ∧ n ≤ hi))) ∧ w = w' := by
  by_cases h1 : lo ≤ n
  · by_cases h2 : n ≤ hi
    · go_enter Try.func19, Try.ntmps19
      go_wp2_with fail
      go_ret
      exact ⟨by rw [decide_eq_true ⟨h1, h2⟩]; rfl, rfl⟩
    · have h2' : decide (n ≤ hi) = false := by simpa using h2
      go_enter Try.func19, Try.ntmps19
      go_wp2_with fail
      go_ret
      exact ⟨rfl, rfl⟩
  · have h1' : decide (lo ≤ n) = false := by simpa using h1
    go_enter Try.func19, Try.ntmps19
    go_wp2_with fail
    go_ret
    exact ⟨rfl, rfl⟩
theorem within11_any (w : World) (n lo hi : Int) : Calls Try.prog 25 #[.int .i64 n, .int .i64 lo, .int .i64 hi] w fun e w' => e = .returned (.bool (decide (lo ≤ n ∧ n ≤ hi))) ∧ w = w' := by
  by_cases h1 : lo ≤ n
  · by_cases h2 : n ≤ hi
    · go_enter Try.func25, Try.ntmps25
      go_wp2_with fail
      go_ret
      exact ⟨by rw [decide_eq_true ⟨h1, h2⟩]; rfl, rfl⟩
    · have h2' : decide (n ≤ hi) = false := by simpa using h2
      go_enter Try.func25, Try.ntmps25
      go_wp2_with fail
      go_ret
      exact ⟨rfl, rfl⟩
  · have h1' : decide (lo ≤ n) = false := by simpa using h1
    go_enter Try.func25, Try.ntmps25
    go_wp2_with fail
    go_ret
    exact ⟨rfl, rfl⟩
theorem Cur_any (w : World) (n : Int) : Calls Try.prog 18 #[.int .i64 n] w fun e w' => e = .returned (.bool (decide (0 ≤ n ∧ n ≤ 2))) ∧ w = w' := by
  have h := within11_any w n 0 2
  generalize decide (0 ≤ n ∧ n ≤ 2) = z at *
  go_enter Try.func18, Try.ntmps18
  go_wp2_with fail
  refine h.mono ?_
  rintro e w1 ⟨rfl, rfl⟩
  go_wp2_with fail
  go_ret
  exact ⟨rfl, rfl⟩

set_option maxHeartbeats 800000 in
theorem rGreedy_no (w : World) (t : Int) (v : Value) (l : List Int) (h : Is w v l) (ht : 0 ≤ t ∧ t ≤ 4611686018427387904) (he : rightE t l = 3) :
    Calls Try.prog 20 #[.int .i64 t, v] w fun e w' => e = .returned (.tuple #[.slice none 0 0, .int .i64 0, .int .i64 3]) ∧ w = w' := by
  obtain ⟨a, cap, rfl, hcap, hm⟩ := h.shape
  have hd : decide (t < 0) = false := by simp; omega
  have hr := rRight_any w t
  rw [(rightB_iff t).2 (by omega)] at hr
  have ha := All_any w _ l h
  have HC : Hid (¬ capsOk l = true) := by
    show ¬ _
    intro hc
    unfold rightE at he
    rw [if_pos ⟨ht, hc⟩] at he
    split at he <;> omega
  clear he
  cases hb : allRight l with
  | false =>
    rw [hb] at ha
    clear hb
    go_enter Try.func20, Try.ntmps20
    go_wp2_with (first | (go_at_call 26; refine hr.mono ?_; rintro e w1 ⟨rfl, rfl⟩) | (go_at_call 27; refine ha.mono ?_; rintro e w1 ⟨rfl, rfl⟩) | fail)
    refine bodyPost_ret (v := .tuple #[.slice none 0 0, .int .i64 0, .int .i64 3]) (by simp [results, Try.results20, go_sem]) rfl ?_
    exact ⟨rfl, rfl⟩
  | true =>
    rw [hb] at ha
    have HB := Lib.hid ((allRight_iff l).1 hb)
    clear hb
    go_enter Try.func20, Try.ntmps20
    go_wp2_with (first | (go_at_call 26; refine hr.mono ?_; rintro e w1 ⟨rfl, rfl⟩) | (go_at_call 27; refine ha.mono ?_; rintro e w1 ⟨rfl, rfl⟩) | fail)
    clear hr ha
    go_loop [7] (fun i => ∃ k : Nat, k ≤ l.length ∧ i = .int .i64 k ∧ Hid (∀ n ∈ l.take k, 0 ≤ n)) (fun i => l.length - (intOf i).toNat)
    case atStart => exact ⟨0, Nat.zero_le _, rfl, by show ∀ n ∈ l.take 0, 0 ≤ n; simp⟩
    case round =>
      obtain ⟨k, hk, rfl, Hall⟩ := hrel
      by_cases hlt : k < l.length
      · obtain ⟨b, off, rfl, _, hc⟩ := h.at (by omega)
        have hck := hc k hlt
        clear hc
        obtain ⟨n, hn⟩ : ∃ n, n = l[k] := ⟨_, rfl⟩
        rw [← hn] at hck
        have Hn := Lib.hid hn
        clear hn
        by_cases hneg : n < 0
        · go_wp2_with fail
          refine bodyPost_ret (v := .tuple #[.slice none 0 0, .int .i64 0, .int .i64 3]) (by simp [results, Try.results20, go_sem]) rfl ?_
          exact ⟨rfl, rfl⟩
        · have hneg' : decide (n < 0) = false := by simp; omega
          have H2 : Hid (∀ x ∈ l.take (k + 1), 0 ≤ x) := by
            show ∀ x ∈ _, _
            rw [take_snoc _ _ hlt]
            intro x hx
            rcases List.mem_append.1 hx with hx | hx
            · exact Hall.out x hx
            · simp at hx
              rw [hx, ← Hn.out]
              omega
          go_wp2_with fail
          exact ⟨⟨k + 1, by omega, by push_cast; rfl, H2⟩, by simp [intOf]; omega⟩
      · exfalso
        apply HC.out
        rw [capsOk_iff]
        intro n hn
        have h1 := Hall.out n (by rw [List.take_of_length_le (by omega)]; exact hn)
        have h2 := HB.out n hn
        omega

set_option maxHeartbeats 1600000 in
theorem rGreedy_ok (w : World) (t : Int) (v : Value) (l : List Int) (h : Is w v l) (he : rightE t l = 0) :
    Calls Try.prog 20 #[.int .i64 t, v] w (GreedyPost w t l) := by
  obtain ⟨a, cap, rfl, hcap, hm⟩ := h.shape
  obtain ⟨ht, hl, hlen⟩ := rightE_zero t l he
  have hd : decide (t < 0) = false := by simp; omega
  have hr := rRight_any w t
  rw [(rightB_iff t).2 (by omega)] at hr
  have ha := All_any w _ l h
  rw [(allRight_iff l).2 (fun n hn => by have := hl n hn; omega)] at ha
  have hd2 : decide ((1024 : Int) < (l.length : Int)) = false := by simp; omega
  have Hl := Lib.hid hl
  clear he hl
  go_enter Try.func20, Try.ntmps20
  go_wp2_with (first | (go_at_call 26; refine hr.mono ?_; rintro e w1 ⟨rfl, rfl⟩) | (go_at_call 27; refine ha.mono ?_; rintro e w1 ⟨rfl, rfl⟩) | fail)
  clear hr ha
  go_loop [7] (fun i => ∃ k : Nat, k ≤ l.length ∧ i = .int .i64 k) (fun i => l.length - (intOf i).toNat)
  case atStart => exact ⟨0, Nat.zero_le _, rfl⟩
  case round =>
    obtain ⟨k, hk, rfl⟩ := hrel
    by_cases hlt : k < l.length
    · obtain ⟨b, off, rfl, _, hc⟩ := h.at (by omega)
      have hck := hc k hlt
      clear hc
      obtain ⟨n, hn⟩ : ∃ n, n = l[k] := ⟨_, rfl⟩
      have hnb : 0 ≤ n := by rw [hn]; exact (Hl.out _ (List.getElem_mem _)).1
      rw [← hn] at hck
      have hneg' : decide (n < 0) = false := by simp; omega
      clear hn
      go_wp2_with fail
      exact ⟨⟨k + 1, by omega, by push_cast; rfl⟩, by simp [intOf]; omega⟩
    · go_wp2_with fail
      go_loopw [0, 8, 9] (fun t' s i wr => ∃ (k : Nat) (r : List Int) (n : Int) (sa : Option Addr) (sn sc : Nat), k ≤ l.length ∧ i = .int .i64 k ∧ t' = .int .i64 n ∧ s = .slice sa sn sc ∧ OwnI 3 wr w.heap.size (.slice sa sn sc) r ∧ Below w.heap.size w wr ∧ r.length ≤ k ∧ (0 ≤ n ∧ n ≤ 4611686018427387904) ∧ Hid (r = greedyP t (l.take k)) ∧ Hid (n = greedyR t (l.take k))) (fun _ _ i _ => l.length - (intOf i).toNat)
      case atStart => exact ⟨0, [], t, none, 0, 0, Nat.zero_le _, rfl, rfl, rfl, OwnI.empty _ _ _, Below.refl _ _, by simp, ht, rfl, rfl⟩
      case round =>
        obtain ⟨k, r, n, sa, sn, sc, hk, rfl, rfl, rfl, hown, hb, hrk, hn0, Hr, Hn⟩ := hrel
        by_cases hlt : k < l.length
        · obtain ⟨b, off, rfl, _, hc⟩ := (h.monoB hb (Nat.le_refl _)).at (by omega)
          have hck := hc k hlt
          clear hc
          obtain ⟨c, hcc⟩ : ∃ c, c = l[k] := ⟨_, rfl⟩
          rw [← hcc] at hck
          have hcb : 0 ≤ c ∧ c ≤ 4611686018427387904 := by rw [hcc]; exact Hl.out _ (List.getElem_mem _)
          have e1 : greedyP t (l.take (k + 1)) = r ++ [min c n] := by rw [take_snoc _ _ hlt, greedyP_snoc, ← Hr.out, ← Hn.out, hcc]
          have e2 : greedyR t (l.take (k + 1)) = n - min c n := by rw [take_snoc _ _ hlt, greedyR_snoc, ← Hn.out, hcc]
          have E1 := Lib.hid e1
          have E2 := Lib.hid e2
          have hszb := hb.size
          clear hcc e1 e2
          by_cases hmn : c < n
          · have em : Hid (min c n = c) := by show _ = _; omega
            go_wp2_with (first | (at_builtin; refine wpList_append_ints rfl (.tmp 49) (.tmp 51) 28 rfl (m := [c]) elem_int rfl rfl (OwnI.alloc hown _) (Is.lit1' rfl c _) (by simp; omega) (by simp; omega) ?_; intro a' n' c' w' Hn' hown' hb' hg') | fail)
            exact ⟨⟨k + 1, r ++ [c], n - c, a', n', c', by omega, by push_cast; rfl, rfl, rfl, hown', (hb.alloc hszb _).trans hb', by simp; omega, by omega, by show _ = _; rw [E1.out, em.out], by show _ = _; rw [E2.out, em.out]⟩, by simp [intOf]; omega⟩
          · have hmn' : decide (c < n) = false := by simp; omega
            have em : Hid (min c n = n) := by show _ = _; omega
            have ew : wrap64 (n - n) = 0 := by unfold wrap64; omega
            go_wp2_with (first | (at_builtin; refine wpList_append_ints rfl (.tmp 49) (.tmp 51) 28 rfl (m := [n]) elem_int rfl rfl (OwnI.alloc hown _) (Is.lit1' rfl n _) (by simp; omega) (by simp; omega) ?_; intro a' n' c' w' Hn' hown' hb' hg') | fail)
            exact ⟨⟨k + 1, r ++ [n], 0, a', n', c', by omega, by push_cast; rfl, rfl, rfl, hown', (hb.alloc hszb _).trans hb', by simp; omega, by omega, by show _ = _; rw [E1.out, em.out], by show _ = _; rw [E2.out, em.out]; omega⟩, by simp [intOf]; omega⟩
        · have er : r = greedyP t l := by rw [Hr.out, List.take_of_length_le (by omega)]
          have en : n = greedyR t l := by rw [Hn.out, List.take_of_length_le (by omega)]
          have ER := Lib.hid er
          have EN := Lib.hid en
          clear er en
          go_wp2_with fail
          refine bodyPost_ret (v := .tuple #[.slice sa sn sc, .int .i64 n, .int .i64 0]) (by simp [results, Try.results20, go_sem]) rfl ?_
          exact ⟨_, by rw [← EN.out], by rw [← ER.out]; exact hown, hb⟩

end Cam
