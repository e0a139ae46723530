import Derived.Test.YtilbijekmmkiaaaRlT
/- roll: Those. -/
namespace Cam
open Go Go.RowKit Go.Proofs

theorem elem_int : Elem Try.prog 27 3 1 8 := Elem.mk' (z := .int .i64 0) Try.underlying27 (by kernel_rfl) rfl (by decide)
def IxPost (w : World) (l : List Int) (x : Int) (e : Ending) (w' : World) : Prop := ∃ i : Int, e = .returned (.int .i64 i) ∧ (0 ≤ i ↔ x ∈ l) ∧ w = w'
set_option maxHeartbeats 800000 in
theorem Index_any (w : World) (v : Value) (l : List Int) (x : Int) (h : Is w v l) : Calls Try.prog 72 #[v, .int .i64 x] w (IxPost w l x) := by
  obtain ⟨av, cap, rfl, hcap, hm⟩ := h.shape
  obtain ⟨n, hn⟩ : ∃ n, n = l.length := ⟨_, rfl⟩
  rw [← hn] at h hcap ⊢
  have HR := Lib.hid h
  have HN := Lib.hid hn
  clear h hn
  go_enter Try.func72, Try.ntmps72
  go_wp2_with fail
  go_loop [8] (fun v8 => ∃ k : Nat, k ≤ n ∧ v8 = .int .i64 k ∧ Hid (∀ q (h : q < l.length), q < k → l[q] ≠ x)) (fun v8 => n - (intOf v8).toNat)
  case atStart => exact ⟨0, Nat.zero_le _, rfl, fun q hq h => absurd h (by omega)⟩
  case round =>
    obtain ⟨k, hk, rfl, HT0⟩ := hrel
    by_cases hlt : k < n
    · have hkL : k < l.length := by rw [← HN.out]; exact hlt
      obtain ⟨ba, offa, rfl, _, hca⟩ := HR.out.at (by omega)
      obtain ⟨c, hc⟩ : ∃ c, c = l[k] := ⟨_, rfl⟩
      have hcc := hca k hkL
      rw [← hc] at hcc
      have hk1 : (k : Int) < n := by omega
      have HC := Lib.hid hc
      clear hc hca
      by_cases he : x = c
      · have he2 : (x == c) = true := by simpa using he
        have HIN : Hid (x ∈ l) := by show _ ∈ _; rw [he, HC.out]; exact List.getElem_mem hkL
        clear he
        go_wp2_with fail
        go_ret
        exact ⟨k, rfl, ⟨fun _ => HIN.out, fun _ => by omega⟩, rfl⟩
      · have he2 : (x == c) = false := by simpa using he
        have HNX : Hid (∀ q (h : q < l.length), q < k + 1 → l[q] ≠ x) := fun q hq hqk => by
          by_cases e : q = k
          · subst e; rw [← HC.out]; exact fun h => he h.symm
          · exact HT0.out q hq (by omega)
        clear he
        go_wp2_with fail
        go_round
        case rel => exact ⟨k + 1, by omega, by go_num, HNX⟩
        case measure => simp [intOf]; omega
    · have HNI : Hid (¬ x ∈ l) := fun h => by
        obtain ⟨q, hq, e⟩ := List.getElem_of_mem h
        exact HT0.out q hq (by have := HN.out; omega) e
      go_wp2_with fail
      go_ret
      exact ⟨-1, rfl, ⟨fun h => by omega, fun h => absurd h HNI.out⟩, rfl⟩
theorem Contains_any (w : World) (v : Value) (l : List Int) (x : Int) (h : Is w v l) : Calls Try.prog 60 #[v, .int .i64 x] w fun e w' => e = .returned (.bool (inB l x)) ∧ w = w' := by
  have cl := Index_any w v l x h
  by_cases hx : x ∈ l
  · have hd : inB l x = true := by unfold inB; exact decide_eq_true hx
    have HD := Lib.hid hd
    have HX := Lib.hid hx
    clear hd hx h
    go_enter Try.func60, Try.ntmps60
    go_wp2_with fail
    refine cl.mono ?_
    clear cl
    rintro e w' ⟨i, rfl, hi, rfl⟩
    have h0 : 0 ≤ i := hi.2 HX.out
    clear hi
    go_wp2_with fail
    go_ret
    exact ⟨by rw [HD.out]; rfl, rfl⟩
  · have hd : inB l x = false := by unfold inB; exact decide_eq_false hx
    have HD := Lib.hid hd
    have HX := Lib.hid hx
    clear hd hx h
    go_enter Try.func60, Try.ntmps60
    go_wp2_with fail
    refine cl.mono ?_
    clear cl
    rintro e w' ⟨i, rfl, hi, rfl⟩
    have h0 : ¬ 0 ≤ i := fun h => HX.out (hi.1 h)
    have h1 : decide (0 ≤ i) = false := by simpa using h0
    clear hi h0
    go_wp2_with fail
    go_ret
    exact ⟨by rw [HD.out]; rfl, rfl⟩
/-- numbers in new memory -/
def IntsPost (w : World) (l : List Int) (e : Ending) (w' : World) : Prop := ∃ a n c, e = .returned (.slice a n c) ∧ OwnI 3 w' w.heap.size (.slice a n c) l ∧ Below w.heap.size w w'
def thoseTo (R : RollT) (sts : List Int) (k : Nat) : List Int := ((R.M.take k).filter (fun m => inB sts m.state)).map MbT.no
theorem thoseTo_len (R : RollT) (sts : List Int) (k : Nat) : (thoseTo R sts k).length ≤ k := by
  unfold thoseTo
  have h1 := List.length_filter_le (fun m : MbT => inB sts m.state) (R.M.take k)
  have h2 := List.length_take_le k R.M
  simp only [List.length_map]
  omega
theorem thoseTo_next {R : RollT} {sts : List Int} {k : Nat} (hk : k < R.M.length) : thoseTo R sts (k + 1) = thoseTo R sts k ++ (if inB sts R.M[k].state = true then [R.M[k].no] else []) := by
  unfold thoseTo
  rw [List.take_succ_eq_append_getElem hk, List.filter_append, List.map_append]
  by_cases h : inB sts R.M[k].state = true <;> simp [h]
theorem thoseTo_all (R : RollT) (sts : List Int) {k : Nat} (hk : R.M.length ≤ k) : thoseTo R sts k = thoseR R sts := by
  unfold thoseTo thoseR
  rw [List.take_of_length_le hk]
set_option maxRecDepth 100000 in
set_option maxHeartbeats 1600000 in
theorem Those_any (w : World) (va vb vc vs : Value) (R : RollT) (sts : List Int) (h : RollIn w va vb vc R) (hf : few R) (hs : Is w vs sts) :
    Calls Try.prog 26 #[.agg #[va, vb, vc], vs] w (IntsPost w (thoseR R sts)) := by
  obtain ⟨aM, cM, rfl, hcap, hm⟩ := h.1.shape
  obtain ⟨n, hn⟩ : ∃ n, n = R.M.length := ⟨_, rfl⟩
  rw [← hn] at h hcap ⊢
  have hf2 : n ≤ 1000 := by have := hf.1; omega
  have hb0 : Below w.heap.size w (w.alloc (.cells #[.slice aM n cM, vb, vc] 26)) := (Below.refl _ _).alloc (Nat.le_refl _) _
  have hc0 : (w.alloc (.cells #[.slice aM n cM, vb, vc] 26)).cell? ⟨w.heap.size, 0, none⟩ = some (.slice aM n cM) := (HT.new (w := w) (t := 26) (C := [.slice aM n cM, vb, vc])).cell (j := 0) rfl
  have HR := Lib.hid h.1
  have HS := Lib.hid hs
  have HN := Lib.hid hn
  have HB0 := Lib.hid hb0
  clear h hf hs hn hb0
  go_enter Try.func26, Try.ntmps26
  go_wp2_with fail
  clear hc0
  go_loopw [5, 11] (fun v5 i wr => ∃ k : Nat, ∃ a n5 c5, k ≤ n ∧ i = .int .i64 k ∧ v5 = .slice a n5 c5 ∧ OwnI 3 wr w.heap.size (.slice a n5 c5) (thoseTo R sts k) ∧ Below w.heap.size w wr) (fun _ i _ => n - (intOf i).toNat)
  case atStart => exact ⟨0, none, 0, 0, Nat.zero_le _, rfl, rfl, OwnI.empty _ _ _, HB0.out⟩
  case round =>
    obtain ⟨k, a5, n5, c5, hk, rfl, rfl, ho, hbel⟩ := hrel
    have HO := Lib.hid ho
    have HBL := Lib.hid hbel
    clear ho hbel
    by_cases hlt : k < n
    · have hkL : k < R.M.length := by rw [← HN.out]; exact hlt
      obtain ⟨ba, offa, rfl, _, hca⟩ := (HR.out.rew HN.out HBL.out).at (by omega) (by decide)
      obtain ⟨c, hc⟩ : ∃ c, c = R.M[k] := ⟨_, rfl⟩
      have HCA : Hid (∀ j v, [.int .i64 c.no, .int .i64 c.state, .int .i64 c.need][j]? = some v → wr.cell? ⟨ba, offa + k * 3 + j, none⟩ = some v) := fun j v h => hca k hkL j v (by rw [← hc]; exact h)
      have hk0 : (0 : Int) ≤ k := by omega
      have hk1 : (k : Int) < n := by omega
      have HNX := Lib.hid (thoseTo_next (sts := sts) hkL)
      have HC := Lib.hid hc
      clear hca hc
      have HSZ : Hid ((Try.prog.info? 33).map (·.size) = some (#[.int .i64 c.no, .int .i64 c.state, .int .i64 c.need] : Array Value).size) := by show _ = _; rw [mem_sz]; rfl
      have HON : Hid ((#[.int .i64 c.no, .int .i64 c.state, .int .i64 c.need] : Array Value).all (·.oneCell') = true) := by show _ = true; simp [Value.oneCell']
      go_upto_region 5 with (first
        | (refine wpList_load_mid rfl 33 (.tmp 13) rfl ba (offa + k * 3) rfl [.int .i64 c.no, .int .i64 c.state, .int .i64 c.need] _ (fun j v h => HCA.out j v h) Try.underlying33 rfl HSZ.out ?_)
        | (refine wpList_store_row rfl 33 (.tmp 7) (.tmp 14) rfl wr.heap.size #[.int .i64 c.no, .int .i64 c.state, .int .i64 c.need] rfl rfl 33 #[.int .i64 0, .int .i64 0, .int .i64 0] (heap_alloc_new _ _) HSZ.out rfl HON.out ?_)
        | fail)
      have hbs : Below wr.heap.size wr ((wr.alloc (.cells #[.int .i64 0, .int .i64 0, .int .i64 0] 33)).setRow wr.heap.size #[.int .i64 c.no, .int .i64 c.state, .int .i64 c.need]) := ((Below.refl _ _).alloc (Nat.le_refl _) _).trans (setRow_below (Nat.le_refl _) _)
      have hx : HT ((wr.alloc (.cells #[.int .i64 0, .int .i64 0, .int .i64 0] 33)).setRow wr.heap.size #[.int .i64 c.no, .int .i64 c.state, .int .i64 c.need]) wr.heap.size 33 [.int .i64 c.no, .int .i64 c.state, .int .i64 c.need] := setRow_heap _ _ _ _ _ _ (heap_alloc_new _ _)
      have hbw := bgo HBL.out hbs (Below.size HBL.out)
      obtain ⟨W, hW⟩ : ∃ zz, zz = ((wr.alloc (.cells #[.int .i64 0, .int .i64 0, .int .i64 0] 33)).setRow wr.heap.size #[.int .i64 c.no, .int .i64 c.state, .int .i64 c.need]) := ⟨_, rfl⟩
      rw [← hW] at hbs hx hbw ⊢
      obtain ⟨gx, hg⟩ : ∃ zz, zz = wr.heap.size := ⟨_, rfl⟩
      rw [← hg] at hx ⊢
      have HGE : Hid (∀ m, m ≤ wr.heap.size → m ≤ gx) := fun m h => by omega
      have HX := Lib.hid hx
      have HBW := Lib.hid hbw
      have HBS := Lib.hid hbs
      clear hW hx hbw hbs hg HON
      have HO1 := Lib.hid (HO.out.below HBS.out)
      have hc1 := HX.out.cell (j := 1) rfl
      have hc0 := HX.out.cell (j := 0) rfl
      have cl := Contains_any W vs sts c.state (HS.out.mono HBW.out)
      by_cases hin : inB sts c.state = true
      · rw [hin] at cl
        have HIN := Lib.hid hin
        clear hin
        have hlit : Is (W.alloc (.cells #[.int .i64 c.no] 3)) (.slice (some ⟨W.heap.size, 0, none⟩) 1 1) [c.no] := Is.lit1 W c.no 3
        have hbn : Below W.heap.size W (W.alloc (.cells #[.int .i64 c.no] 3)) := (Below.refl _ _).alloc (Nat.le_refl _) _
        have HL := Lib.hid hlit
        have HBN := Lib.hid hbn
        have HO2 := Lib.hid (HO1.out.below hbn)
        have HLE : Hid (((thoseTo R sts k).length + [c.no].length) * 8 ≤ 140737488355328) := by show _ ≤ _; have := thoseTo_len R sts k; simp; omega
        have HBA : Hid (w.heap.size ≤ (W.alloc (.cells #[.int .i64 c.no] 3)).heap.size) := Nat.le_trans HBW.out.size hbn.size
        clear hlit hbn
        go_wp2_with fail
        refine cl.mono ?_
        clear cl
        rintro e w1 ⟨rfl, rfl⟩
        go_wp2_with (first
          | (at_builtin; refine wpList_append_ints rfl (.tmp 19) (.tmp 22) 27 rfl (l := thoseTo R sts k) (m := [c.no]) (base := w.heap.size) elem_int rfl rfl HO2.out HL.out HLE.out HBA.out ?_; intro a7 n7 c7 w7 Hn7 ho7 hb7 hg7)
          | fail)
        exact ⟨⟨k + 1, a7, n7, c7, by omega, by push_cast; rfl, rfl, by rw [HNX.out, ← HC.out, if_pos HIN.out]; exact ho7, bgo (HBW.out.trans (HBN.out.mono HBW.out.size)) hb7 (Nat.le_refl _)⟩, by simp [intOf]; omega⟩
      · have hin2 : inB sts c.state = false := by simpa using hin
        rw [hin2] at cl
        have HIN := Lib.hid hin2
        clear hin hin2
        go_wp2_with fail
        refine cl.mono ?_
        clear cl
        rintro e w1 ⟨rfl, rfl⟩
        go_wp2_with fail
        exact ⟨⟨k + 1, a5, n5, c5, by omega, by push_cast; rfl, rfl, by rw [HNX.out, ← HC.out, if_neg (by rw [HIN.out]; decide), List.append_nil]; exact HO1.out, HBW.out⟩, by simp [intOf]; omega⟩
    · have HA := Lib.hid (thoseTo_all R sts (k := k) (by have := HN.out; omega))
      go_wp2_with fail
      go_ret
      exact ⟨a5, n5, c5, rfl, by rw [← HA.out]; exact HO.out, HBL.out⟩
end Cam
