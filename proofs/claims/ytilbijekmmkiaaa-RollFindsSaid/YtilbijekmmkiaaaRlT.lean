import Derived.Test.YtilbijekmmkiaaaRlH
/- roll: Turn, Those. -/
namespace Cam
open Go Go.RowKit Go.Proofs

theorem flatW_set1 {α : Type} {enc : α → List Value} {K : Nat} (he : ∀ a, (enc a).length = K) {L : List α} {i : Nat} (hi : i < L.length) {x : α} {j : Nat} {v : Value} (hj : j < K) (hx : enc x = (enc L[i]).set j v) : flatW enc (L.set i x) = (flatW enc L).set (i * K + j) v := by
  rw [← flatW_set (f := enc) (W := K) (fun a _ => he a) hi x (he x), hx]
  have hA : ∀ q, q < K → (flatW enc L)[i * K + q]? = (enc L[i])[q]? := fun q hq => by
    have hq2 : q < (enc L[i]).length := by rw [he]; exact hq
    rw [flatW_at (f := enc) (W := K) (fun a _ => he a) hi q _ (List.getElem?_eq_getElem hq2)]
    exact (List.getElem?_eq_getElem hq2).symm
  have hl : (flatW enc L).length = L.length * K := flatW_length (fun a _ => he a)
  have h4 : (i + 1) * K ≤ L.length * K := Nat.mul_le_mul_right K hi
  have h2 : (i + 1) * K = i * K + K := Nat.succ_mul i K
  apply List.ext_getElem?
  intro q
  unfold splice
  simp only [List.getElem?_append, List.getElem?_take, List.getElem?_drop, List.length_take, List.getElem?_set, List.length_set, hl, he]
  by_cases c1 : q < i * K
  · grind
  · by_cases c2 : q < i * K + K
    · have := hA (q - i * K) (by omega)
      rw [show i * K + (q - i * K) = q by omega] at this
      grind
    · grind
/-- one cell of a row of the call's own is written -/
theorem OwnR.put1 {α : Type} {enc : α → List Value} {K : Nat} {t : TypeId} {w : World} {base g n c : Nat} {L : List α} (h : OwnR enc K t w base (.slice (some ⟨g, 0, none⟩) n c) L) {i : Nat} (hi : i < L.length) {j : Nat} (hj : j < K) (v : Value) (x : α) (hx : enc x = (enc L[i]).set j v) :
    OwnR enc K t (w.setCell ⟨g, i * K + j, none⟩ v) base (.slice (some ⟨g, 0, none⟩) n c) (L.set i x) := by
  obtain ⟨g', C, e, hg, hh, hn, hnc, hm, hl, ht⟩ := h.open
  cases e
  have hp := hh.put (i * K + j) v
  refine OwnR.close h.1 hg hp (by simpa using hn) hnc hm (by simpa using hl) ?_
  rw [List.take_set, ht, flatW_set1 h.1 hi hj hx]
theorem OwnR.cellAt {α : Type} {enc : α → List Value} {K : Nat} {t : TypeId} {w : World} {base g n c : Nat} {L : List α} (h : OwnR enc K t w base (.slice (some ⟨g, 0, none⟩) n c) L) {i : Nat} (hi : i < L.length) {j : Nat} {v : Value} (hv : (enc L[i])[j]? = some v) :
    w.cell? ⟨g, i * K + j, none⟩ = some v ∧ w.frozen? ⟨g, i * K + j, none⟩ = false := by
  obtain ⟨g', C, e, hg, hh, hn, hnc, hm, hl, ht⟩ := h.open
  cases e
  refine ⟨hh.cell ?_, hh.frozen _⟩
  have h1 := flatW_at (f := enc) (W := K) (fun a _ => h.1 a) hi j v hv
  rw [← ht, List.getElem?_take] at h1
  split at h1
  · exact h1
  · cases h1
def tk (L : List InT) (k : Nat) : List InT := (L.take k).map turn1 ++ L.drop k
theorem tk_len (L : List InT) (k : Nat) : (tk L k).length = L.length := by
  unfold tk
  simp
  omega
theorem tk_at {L : List InT} {k : Nat} (hk : k < L.length) (h : k < (tk L k).length) : (tk L k)[k] = L[k] := by
  have h2 : (tk L k)[k]? = some L[k] := by
    unfold tk
    rw [List.getElem?_append_right (by simp; omega)]
    simp [Nat.min_eq_left (Nat.le_of_lt hk), hk]
  exact (List.getElem_eq_iff h).2 h2
theorem tk_next {L : List InT} {k : Nat} (hk : k < L.length) : tk L (k + 1) = (tk L k).set k (turn1 L[k]) := by
  unfold tk
  rw [List.take_succ_eq_append_getElem hk, List.map_append, List.set_append_right _ _ (by simp; omega)]
  simp only [List.length_map, List.length_take, Nat.min_eq_left (Nat.le_of_lt hk), Nat.sub_self, List.map_cons, List.map_nil, List.append_assoc]
  rw [List.drop_eq_getElem_cons hk, List.set_cons_zero]
  rfl
theorem tk_same {L : List InT} {k : Nat} (hk : k < L.length) (h0 : L[k].set = 0) : tk L (k + 1) = tk L k := by
  rw [tk_next hk]
  have e : turn1 L[k] = (tk L k)[k]'(by rw [tk_len]; exact hk) := by
    rw [tk_at hk]
    unfold turn1
    rw [if_pos h0]
  rw [e]
  exact List.set_getElem_self _
theorem tk_all (L : List InT) : tk L L.length = L.map turn1 := by
  unfold tk
  simp

set_option maxRecDepth 100000 in
set_option maxHeartbeats 1600000 in
theorem Turn_any (w : World) (va vb vc : Value) (R : RollT) (h : RollIn w va vb vc R) (hf : few R) :
    Calls Try.prog 22 #[.agg #[va, vb, vc]] w (RollPost w (turnR R)) := by
  have hb0 : Below w.heap.size w ((w.alloc (.cells #[va, vb, vc] 26)).alloc (.cells #[.slice none 0 0, .slice none 0 0, .slice none 0 0] 26)) := ((Below.refl _ _).alloc (Nat.le_refl _) _).alloc (by simp) _
  have hg0 : HT ((w.alloc (.cells #[va, vb, vc] 26)).alloc (.cells #[.slice none 0 0, .slice none 0 0, .slice none 0 0] 26)) w.heap.size 26 [va, vb, vc] := (HT.new (w := w) (t := 26) (C := [va, vb, vc])).below ((Below.refl _ _).alloc (Nat.le_refl _) _)
  have hg1 : HT ((w.alloc (.cells #[va, vb, vc] 26)).alloc (.cells #[.slice none 0 0, .slice none 0 0, .slice none 0 0] 26)) (w.heap.size + 1) 26 [.slice none 0 0, .slice none 0 0, .slice none 0 0] := by
    have := HT.new (w := w.alloc (.cells #[va, vb, vc] 26)) (t := 26) (C := [.slice none 0 0, .slice none 0 0, .slice none 0 0])
    rwa [show (w.alloc (.cells #[va, vb, vc] 26)).heap.size = w.heap.size + 1 by simp] at this
  have hsw : ((w.alloc (.cells #[va, vb, vc] 26)).alloc (.cells #[.slice none 0 0, .slice none 0 0, .slice none 0 0] 26)).heap.size = w.heap.size + 2 := by simp
  have HR := Lib.hid h
  have HFEW := Lib.hid hf
  have HB := Lib.hid hb0
  have HR0 := Lib.hid hg0
  have HZ0 := Lib.hid hg1
  have HSW := Lib.hid hsw
  clear h hf hb0 hg0 hg1 hsw
  go_enter Try.func22, Try.ntmps22
  go_upto_region 1 with fail
  generalize hW : ((w.alloc (.cells #[va, vb, vc] 26)).alloc (.cells #[.slice none 0 0, .slice none 0 0, .slice none 0 0] 26)) = W0 at *
  clear hW
  have HSZr : Hid ((Try.prog.info? 26).map (·.size) = some (#[va, vb, vc] : Array Value).size) := by show _ = _; rw [rol_sz]; rfl
  have HR0x : Hid (W0.heap[w.heap.size]? = some (.cells #[va, vb, vc] 26 (0, 0))) := HR0.out
  have tw := twin_any W0 va vb vc R (HR.out.mono HB.out) HFEW.out
  go_wp2_with (first
    | (refine wpList_load_row rfl 26 (.tmp 1) rfl w.heap.size rfl 26 #[va, vb, vc] (0, 0) _ HR0x.out Try.underlying26 rfl HSZr.out ?_)
    | fail)
  refine tw.mono ?_
  clear tw HR0x
  rintro e wt ⟨aM, nM, cM, aI, n, cI, aA, nA, cA, rfl, ho, hap, hb⟩
  have HAP := Lib.hid hap
  have HOFF : Hid (∀ g, ((Value.slice aM nM cM).ownBlock = some g ∨ (Value.slice aI n cI).ownBlock = some g ∨ (Value.slice aA nA cA).ownBlock = some g) → g ≠ w.heap.size ∧ g ≠ w.heap.size + 1 ∧ w.heap.size ≤ g) := by
    intro g hg
    have hs := HSW.out
    rcases hg with hg | hg | hg
    · have := OwnR.ge ho.1 g hg; omega
    · have := OwnR.ge ho.2.1 g hg; omega
    · have := OwnR.ge ho.2.2 g hg; omega
  obtain ⟨a9, c9, e9, _⟩ := ho.2.1.rs.shape
  simp only [Value.slice.injEq] at e9
  obtain ⟨h1, hn, h2⟩ := e9
  clear h1 h2
  have HN := Lib.hid hn
  clear hn
  have hR1 : HT wt w.heap.size 26 [va, vb, vc] := HR0.out.below hb
  have hZ1 := HZ0.out.below hb
  have hB1 : Below w.heap.size w wt := bgo HB.out hb HB.out.size
  have HR1 : Hid (wt.heap[w.heap.size]? = some (.cells #[va, vb, vc] 26 (0, 0))) := hR1
  have HSZs : Hid ((Try.prog.info? 26).map (·.size) = some (#[.slice aM nM cM, .slice aI n cI, .slice aA nA cA] : Array Value).size) := by show _ = _; rw [rol_sz]; rfl
  have HONs : Hid ((#[.slice aM nM cM, .slice aI n cI, .slice aA nA cA] : Array Value).all (·.oneCell') = true) := by show _ = true; simp [Value.oneCell']
  have HOt := Lib.hid ho
  have HZ1 := Lib.hid hZ1
  have HB1 := Lib.hid hB1
  clear ho hap hb hR1 hZ1 hB1 HR0 HZ0 HB
  go_upto_region 2 with (first
    | (refine wpList_store_row rfl 26 (.tmp 1) (.tmp 5) rfl w.heap.size #[.slice aM nM cM, .slice aI n cI, .slice aA nA cA] rfl rfl 26 #[va, vb, vc] HR1.out HSZs.out rfl HONs.out ?_)
    | fail)
  have hk := setRow_kept wt w.heap.size #[.slice aM nM cM, .slice aI n cI, .slice aA nA cA]
  have HRB : Hid (HT (wt.setRow w.heap.size #[.slice aM nM cM, .slice aI n cI, .slice aA nA cA]) w.heap.size 26 [.slice aM nM cM, .slice aI n cI, .slice aA nA cA]) := HT.row HR1.out rfl
  have HZB := Lib.hid (HZ1.out.keptS hk (fun (e : w.heap.size + 1 = w.heap.size) => by omega))
  have HB : Hid (Below w.heap.size w (wt.setRow w.heap.size #[.slice aM nM cM, .slice aI n cI, .slice aA nA cA])) := HB1.out.trans (setRow_below (Nat.le_refl _) _)
  have HO := Lib.hid ((HOt.out.keptS hk (fun k hk (e : k = w.heap.size) => by have := HSW.out; omega)).base (base' := w.heap.size) (by have := HSW.out; omega))
  clear hk HR1 HZ1 HB1 HOt
  generalize hW : wt.setRow w.heap.size #[.slice aM nM cM, .slice aI n cI, .slice aA nA cA] = wu at *
  clear hW
  obtain ⟨g0, hg0⟩ : ∃ z, z = w.heap.size := ⟨_, rfl⟩
  obtain ⟨gz, hgz⟩ : ∃ z, z = w.heap.size + 1 := ⟨_, rfl⟩
  have HGZ : Hid (w.heap.size ≤ gz) := by show _ ≤ _; omega
  have HRB2 : Hid (HT wu g0 26 [.slice aM nM cM, .slice aI n cI, .slice aA nA cA]) := by have := HRB.out; rwa [← hg0] at this
  have HZB2 : Hid (HT wu gz 26 [.slice none 0 0, .slice none 0 0, .slice none 0 0]) := by have := HZB.out; rwa [← hgz] at this
  have HOFF2 : Hid (∀ g, ((Value.slice aM nM cM).ownBlock = some g ∨ (Value.slice aI n cI).ownBlock = some g ∨ (Value.slice aA nA cA).ownBlock = some g) → g ≠ g0 ∧ g ≠ gz ∧ w.heap.size ≤ g) := fun g hg => by have := HOFF.out g hg; omega
  clear HRB HZB HOFF
  have HRB := HRB2
  have HZB := HZB2
  have HOFF := HOFF2
  clear HRB2 HZB2 HOFF2
  have hcr := HRB.out.cell (j := 1) rfl
  have HG0 := Lib.hid hg0
  have HGZ1 := Lib.hid hgz
  rw [show (w.heap.size + 1) = gz from hgz.symm]
  rw [show Value.pointer (some ⟨w.heap.size, 0, none⟩) = Value.pointer (some ⟨g0, 0, none⟩) by rw [hg0]]
  clear hg0 hgz
  go_wp2_with fail
  clear hcr
  go_loopw [9] (fun i wr => ∃ k : Nat, k ≤ n ∧ i = .int .i64 k ∧ HT wr g0 26 [.slice aM nM cM, .slice aI n cI, .slice aA nA cA] ∧ HT wr gz 26 [.slice none 0 0, .slice none 0 0, .slice none 0 0] ∧ OwnR MbT.vs 3 33 wr w.heap.size (.slice aM nM cM) R.M ∧ OwnR InT.vs 12 38 wr w.heap.size (.slice aI n cI) (tk R.I k) ∧ OwnR AsT.vs 4 42 wr w.heap.size (.slice aA nA cA) R.A ∧ Below w.heap.size w wr) (fun i _ => n - (intOf i).toNat)
  case atStart => exact ⟨0, Nat.zero_le _, rfl, HRB.out, HZB.out, HO.out.1, HO.out.2.1, HO.out.2.2, HB.out⟩
  case round =>
    obtain ⟨k, hk, rfl, hrb, hzb, hom, hoi, hoa, hbel⟩ := hrel
    have HRB := Lib.hid hrb
    have HZB := Lib.hid hzb
    have HOM := Lib.hid hom
    have HOI := Lib.hid hoi
    have HOA := Lib.hid hoa
    have HBL := Lib.hid hbel
    clear hrb hzb hom hoi hoa hbel
    have hcr := HRB.out.cell (j := 1) rfl
    by_cases hlt : k < n
    · have hkL : k < R.I.length := by have := HN.out; omega
      obtain ⟨c, hc⟩ : ∃ c, c = R.I[k] := ⟨_, rfl⟩
      obtain ⟨ba, rfl, hba, hbs⟩ := HOI.out.some_of (by omega)
      have HKL : Hid (k < (tk R.I k).length) := by show _ < _; rw [tk_len]; exact hkL
      have HCT : Hid (c = (tk R.I k)[k]'HKL.out) := by show _ = _; rw [tk_at hkL]; exact hc
      have HNE : Hid (ba ≠ g0 ∧ ba ≠ gz ∧ w.heap.size ≤ ba) := HOFF.out ba (.inr (.inl rfl))
      have HV4 : Hid ((InT.vs ((tk R.I k)[k]'HKL.out))[4]? = some (.int .i64 c.set)) := by show _ = _; rw [← HCT.out]; rfl
      have HV5 : Hid ((InT.vs ((tk R.I k)[k]'HKL.out))[5]? = some (.int .i64 c.price)) := by show _ = _; rw [← HCT.out]; rfl
      have hk0 : (0 : Int) ≤ k := by omega
      have hk1 : (k : Int) < n := by omega
      have hcs := (OwnR.cellAt HOI.out HKL.out HV4.out).1
      have HC := Lib.hid hc
      clear hc hba hbs
      by_cases h0 : c.set = 0
      · have HNX : Hid (tk R.I (k + 1) = tk R.I k) := tk_same hkL (by rw [← HC.out]; exact h0)
        have h0b : (c.set != 0) = false := by simpa using h0
        clear h0
        go_wp2_with fail
        exact ⟨⟨k + 1, by omega, by push_cast; rfl, HRB.out, HZB.out, HOM.out, by rw [HNX.out]; exact HOI.out, HOA.out, HBL.out⟩, by simp [intOf]; omega⟩
      · have HNX := Lib.hid (tk_next hkL)
        have h0b : (c.set != 0) = true := by simpa using h0
        obtain ⟨c5, hc5⟩ : ∃ z : InT, z = { c with price := c.set } := ⟨_, rfl⟩
        obtain ⟨c6, hc6⟩ : ∃ z : InT, z = { c with price := c.set, set := 0 } := ⟨_, rfl⟩
        have HC5 := Lib.hid hc5
        have HC6 := Lib.hid hc6
        have HCK5 : Hid (InT.vs c5 = (InT.vs ((tk R.I k)[k]'HKL.out)).set 5 (.int .i64 c.set)) := by show _ = _; rw [← HCT.out, hc5]; rfl
        have HC6T : Hid (c6 = turn1 R.I[k]) := by show _ = _; rw [← HC.out, hc6]; unfold turn1; rw [if_neg h0]
        have HCL : Hid (Cls (fun x => x.cell? ⟨g0, 1, none⟩ = some (.slice (some ⟨ba, 0, none⟩) n cI) ∧ x.cell? ⟨ba, k * 12 + 4, none⟩ = some (.int .i64 c.set)) (BL wr)) := ⟨fun x hx => ⟨BL.cell hx (HRB.out.cell (j := 1) rfl), BL.cell hx (OwnR.cellAt HOI.out HKL.out HV4.out).1⟩, fun _ _ h hb => Below.next h hb⟩
        clear h0 hc5 hc6
        go_wp2_with fail
        clear hcr hcs
        refine wp_region_uni (S0 := (fun x => x.cell? ⟨g0, 1, none⟩ = some (.slice (some ⟨ba, 0, none⟩) n cI) ∧ x.cell? ⟨ba, k * 12 + 4, none⟩ = some (.int .i64 c.set))) (S := BL wr) 17 (by kernel_rfl) (Below.refl _ _).drew ?_
        refine wpAnyU_take (i := 0) (oi := { dst := some 19, op := Op.fieldAddr 26 (Operand.tmp 1) 1, type := 0, pos := "roll.go:178", after := #[], guard := none }) (v := (.pointer (some ⟨g0, 1, none⟩))) rfl (by kernel_rfl) (by kernel_rfl) (by kernel_rfl) (by kernel_rfl) (by kernel_rfl) (fun _ _ _ h => h) HCL.out ?_ ?_
        · refine Or.inl ⟨rfl, fun w hSw => ?_⟩
          exact EffR.same (by go_simp)
        try simp only [Act.put, List.setIfInBounds_toArray, List.set_cons_zero, List.set_cons_succ]
        refine wpAnyU_take (i := 1) (oi := { dst := some 20, op := Op.load 23 (Operand.tmp 19), type := 23, pos := "roll.go:178", after := #[{ on := 0, ground := Ground.data }], guard := none }) (v := (.slice (some ⟨ba, 0, none⟩) n cI)) rfl (by kernel_rfl) (by kernel_rfl) (by kernel_rfl) (by kernel_rfl) (by kernel_rfl) (fun _ _ _ h => h) HCL.out ?_ ?_
        · refine Or.inl ⟨rfl, fun w hSw => ?_⟩
          have e0 := hSw.1
          exact EffR.same (by go_simp)
        try simp only [Act.put, List.setIfInBounds_toArray, List.set_cons_zero, List.set_cons_succ]
        refine wpAnyU_take (i := 2) (oi := { dst := some 21, op := Op.move (Operand.tmp 3), type := 3, pos := "roll.go:178", after := #[], guard := none }) (v := (.int .i64 (k : Int))) rfl (by kernel_rfl) (by kernel_rfl) (by kernel_rfl) (by kernel_rfl) (by kernel_rfl) (fun _ _ _ h => h) HCL.out ?_ ?_
        · refine Or.inl ⟨rfl, fun w hSw => ?_⟩
          exact EffR.same (by go_simp)
        try simp only [Act.put, List.setIfInBounds_toArray, List.set_cons_zero, List.set_cons_succ]
        refine wpAnyU_take (i := 3) (oi := { dst := some 22, op := Op.fieldAddr 26 (Operand.tmp 1) 1, type := 0, pos := "roll.go:178", after := #[{ on := 14, ground := Ground.gcOnly Departure.lateStores }], guard := none }) (v := (.pointer (some ⟨g0, 1, none⟩))) rfl (by kernel_rfl) (by kernel_rfl) (by kernel_rfl) (by kernel_rfl) (by kernel_rfl) (fun _ _ _ h => h) HCL.out ?_ ?_
        · refine Or.inl ⟨rfl, fun w hSw => ?_⟩
          exact EffR.same (by go_simp)
        try simp only [Act.put, List.setIfInBounds_toArray, List.set_cons_zero, List.set_cons_succ]
        refine wpAnyU_take (i := 4) (oi := { dst := some 23, op := Op.load 23 (Operand.tmp 22), type := 23, pos := "roll.go:178", after := #[{ on := 3, ground := Ground.data }, { on := 14, ground := Ground.gcOnly Departure.lateStores }], guard := none }) (v := (.slice (some ⟨ba, 0, none⟩) n cI)) rfl (by kernel_rfl) (by kernel_rfl) (by kernel_rfl) (by kernel_rfl) (by kernel_rfl) (fun _ _ _ h => h) HCL.out ?_ ?_
        · refine Or.inl ⟨rfl, fun w hSw => ?_⟩
          have e0 := hSw.1
          exact EffR.same (by go_simp)
        try simp only [Act.put, List.setIfInBounds_toArray, List.set_cons_zero, List.set_cons_succ]
        refine wpAnyU_take (i := 5) (oi := { dst := some 24, op := Op.move (Operand.tmp 3), type := 3, pos := "roll.go:178", after := #[{ on := 14, ground := Ground.gcOnly Departure.lateStores }], guard := none }) (v := (.int .i64 (k : Int))) rfl (by kernel_rfl) (by kernel_rfl) (by kernel_rfl) (by kernel_rfl) (by kernel_rfl) (fun _ _ _ h => h) HCL.out ?_ ?_
        · refine Or.inl ⟨rfl, fun w hSw => ?_⟩
          exact EffR.same (by go_simp)
        try simp only [Act.put, List.setIfInBounds_toArray, List.set_cons_zero, List.set_cons_succ]
        refine wpAnyU_take (i := 6) (oi := { dst := some 25, op := Op.fieldAddr 26 (Operand.tmp 1) 1, type := 0, pos := "roll.go:178", after := #[], guard := none }) (v := (.pointer (some ⟨g0, 1, none⟩))) rfl (by kernel_rfl) (by kernel_rfl) (by kernel_rfl) (by kernel_rfl) (by kernel_rfl) (fun _ _ _ h => h) HCL.out ?_ ?_
        · refine Or.inl ⟨rfl, fun w hSw => ?_⟩
          exact EffR.same (by go_simp)
        try simp only [Act.put, List.setIfInBounds_toArray, List.set_cons_zero, List.set_cons_succ]
        refine wpAnyU_take (i := 7) (oi := { dst := some 26, op := Op.load 23 (Operand.tmp 25), type := 23, pos := "roll.go:178", after := #[{ on := 6, ground := Ground.data }], guard := none }) (v := (.slice (some ⟨ba, 0, none⟩) n cI)) rfl (by kernel_rfl) (by kernel_rfl) (by kernel_rfl) (by kernel_rfl) (by kernel_rfl) (fun _ _ _ h => h) HCL.out ?_ ?_
        · refine Or.inl ⟨rfl, fun w hSw => ?_⟩
          have e0 := hSw.1
          exact EffR.same (by go_simp)
        try simp only [Act.put, List.setIfInBounds_toArray, List.set_cons_zero, List.set_cons_succ]
        refine wpAnyU_take (i := 8) (oi := { dst := some 27, op := Op.move (Operand.tmp 3), type := 3, pos := "roll.go:178", after := #[], guard := none }) (v := (.int .i64 (k : Int))) rfl (by kernel_rfl) (by kernel_rfl) (by kernel_rfl) (by kernel_rfl) (by kernel_rfl) (fun _ _ _ h => h) HCL.out ?_ ?_
        · refine Or.inl ⟨rfl, fun w hSw => ?_⟩
          exact EffR.same (by go_simp)
        try simp only [Act.put, List.setIfInBounds_toArray, List.set_cons_zero, List.set_cons_succ]
        refine wpAnyU_take (i := 9) (oi := { dst := some 28, op := Op.indexAddr 23 (Operand.tmp 26) (Operand.tmp 27), type := 0, pos := "roll.go:178", after := #[{ on := 7, ground := Ground.data }, { on := 8, ground := Ground.data }], guard := none }) (v := (.pointer (some ⟨ba, k * 12, none⟩))) rfl (by kernel_rfl) (by kernel_rfl) (by kernel_rfl) (by kernel_rfl) (by kernel_rfl) (fun _ _ _ h => h) HCL.out ?_ ?_
        · refine Or.inl ⟨rfl, fun w hSw => ?_⟩
          exact EffR.same (by go_simp)
        try simp only [Act.put, List.setIfInBounds_toArray, List.set_cons_zero, List.set_cons_succ]
        refine wpAnyU_take (i := 10) (oi := { dst := some 29, op := Op.fieldAddr 38 (Operand.tmp 28) 4, type := 0, pos := "roll.go:178", after := #[{ on := 9, ground := Ground.data }], guard := none }) (v := (.pointer (some ⟨ba, k * 12 + 4, none⟩))) rfl (by kernel_rfl) (by kernel_rfl) (by kernel_rfl) (by kernel_rfl) (by kernel_rfl) (fun _ _ _ h => h) HCL.out ?_ ?_
        · refine Or.inl ⟨rfl, fun w hSw => ?_⟩
          exact EffR.same (by go_simp)
        try simp only [Act.put, List.setIfInBounds_toArray, List.set_cons_zero, List.set_cons_succ]
        refine wpAnyU_take (i := 11) (oi := { dst := some 30, op := Op.load 3 (Operand.tmp 29), type := 3, pos := "roll.go:178", after := #[{ on := 10, ground := Ground.data }], guard := none }) (v := (.int .i64 c.set)) rfl (by kernel_rfl) (by kernel_rfl) (by kernel_rfl) (by kernel_rfl) (by kernel_rfl) (fun _ _ _ h => h) HCL.out ?_ ?_
        · refine Or.inl ⟨rfl, fun w hSw => ?_⟩
          have e0 := hSw.2
          exact EffR.same (by go_simp)
        try simp only [Act.put, List.setIfInBounds_toArray, List.set_cons_zero, List.set_cons_succ]
        refine wpAnyU_take (i := 12) (oi := { dst := some 31, op := Op.indexAddr 23 (Operand.tmp 20) (Operand.tmp 21), type := 0, pos := "roll.go:178", after := #[{ on := 1, ground := Ground.data }, { on := 2, ground := Ground.data }, { on := 0, ground := Ground.phase }, { on := 1, ground := Ground.phase }, { on := 2, ground := Ground.phase }, { on := 3, ground := Ground.textOnly Departure.lateStores }, { on := 4, ground := Ground.textOnly Departure.lateStores }, { on := 5, ground := Ground.textOnly Departure.lateStores }, { on := 6, ground := Ground.phase }, { on := 7, ground := Ground.phase }, { on := 8, ground := Ground.phase }, { on := 9, ground := Ground.phase }, { on := 10, ground := Ground.phase }, { on := 11, ground := Ground.phase }], guard := none }) (v := (.pointer (some ⟨ba, k * 12, none⟩))) rfl (by kernel_rfl) (by kernel_rfl) (by kernel_rfl) (by kernel_rfl) (by kernel_rfl) (fun _ _ _ h => h) HCL.out ?_ ?_
        · refine Or.inl ⟨rfl, fun w hSw => ?_⟩
          exact EffR.same (by go_simp)
        try simp only [Act.put, List.setIfInBounds_toArray, List.set_cons_zero, List.set_cons_succ]
        refine wpAnyU_take (i := 13) (oi := { dst := some 32, op := Op.fieldAddr 38 (Operand.tmp 31) 5, type := 0, pos := "roll.go:178", after := #[{ on := 12, ground := Ground.data }, { on := 0, ground := Ground.phase }, { on := 1, ground := Ground.phase }, { on := 2, ground := Ground.phase }, { on := 3, ground := Ground.textOnly Departure.lateStores }, { on := 4, ground := Ground.textOnly Departure.lateStores }, { on := 5, ground := Ground.textOnly Departure.lateStores }, { on := 6, ground := Ground.phase }, { on := 7, ground := Ground.phase }, { on := 8, ground := Ground.phase }, { on := 9, ground := Ground.phase }, { on := 10, ground := Ground.phase }, { on := 11, ground := Ground.phase }], guard := none }) (v := (.pointer (some ⟨ba, k * 12 + 5, none⟩))) rfl (by kernel_rfl) (by kernel_rfl) (by kernel_rfl) (by kernel_rfl) (by kernel_rfl) (fun _ _ _ h => h) HCL.out ?_ ?_
        · refine Or.inl ⟨rfl, fun w hSw => ?_⟩
          exact EffR.same (by go_simp)
        try simp only [Act.put, List.setIfInBounds_toArray, List.set_cons_zero, List.set_cons_succ]
        refine wpAnyU_ready (rs := [14]) (by kernel_rfl) (by simp) ?_
        refine AllReadyU.cons (o := { dst := none, op := Op.store 3 (Operand.tmp 32) (Operand.tmp 30), type := 0, pos := "roll.go:178", after := #[{ on := 13, ground := Ground.data }, { on := 11, ground := Ground.data }, { on := 0, ground := Ground.phase }, { on := 1, ground := Ground.phase }, { on := 2, ground := Ground.phase }, { on := 3, ground := Ground.textOnly Departure.lateStores }, { on := 4, ground := Ground.textOnly Departure.lateStores }, { on := 5, ground := Ground.textOnly Departure.lateStores }, { on := 6, ground := Ground.phase }, { on := 7, ground := Ground.phase }, { on := 8, ground := Ground.phase }, { on := 9, ground := Ground.phase }, { on := 10, ground := Ground.phase }, { on := 11, ground := Ground.phase }], guard := none }) rfl (fun wA14 hA14 K hK => ?_) AllReadyU.nil
        go_simp
        have hcz := OwnR.cellAt (HOI.out.below hA14) HKL.out HV5.out
        obtain ⟨hc5, hf5⟩ := hcz
        go_simp
        have hS4 : (wA14.setCell ⟨ba, k * 12 + 5, none⟩ (.int .i64 c.set)).cell? ⟨ba, k * 12 + 4, none⟩ = some (.int .i64 c.set) := (World.cell?_setCell_other _ _ _ _ (by simp)).trans (OwnR.cellAt (HOI.out.below hA14) HKL.out HV4.out).1
        have hS1 : (wA14.setCell ⟨ba, k * 12 + 5, none⟩ (.int .i64 c.set)).cell? ⟨g0, 1, none⟩ = some (.slice (some ⟨ba, 0, none⟩) n cI) := (World.cell?_setCell_far _ _ _ _ HNE.out.1).trans (BL.cell hA14 (HRB.out.cell (j := 1) rfl))
        refine hK.out _ _ (BL (wA14.setCell ⟨ba, k * 12 + 5, none⟩ (.int .i64 c.set))) ⟨fun x hx => ⟨BL.cell hx hS1, BL.cell hx hS4⟩, fun _ _ h hb => Below.next h hb⟩ (Below.refl _ _) ?_
        clear hK K
        try simp only [Act.put]
        refine wpAnyU_take (i := 15) (oi := { dst := some 33, op := Op.indexAddr 23 (Operand.tmp 23) (Operand.tmp 24), type := 0, pos := "roll.go:178", after := #[{ on := 4, ground := Ground.data }, { on := 5, ground := Ground.data }, { on := 0, ground := Ground.phase }, { on := 1, ground := Ground.phase }, { on := 2, ground := Ground.phase }, { on := 3, ground := Ground.phase }, { on := 4, ground := Ground.phase }, { on := 5, ground := Ground.phase }, { on := 6, ground := Ground.phase }, { on := 7, ground := Ground.phase }, { on := 8, ground := Ground.phase }, { on := 9, ground := Ground.phase }, { on := 10, ground := Ground.phase }, { on := 11, ground := Ground.phase }, { on := 12, ground := Ground.phase }, { on := 13, ground := Ground.phase }, { on := 14, ground := Ground.phase }], guard := none }) (v := (.pointer (some ⟨ba, k * 12, none⟩))) rfl (by kernel_rfl) (by kernel_rfl) (by kernel_rfl) (by kernel_rfl) (by kernel_rfl) (fun _ _ _ h => h) (⟨fun x hx => ⟨BL.cell hx hS1, BL.cell hx hS4⟩, fun _ _ h hb => Below.next h hb⟩ : Cls (fun x => x.cell? ⟨g0, 1, none⟩ = some (.slice (some ⟨ba, 0, none⟩) n cI) ∧ x.cell? ⟨ba, k * 12 + 4, none⟩ = some (.int .i64 c.set)) (BL (wA14.setCell ⟨ba, k * 12 + 5, none⟩ (.int .i64 c.set)))) ?_ ?_
        · refine Or.inl ⟨rfl, fun w hSw => ?_⟩
          exact EffR.same (by go_simp)
        try simp only [Act.put, List.setIfInBounds_toArray, List.set_cons_zero, List.set_cons_succ]
        refine wpAnyU_take (i := 16) (oi := { dst := some 34, op := Op.fieldAddr 38 (Operand.tmp 33) 4, type := 0, pos := "roll.go:178", after := #[{ on := 15, ground := Ground.data }, { on := 0, ground := Ground.phase }, { on := 1, ground := Ground.phase }, { on := 2, ground := Ground.phase }, { on := 3, ground := Ground.phase }, { on := 4, ground := Ground.phase }, { on := 5, ground := Ground.phase }, { on := 6, ground := Ground.phase }, { on := 7, ground := Ground.phase }, { on := 8, ground := Ground.phase }, { on := 9, ground := Ground.phase }, { on := 10, ground := Ground.phase }, { on := 11, ground := Ground.phase }, { on := 12, ground := Ground.phase }, { on := 13, ground := Ground.phase }, { on := 14, ground := Ground.phase }], guard := none }) (v := (.pointer (some ⟨ba, k * 12 + 4, none⟩))) rfl (by kernel_rfl) (by kernel_rfl) (by kernel_rfl) (by kernel_rfl) (by kernel_rfl) (fun _ _ _ h => h) (⟨fun x hx => ⟨BL.cell hx hS1, BL.cell hx hS4⟩, fun _ _ h hb => Below.next h hb⟩ : Cls (fun x => x.cell? ⟨g0, 1, none⟩ = some (.slice (some ⟨ba, 0, none⟩) n cI) ∧ x.cell? ⟨ba, k * 12 + 4, none⟩ = some (.int .i64 c.set)) (BL (wA14.setCell ⟨ba, k * 12 + 5, none⟩ (.int .i64 c.set)))) ?_ ?_
        · refine Or.inl ⟨rfl, fun w hSw => ?_⟩
          exact EffR.same (by go_simp)
        try simp only [Act.put, List.setIfInBounds_toArray, List.set_cons_zero, List.set_cons_succ]
        refine wpAnyU_last (o := { dst := none, op := Op.store 3 (Operand.tmp 34) (Operand.const (Value.int IntKind.i64 0)), type := 0, pos := "roll.go:178", after := #[{ on := 16, ground := Ground.data }, { on := 14, ground := Ground.chain }, { on := 0, ground := Ground.phase }, { on := 1, ground := Ground.phase }, { on := 2, ground := Ground.phase }, { on := 3, ground := Ground.phase }, { on := 4, ground := Ground.phase }, { on := 5, ground := Ground.phase }, { on := 6, ground := Ground.phase }, { on := 7, ground := Ground.phase }, { on := 8, ground := Ground.phase }, { on := 9, ground := Ground.phase }, { on := 10, ground := Ground.phase }, { on := 11, ground := Ground.phase }, { on := 12, ground := Ground.phase }, { on := 13, ground := Ground.phase }, { on := 14, ground := Ground.phase }], guard := none }) (by kernel_rfl) (by kernel_rfl) rfl (fun w1 hb1 K hK => ?_)
        have ho1 := OwnR.put1 (HOI.out.below hA14) HKL.out (j := 5) (by decide) (.int .i64 c.set) c5 HCK5.out
        have ho2 := ho1.below hb1
        have hl2 : k < ((tk R.I k).set k c5).length := by rw [List.length_set]; exact HKL.out
        have e5 : ((tk R.I k).set k c5)[k] = c5 := by simp
        have hcz := OwnR.cellAt ho2 hl2 (j := 4) (v := .int .i64 c.set) (by rw [e5, HC5.out]; rfl)
        obtain ⟨hc4, hf4⟩ := hcz
        have ho3 := OwnR.put1 ho2 hl2 (j := 4) (by decide) (.int .i64 0) c6 (by rw [e5, HC5.out, HC6.out]; rfl)
        rw [List.set_set] at ho3
        have HO9 := Lib.hid ho3
        clear ho3 e5
        go_simp
        have hk9 : Kept (fun k => k = ba) wr (w1.setCell ⟨ba, k * 12 + 4, none⟩ (.int .i64 0)) := ((((Kept.of_below hA14).weaken (fun _ h => h.elim)).trans ((Kept.refl (fun k => k = ba) wA14).setCell ⟨ba, k * 12 + 5, none⟩ (.int .i64 c.set) rfl) (fun _ _ h => h)).trans ((Kept.of_below hb1).weaken (fun _ h => h.elim)) (fun _ _ h => h)).setCell ⟨ba, k * 12 + 4, none⟩ _ rfl
        have HRB9 := Lib.hid (HRB.out.keptS hk9 (fun (e : g0 = ba) => HNE.out.1 e.symm))
        have HZB9 := Lib.hid (HZB.out.keptS hk9 (fun (e : gz = ba) => HNE.out.2.1 e.symm))
        have HOM9 := Lib.hid (OwnR.keptS HOM.out hk9 (fun g h (e : g = ba) => HAP.out.1 g h (by rw [e]; rfl)))
        have HOA9 := Lib.hid (OwnR.keptS HOA.out hk9 (fun g h (e : g = ba) => HAP.out.2.2 g (by rw [e]; rfl) h))
        have HBL9 : Hid (Below w.heap.size w (w1.setCell ⟨ba, k * 12 + 4, none⟩ (.int .i64 0))) := HBL.out.trans (hk9.below (fun q hq (e : q = ba) => by have := HNE.out.2.2; omega) HBL.out.size)
        obtain ⟨w9, hw9⟩ : ∃ zz, zz = (w1.setCell ⟨ba, k * 12 + 4, none⟩ (.int .i64 0)) := ⟨_, rfl⟩
        rw [← hw9] at HO9 HRB9 HZB9 HOM9 HOA9 HBL9 ⊢
        clear hk9 hw9 hb1
        refine hK.out _ _ ?_
        clear hK K
        try simp only [Act.put]
        go_wp2_with fail
        exact ⟨⟨k + 1, by omega, by push_cast; rfl, HRB9.out, HZB9.out, HOM9.out, by rw [HNX.out, ← HC6T.out]; exact HO9.out, HOA9.out, HBL9.out⟩, by simp [intOf]; omega⟩
    · obtain rfl : k = n := by omega
      have HX : Hid (wr.heap[g0]? = some (.cells #[.slice aM nM cM, .slice aI k cI, .slice aA nA cA] 26 (0, 0))) := HRB.out
      have HZ : Hid (wr.heap[gz]? = some (.cells #[.slice none 0 0, .slice none 0 0, .slice none 0 0] 26 (0, 0))) := HZB.out
      have HTK : Hid (tk R.I k = R.I.map turn1) := by show _ = _; have e := HN.out; rw [show k = R.I.length from e]; exact tk_all _
      have HSZ : Hid ((Try.prog.info? 26).map (·.size) = some (#[.slice aM nM cM, .slice aI k cI, .slice aA nA cA] : Array Value).size) := by show _ = _; rw [rol_sz]; rfl
      have HON : Hid ((#[.slice aM nM cM, .slice aI k cI, .slice aA nA cA] : Array Value).all (·.oneCell') = true) := by show _ = true; simp [Value.oneCell']
      go_wp2_with (first
        | (refine wpList_load_row rfl 26 (.tmp 1) rfl g0 rfl 26 #[.slice aM nM cM, .slice aI k cI, .slice aA nA cA] (0, 0) _ HX.out Try.underlying26 rfl HSZ.out ?_)
        | (refine wpList_store_row rfl 26 (.tmp 2) (.tmp 36) rfl gz #[.slice aM nM cM, .slice aI k cI, .slice aA nA cA] rfl rfl 26 #[.slice none 0 0, .slice none 0 0, .slice none 0 0] HZ.out HSZ.out rfl HON.out ?_)
        | fail)
      have hk9 := setRow_kept wr gz #[.slice aM nM cM, .slice aI k cI, .slice aA nA cA]
      refine bodyPost_ret (results_ht1 rfl (HT.row HZ.out rfl) rfl Try.underlying26 rfl rol_sz) rfl ?_
      have hI := HOI.out
      rw [HTK.out] at hI
      exact ⟨_, _, _, _, _, _, _, _, _, rfl, ⟨OwnR.keptS HOM.out hk9 (fun j h1 (e : j = gz) => (HOFF.out j (.inl h1)).2.1 e), OwnR.keptS hI hk9 (fun j h1 (e : j = gz) => (HOFF.out j (.inr (.inl h1))).2.1 e), OwnR.keptS HOA.out hk9 (fun j h1 (e : j = gz) => (HOFF.out j (.inr (.inr h1))).2.1 e)⟩, HAP.out, HBL.out.trans (setRow_below HGZ.out _)⟩
end Cam
