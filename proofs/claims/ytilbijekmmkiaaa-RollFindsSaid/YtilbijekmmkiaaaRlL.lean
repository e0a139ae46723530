import Derived.Test.YtilbijekmmkiaaaRlW
/- cambistkeep: Spoil, SpoilRoll, Ints. -/
namespace Cam
open Go Go.RowKit Go.Proofs

set_option maxHeartbeats 1600000 in
theorem Spoil_any (w : World) (base : Nat) (v : Value) (l : List Int) (h : OwnI 3 w base v l) (hl : l.length ≤ 100000) (hb : base ≤ w.heap.size) :
    Calls Try.prog 29 #[v] w fun e w' => e = .returned (.tuple #[]) ∧ Below base w w' := by
  obtain ⟨a, n, c, rfl, HN, h⟩ := h.named
  have hl3 : n ≤ 100000 := by have := HN.out; omega
  have H := Lib.hid h
  clear h hl
  go_enter Try.func29, Try.ntmps29
  go_wp2_with fail
  go_loopw [2] (fun i wr => ∃ (k : Nat) (L : List Int), k ≤ n ∧ i = .int .i64 k ∧ Hid (n = L.length) ∧ Hid (OwnI 3 wr base (.slice a n c) L) ∧ Below base w wr) (fun i _ => n - (intOf i).toNat)
  case atStart => exact ⟨0, l, Nat.zero_le _, rfl, HN, H, Below.refl _ _⟩
  case round =>
    obtain ⟨k, L, hk, rfl, HL, HO, hbel⟩ := hrel
    by_cases hlt : k < n
    · have hkl : k < L.length := by have := HL.out; omega
      have ho' := HO.out
      unfold OwnI at ho'
      obtain ⟨g, hg⟩ : ∃ g, a = some ⟨g, 0, none⟩ := by
        rcases ho'.2 with ⟨_, h'⟩ | ⟨g, cap', cur, h', _⟩
        · exfalso
          simp at h'
          rw [h'] at hkl
          exact Nat.not_lt_zero k hkl
        · simp only [Value.slice.injEq] at h'
          exact ⟨g, h'.1⟩
      subst hg
      rw [← HL.out] at ho'
      have hst := ho'.stored k (.int .i64 (-77))
      rw [← List.map_set] at hst
      have hcell : wr.cell? ⟨g, k, none⟩ = some (.int .i64 L[k]) := by
        rw [ho'.cellAt k (by omega)]
        simp [hkl]
      have hfr := ho'.frozenAt k
      have hge : base ≤ g := (World.ownsRow.lt ho' g rfl).1
      have HST := Lib.hid hst
      have HGE := Lib.hid hge
      have HB := Lib.hid hbel
      have HBS := Lib.hid (Nat.le_trans hb hbel.size)
      generalize L[k] = q at hcell
      clear ho' hst hge hbel HO
      go_wp2_with fail
      refine ⟨⟨k + 1, L.set k (-77), by omega, by push_cast; rfl, ?_, ?_, HB.out.grown HST.out.2 HBS.out (fun j hj => by cases hj; exact HGE.out)⟩, by simp [intOf]; omega⟩
      · show n = _
        rw [List.length_set]; exact HL.out
      · show OwnI _ _ _ _ _
        unfold OwnI
        rw [show (L.set k (-77)).length = n from (List.length_set ..).trans HL.out.symm]
        exact HST.out.1
    · go_wp2_with fail
      go_end0
      exact ⟨rfl, hbel⟩

theorem OwnR.types {α β : Type} {e1 : α → List Value} {e2 : β → List Value} {K1 K2 : Nat} {t1 t2 : TypeId} {w : World} {b1 b2 : Nat} {u v : Value} {L : List α} {M : List β} (h : OwnR e1 K1 t1 w b1 u L) (k : OwnR e2 K2 t2 w b2 v M) (ht : t1 ≠ t2) : Apart2 u v := by
  intro g h1 h2
  rcases h.2.2 with ⟨hn, _⟩ | ⟨g1, cap1, cur1, rfl, _, hh1, _⟩
  · rw [hn] at h1; cases h1
  · rcases k.2.2 with ⟨hn, _⟩ | ⟨g2, cap2, cur2, rfl, _, hh2, _⟩
    · rw [hn] at h2; cases h2
    · simp only [Value.ownBlock, Option.some.injEq] at h1 h2
      subst h1
      subst h2
      rw [hh1] at hh2
      simp only [Option.some.injEq, Obj.cells.injEq] at hh2
      exact ht hh2.2.1
theorem OwnRoll.apart {w : World} {base : Nat} {va vb vc : Value} {R : RollT} (h : OwnRoll w base va vb vc R) : Apart va vb vc :=
  ⟨OwnR.types h.1 h.2.1 (by decide), OwnR.types h.1 h.2.2 (by decide), OwnR.types h.2.1 h.2.2 (by decide)⟩
set_option maxRecDepth 100000 in
set_option maxHeartbeats 3200000 in
theorem SpoilRoll_any (w : World) (base : Nat) (va vb vc : Value) (R : RollT) (h : OwnRoll w base va vb vc R) (hf : few R) (hb : base ≤ w.heap.size) :
    Calls Try.prog 25 #[.agg #[va, vb, vc]] w fun e w' => e = .returned (.tuple #[]) ∧ Below base w w' := by
  obtain ⟨aM, nM, cM, rfl, HNM, h1⟩ := h.1.named
  obtain ⟨aI, nI, cI, rfl, HNI, h2⟩ := h.2.1.named
  obtain ⟨aA, nA, cA, rfl, HNA, h3⟩ := h.2.2.named
  have hf2 : nM ≤ 1000 ∧ nI ≤ 1000 ∧ nA ≤ 1000 := by unfold few at hf; have := HNM.out; have := HNI.out; have := HNA.out; omega
  have hap := OwnRoll.apart h
  have hb0 : Below w.heap.size w (w.alloc (.cells #[.slice aM nM cM, .slice aI nI cI, .slice aA nA cA] 26)) := (Below.refl _ _).alloc (Nat.le_refl _) _
  have hx0 : HT (w.alloc (.cells #[.slice aM nM cM, .slice aI nI cI, .slice aA nA cA] 26)) w.heap.size 26 [.slice aM nM cM, .slice aI nI cI, .slice aA nA cA] := HT.new (w := w) (t := 26) (C := [.slice aM nM cM, .slice aI nI cI, .slice aA nA cA])
  have HOFF : Hid (∀ g, ((Value.slice aM nM cM).ownBlock = some g ∨ (Value.slice aI nI cI).ownBlock = some g ∨ (Value.slice aA nA cA).ownBlock = some g) → g < w.heap.size ∧ base ≤ g) := by
    intro g hg
    rcases hg with hg | hg | hg
    · exact ⟨OwnR.lt h1 g hg, OwnR.ge h1 g hg⟩
    · exact ⟨OwnR.lt h2 g hg, OwnR.ge h2 g hg⟩
    · exact ⟨OwnR.lt h3 g hg, OwnR.ge h3 g hg⟩
  have HM := Lib.hid (h1.below hb0)
  have HI := Lib.hid (h2.below hb0)
  have HA := Lib.hid (h3.below hb0)
  have HAP := Lib.hid hap
  have HX := Lib.hid hx0
  have HB := Lib.hid (hb0.mono hb)
  have HBA := Lib.hid hb
  clear h h1 h2 h3 hb0 hx0 hf hb hap
  go_enter Try.func25, Try.ntmps25
  go_upto_region 1 with fail
  generalize hW : (w.alloc (.cells #[.slice aM nM cM, .slice aI nI cI, .slice aA nA cA] 26)) = W0 at *
  clear hW
  obtain ⟨gb, hgb⟩ : ∃ z, z = w.heap.size := ⟨_, rfl⟩
  rw [← hgb] at HX HOFF ⊢
  have HGB : Hid (base ≤ gb) := by rw [hgb]; exact HBA.out
  clear hgb
  have hcM := HX.out.cell (j := 0) rfl
  go_wp2_with fail
  clear hcM
  go_loopw [2] (fun v wr => ∃ (k : Nat) (LM : List MbT), k ≤ nM ∧ v = .int .i64 (k : Int) ∧ Hid (nM = LM.length) ∧ HT wr gb 26 [.slice aM nM cM, .slice aI nI cI, .slice aA nA cA] ∧ OwnR MbT.vs 3 33 wr base (.slice aM nM cM) LM ∧ OwnR InT.vs 12 38 wr base (.slice aI nI cI) R.I ∧ OwnR AsT.vs 4 42 wr base (.slice aA nA cA) R.A ∧ Below base w wr) (fun v _ => nM - (intOf v).toNat)
  case atStart => exact ⟨0, _, Nat.zero_le _, rfl, HNM, HX.out, HM.out, HI.out, HA.out, HB.out⟩
  case round =>
    obtain ⟨k, LM, hk, rfl, HLM, hx, hM, hI, hA, hbel⟩ := hrel
    clear HX HM HI HA HB HNM
    have HX := Lib.hid hx
    have HM := Lib.hid hM
    have HI := Lib.hid hI
    have HA := Lib.hid hA
    have HB := Lib.hid hbel
    clear hbel hx hM hI hA
    have hcx := HX.out.cell (j := 0) rfl
    by_cases hlt : k < nM
    · have hkl : k < LM.length := by have := HLM.out; omega
      obtain ⟨ba, rfl, hba, hbs⟩ := HM.out.some_of (by omega)
      obtain ⟨c, hc⟩ : ∃ c, c = LM[k] := ⟨_, rfl⟩
      obtain ⟨hcc, hff⟩ := OwnR.cellAt HM.out hkl (j := 0) (v := .int .i64 c.no) (by rw [← hc]; rfl)
      have hpt := OwnR.put1 HM.out hkl (j := 0) (by decide) (.int .i64 (-77)) { c with no := -77 } (by rw [← hc]; rfl)
      simp only [Nat.add_zero] at hcc hff hpt
      have hoff := HOFF.out ba (.inl rfl)
      have hk9 : Kept (fun k => k = ba) wr (wr.setCell ⟨ba, k * 3, none⟩ (.int .i64 (-77))) := (Kept.refl _ _).setCell ⟨ba, k * 3, none⟩ _ rfl
      have HP := Lib.hid hpt
      have HX9 := Lib.hid (HX.out.keptS hk9 (fun (e : gb = ba) => by have := hoff.1; omega))
      have HI9 := Lib.hid (OwnR.keptS HI.out hk9 (fun g h (e : g = ba) => HAP.out.1 ba rfl (by rw [← e]; exact h)))
      have HA9 := Lib.hid (OwnR.keptS HA.out hk9 (fun g h (e : g = ba) => HAP.out.2.1 ba rfl (by rw [← e]; exact h)))
      have HB9 : Hid (Below base w (wr.setCell ⟨ba, k * 3, none⟩ (.int .i64 (-77)))) := HB.out.trans (Kept.below hk9 (fun q h (e : q = ba) => by omega) (Nat.le_trans HBA.out HB.out.size))
      clear hpt hk9 hba hbs hoff hc
      go_wp2_with fail
      exact ⟨⟨k + 1, _, by omega, by push_cast; rfl, by rw [List.length_set]; exact HLM.out, HX9.out, HP.out, HI9.out, HA9.out, HB9.out⟩, by simp [intOf]; omega⟩
    · clear hcx
      have hcx := HX.out.cell (j := 0) rfl
      have hcn := HX.out.cell (j := 1) rfl
      go_wp2_with fail
      clear hcx hcn
      go_loopw [3] (fun v wr => ∃ (k : Nat) (LI : List InT), k ≤ nI ∧ v = .int .i64 (k : Int) ∧ Hid (nI = LI.length) ∧ HT wr gb 26 [.slice aM nM cM, .slice aI nI cI, .slice aA nA cA] ∧ OwnR InT.vs 12 38 wr base (.slice aI nI cI) LI ∧ OwnR MbT.vs 3 33 wr base (.slice aM nM cM) LM ∧ OwnR AsT.vs 4 42 wr base (.slice aA nA cA) R.A ∧ Below base w wr) (fun v _ => nI - (intOf v).toNat)
      case atStart => exact ⟨0, _, Nat.zero_le _, rfl, HNI, HX.out, HI.out, HM.out, HA.out, HB.out⟩
      case round =>
        obtain ⟨k, LI, hk, rfl, HLI, hx, hI, hM, hA, hbel⟩ := hrel
        clear HX HM HI HA HB HNI
        have HX := Lib.hid hx
        have HI := Lib.hid hI
        have HM := Lib.hid hM
        have HA := Lib.hid hA
        have HB := Lib.hid hbel
        clear hbel hx hI hM hA
        have hcx := HX.out.cell (j := 1) rfl
        by_cases hlt : k < nI
        · have hkl : k < LI.length := by have := HLI.out; omega
          obtain ⟨ba, rfl, hba, hbs⟩ := HI.out.some_of (by omega)
          obtain ⟨c, hc⟩ : ∃ c, c = LI[k] := ⟨_, rfl⟩
          obtain ⟨hcc, hff⟩ := OwnR.cellAt HI.out hkl (j := 0) (v := .int .i64 c.no) (by rw [← hc]; rfl)
          have hpt := OwnR.put1 HI.out hkl (j := 0) (by decide) (.int .i64 (-77)) { c with no := -77 } (by rw [← hc]; rfl)
          simp only [Nat.add_zero] at hcc hff hpt
          have hoff := HOFF.out ba (.inr (.inl rfl))
          have hk9 : Kept (fun k => k = ba) wr (wr.setCell ⟨ba, k * 12, none⟩ (.int .i64 (-77))) := (Kept.refl _ _).setCell ⟨ba, k * 12, none⟩ _ rfl
          have HP := Lib.hid hpt
          have HX9 := Lib.hid (HX.out.keptS hk9 (fun (e : gb = ba) => by have := hoff.1; omega))
          have HM9 := Lib.hid (OwnR.keptS HM.out hk9 (fun g h (e : g = ba) => HAP.out.1 g h (by rw [e]; rfl)))
          have HA9 := Lib.hid (OwnR.keptS HA.out hk9 (fun g h (e : g = ba) => HAP.out.2.2 ba rfl (by rw [← e]; exact h)))
          have HB9 : Hid (Below base w (wr.setCell ⟨ba, k * 12, none⟩ (.int .i64 (-77)))) := HB.out.trans (Kept.below hk9 (fun q h (e : q = ba) => by omega) (Nat.le_trans HBA.out HB.out.size))
          clear hpt hk9 hba hbs hoff hc
          go_wp2_with fail
          exact ⟨⟨k + 1, _, by omega, by push_cast; rfl, by rw [List.length_set]; exact HLI.out, HX9.out, HP.out, HM9.out, HA9.out, HB9.out⟩, by simp [intOf]; omega⟩
        · clear hcx
          have hcx := HX.out.cell (j := 1) rfl
          have hcn := HX.out.cell (j := 2) rfl
          go_wp2_with fail
          clear hcx hcn
          go_loopw [4] (fun v wr => ∃ (k : Nat) (LA : List AsT), k ≤ nA ∧ v = .int .i64 (k : Int) ∧ Hid (nA = LA.length) ∧ HT wr gb 26 [.slice aM nM cM, .slice aI nI cI, .slice aA nA cA] ∧ OwnR AsT.vs 4 42 wr base (.slice aA nA cA) LA ∧ OwnR MbT.vs 3 33 wr base (.slice aM nM cM) LM ∧ OwnR InT.vs 12 38 wr base (.slice aI nI cI) LI ∧ Below base w wr) (fun v _ => nA - (intOf v).toNat)
          case atStart => exact ⟨0, _, Nat.zero_le _, rfl, HNA, HX.out, HA.out, HM.out, HI.out, HB.out⟩
          case round =>
            obtain ⟨k, LA, hk, rfl, HLA, hx, hA, hM, hI, hbel⟩ := hrel
            clear HX HM HI HA HB HNA
            have HX := Lib.hid hx
            have HA := Lib.hid hA
            have HM := Lib.hid hM
            have HI := Lib.hid hI
            have HB := Lib.hid hbel
            clear hbel hx hA hM hI
            have hcx := HX.out.cell (j := 2) rfl
            by_cases hlt : k < nA
            · have hkl : k < LA.length := by have := HLA.out; omega
              obtain ⟨ba, rfl, hba, hbs⟩ := HA.out.some_of (by omega)
              obtain ⟨c, hc⟩ : ∃ c, c = LA[k] := ⟨_, rfl⟩
              obtain ⟨hcc, hff⟩ := OwnR.cellAt HA.out hkl (j := 0) (v := .int .i64 c.no) (by rw [← hc]; rfl)
              have hpt := OwnR.put1 HA.out hkl (j := 0) (by decide) (.int .i64 (-77)) { c with no := -77 } (by rw [← hc]; rfl)
              simp only [Nat.add_zero] at hcc hff hpt
              have hoff := HOFF.out ba (.inr (.inr rfl))
              have hk9 : Kept (fun k => k = ba) wr (wr.setCell ⟨ba, k * 4, none⟩ (.int .i64 (-77))) := (Kept.refl _ _).setCell ⟨ba, k * 4, none⟩ _ rfl
              have HP := Lib.hid hpt
              have HX9 := Lib.hid (HX.out.keptS hk9 (fun (e : gb = ba) => by have := hoff.1; omega))
              have HM9 := Lib.hid (OwnR.keptS HM.out hk9 (fun g h (e : g = ba) => HAP.out.2.1 g h (by rw [e]; rfl)))
              have HI9 := Lib.hid (OwnR.keptS HI.out hk9 (fun g h (e : g = ba) => HAP.out.2.2 g h (by rw [e]; rfl)))
              have HB9 : Hid (Below base w (wr.setCell ⟨ba, k * 4, none⟩ (.int .i64 (-77)))) := HB.out.trans (Kept.below hk9 (fun q h (e : q = ba) => by omega) (Nat.le_trans HBA.out HB.out.size))
              clear hpt hk9 hba hbs hoff hc
              go_wp2_with fail
              exact ⟨⟨k + 1, _, by omega, by push_cast; rfl, by rw [List.length_set]; exact HLA.out, HX9.out, HP.out, HM9.out, HI9.out, HB9.out⟩, by simp [intOf]; omega⟩
            · clear hcx
              have hcx := HX.out.cell (j := 2) rfl
              go_wp2_with fail
              go_end0
              exact ⟨rfl, HB.out⟩

set_option maxRecDepth 100000 in
set_option maxHeartbeats 1600000 in
theorem KInts_same (w : World) (va vb : Value) (L : List Int) (ha : Is w va L) (hb : Is w vb L) :
    Calls Try.prog 27 #[va, vb] w fun e w' => e = .returned (.bool true) ∧ Below w.heap.size w w' := by
  obtain ⟨aa, capa, rfl, hcapa, hma⟩ := ha.shape
  obtain ⟨ab, capb, rfl, hcapb, hmb⟩ := hb.shape
  obtain ⟨n, hn⟩ : ∃ n, n = L.length := ⟨_, rfl⟩
  rw [← hn] at ha hb hcapa hcapb ⊢
  have HA := Lib.hid ha
  have HB := Lib.hid hb
  have HN := Lib.hid hn
  clear ha hb hn
  go_enter Try.func27, Try.ntmps27
  go_wp2_with fail
  go_loopw [5] (fun i wr => ∃ k : Nat, k ≤ n ∧ i = .int .i64 k ∧ Below w.heap.size w wr) (fun i _ => n - (intOf i).toNat)
  case atStart => exact ⟨0, Nat.zero_le _, rfl, Below.refl _ _⟩
  case round =>
    obtain ⟨k, hk, rfl, hbel⟩ := hrel
    have HBL := Lib.hid hbel
    by_cases hlt : k < n
    · have hkL : k < L.length := by rw [← HN.out]; exact hlt
      obtain ⟨ba, offa, rfl, _, hca⟩ := (HA.out.mono hbel).at (by omega)
      obtain ⟨bb, offb, rfl, _, hcb⟩ := (HB.out.mono hbel).at (by omega)
      obtain ⟨c, hc⟩ : ∃ c, c = L[k] := ⟨_, rfl⟩
      have h1 := hca k hkL
      have h2 := hcb k hkL
      rw [← hc] at h1 h2
      have HCA := Lib.hid h1
      have HCB := Lib.hid h2
      have hk0 : (0 : Int) ≤ k := by omega
      have hk1 : (k : Int) < n := by omega
      clear hca hcb hbel hc h1 h2
      go_wp2_with fail
      refine wp_region_bl 9 (by kernel_rfl) ?_
      refine wpAnyU_take (i := 0) (oi := { dst := some 17, op := Op.move (Operand.tmp 0), type := 27, pos := "keep.go:36", after := #[], guard := none }) (v := (.slice (some ⟨ba, offa, none⟩) n capa)) rfl (by kernel_rfl) (by kernel_rfl) (by kernel_rfl) (by kernel_rfl) (by kernel_rfl) (fun _ _ _ h => h) (BL.cls wr) ?_ ?_
      · refine Or.inl ⟨rfl, fun w hSw => ?_⟩
        exact EffR.same (by go_simp)
      try simp only [Act.put, List.setIfInBounds_toArray, List.set_cons_zero, List.set_cons_succ]
      refine wpAnyU_take (i := 1) (oi := { dst := some 18, op := Op.move (Operand.tmp 5), type := 3, pos := "keep.go:36", after := #[], guard := none }) (v := (.int .i64 (k : Int))) rfl (by kernel_rfl) (by kernel_rfl) (by kernel_rfl) (by kernel_rfl) (by kernel_rfl) (fun _ _ _ h => h) (BL.cls wr) ?_ ?_
      · refine Or.inl ⟨rfl, fun w hSw => ?_⟩
        exact EffR.same (by go_simp)
      try simp only [Act.put, List.setIfInBounds_toArray, List.set_cons_zero, List.set_cons_succ]
      refine wpAnyU_take (i := 2) (oi := { dst := some 19, op := Op.indexAddr 27 (Operand.tmp 17) (Operand.tmp 18), type := 0, pos := "keep.go:36", after := #[{ on := 0, ground := Ground.data }, { on := 1, ground := Ground.data }], guard := none }) (v := (.pointer (some ⟨ba, offa + k, none⟩))) rfl (by kernel_rfl) (by kernel_rfl) (by kernel_rfl) (by kernel_rfl) (by kernel_rfl) (fun _ _ _ h => h) (BL.cls wr) ?_ ?_
      · refine Or.inl ⟨rfl, fun w hSw => ?_⟩
        exact EffR.same (by go_simp)
      try simp only [Act.put, List.setIfInBounds_toArray, List.set_cons_zero, List.set_cons_succ]
      refine wpAnyU_take (i := 3) (oi := { dst := some 20, op := Op.load 3 (Operand.tmp 19), type := 3, pos := "keep.go:36", after := #[{ on := 2, ground := Ground.data }], guard := none }) (v := (.int .i64 c)) rfl (by kernel_rfl) (by kernel_rfl) (by kernel_rfl) (by kernel_rfl) (by kernel_rfl) (fun _ _ _ h => h) (BL.cls wr) ?_ ?_
      · refine Or.inl ⟨rfl, fun w hSw => ?_⟩
        have e0 : w.cell? ⟨ba, offa + k, none⟩ = some (.int .i64 c) := BL.cell hSw HCA.out
        exact EffR.same (by go_simp)
      try simp only [Act.put, List.setIfInBounds_toArray, List.set_cons_zero, List.set_cons_succ]
      refine wpAnyU_take (i := 4) (oi := { dst := some 21, op := Op.move (Operand.tmp 1), type := 27, pos := "keep.go:36", after := #[], guard := none }) (v := (.slice (some ⟨bb, offb, none⟩) n capb)) rfl (by kernel_rfl) (by kernel_rfl) (by kernel_rfl) (by kernel_rfl) (by kernel_rfl) (fun _ _ _ h => h) (BL.cls wr) ?_ ?_
      · refine Or.inl ⟨rfl, fun w hSw => ?_⟩
        exact EffR.same (by go_simp)
      try simp only [Act.put, List.setIfInBounds_toArray, List.set_cons_zero, List.set_cons_succ]
      refine wpAnyU_take (i := 5) (oi := { dst := some 22, op := Op.move (Operand.tmp 5), type := 3, pos := "keep.go:36", after := #[], guard := none }) (v := (.int .i64 (k : Int))) rfl (by kernel_rfl) (by kernel_rfl) (by kernel_rfl) (by kernel_rfl) (by kernel_rfl) (fun _ _ _ h => h) (BL.cls wr) ?_ ?_
      · refine Or.inl ⟨rfl, fun w hSw => ?_⟩
        exact EffR.same (by go_simp)
      try simp only [Act.put, List.setIfInBounds_toArray, List.set_cons_zero, List.set_cons_succ]
      refine wpAnyU_take (i := 6) (oi := { dst := some 23, op := Op.indexAddr 27 (Operand.tmp 21) (Operand.tmp 22), type := 0, pos := "keep.go:36", after := #[{ on := 4, ground := Ground.data }, { on := 5, ground := Ground.data }], guard := none }) (v := (.pointer (some ⟨bb, offb + k, none⟩))) rfl (by kernel_rfl) (by kernel_rfl) (by kernel_rfl) (by kernel_rfl) (by kernel_rfl) (fun _ _ _ h => h) (BL.cls wr) ?_ ?_
      · refine Or.inl ⟨rfl, fun w hSw => ?_⟩
        exact EffR.same (by go_simp)
      try simp only [Act.put, List.setIfInBounds_toArray, List.set_cons_zero, List.set_cons_succ]
      refine wpAnyU_take (i := 7) (oi := { dst := some 24, op := Op.load 3 (Operand.tmp 23), type := 3, pos := "keep.go:36", after := #[{ on := 6, ground := Ground.data }], guard := none }) (v := (.int .i64 c)) rfl (by kernel_rfl) (by kernel_rfl) (by kernel_rfl) (by kernel_rfl) (by kernel_rfl) (fun _ _ _ h => h) (BL.cls wr) ?_ ?_
      · refine Or.inl ⟨rfl, fun w hSw => ?_⟩
        have e0 : w.cell? ⟨bb, offb + k, none⟩ = some (.int .i64 c) := BL.cell hSw HCB.out
        exact EffR.same (by go_simp)
      try simp only [Act.put, List.setIfInBounds_toArray, List.set_cons_zero, List.set_cons_succ]
      refine wpAnyU_take (i := 8) (oi := { dst := some 25, op := Op.binOp BinOp.neq 3 (Operand.tmp 20) (Operand.tmp 24) 3, type := 4, pos := "keep.go:36", after := #[{ on := 3, ground := Ground.data }, { on := 7, ground := Ground.data }], guard := none }) (v := (.bool false)) rfl (by kernel_rfl) (by kernel_rfl) (by kernel_rfl) (by kernel_rfl) (by kernel_rfl) (fun _ _ _ h => h) (BL.cls wr) ?_ ?_
      · refine Or.inl ⟨rfl, fun w hSw => ?_⟩
        exact EffR.same (by go_simp)
      try simp only [Act.put, List.setIfInBounds_toArray, List.set_cons_zero, List.set_cons_succ]
      refine wpAnyU_done (by kernel_rfl) (fun w1 hb1 => ?_) _
      go_wp2_with fail
      exact ⟨⟨k + 1, by omega, by push_cast; rfl, bgoS HBL.out hb1⟩, by simp [intOf]; omega⟩
    · obtain rfl : k = n := by omega
      go_wp2_with fail
      go_ret
      exact ⟨rfl, HBL.out⟩
end Cam
