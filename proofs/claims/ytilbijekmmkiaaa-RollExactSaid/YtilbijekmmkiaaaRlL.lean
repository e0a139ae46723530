import Derived.Test.YtilbijekmmkiaaaRlW
/- cambistkeep: Spoil, SpoilRoll, Ints. -/
namespace Cam
open Go Go.RowKit Go.Proofs
theorem OwnR.types {α β : Type} {e1 : α → List Value} {e2 : β → List Value} {K1 K2 : Nat} {t1 t2 : TypeId} {w : World} {b1 b2 : Nat} {u v : Value} {L : List α} {M : List β} (h : OwnR e1 K1 t1 w b1 u L) (k : OwnR e2 K2 t2 w b2 v M) (ht : t1 ≠ t2) : Apart2 u v := by
 intro g h1 h2
 rcases h.2.2 with ⟨hn, _⟩ | ⟨g1, cap1, cur1, rfl, _, hh1, _⟩
 ·
  rw [hn] at h1; cases h1
 ·
  rcases k.2.2 with ⟨hn, _⟩ | ⟨g2, cap2, cur2, rfl, _, hh2, _⟩
  ·
   rw [hn] at h2; cases h2
  ·
   simp only [Value.ownBlock, Option.some.injEq] at h1 h2
   subst h1
   subst h2
   rw [hh1] at hh2
   simp only [Option.some.injEq, Obj.cells.injEq] at hh2
   exact ht hh2.2.1
theorem OwnRoll.apart {w : World} {base : Nat} {va vb vc : Value} {R : RollT} (h : OwnRoll w base va vb vc R) : Apart va vb vc :=
 ⟨OwnR.types h.1 h.2.1 (by decide), OwnR.types h.1 h.2.2 (by decide), OwnR.types h.2.1 h.2.2 (by decide)⟩
set_option maxRecDepth 100000 in
set_option maxHeartbeats 3200000 in
theorem SpoilRoll_any (w : World) (base : Nat) (va vb vc : Value) (R : RollT) (h : OwnRoll w base va vb vc R) (hf : few R) (hb : base ≤ w.heap.size) :
  Calls Try.prog 25 #[.agg #[va, vb, vc]] w fun e w' => e = .returned (.tuple #[]) ∧ Below base w w' := by
 obtain ⟨aM, nM, cM, rfl, HNM, h1⟩ := h.1.named
 obtain ⟨aI, nI, cI, rfl, HNI, h2⟩ := h.2.1.named
 obtain ⟨aA, nA, cA, rfl, HNA, h3⟩ := h.2.2.named
 have hf2 : nM ≤ 1000 ∧ nI ≤ 1000 ∧ nA ≤ 1000 := by unfold few at hf; have := HNM.out; have := HNI.out; have := HNA.out; omega
 have hap := OwnRoll.apart h
 have hb0 : Below w.heap.size w (w.alloc (.cells #[.slice aM nM cM, .slice aI nI cI, .slice aA nA cA] 26)) := (Below.refl _ _).alloc (Nat.le_refl _) _
 have hx0 : HT (w.alloc (.cells #[.slice aM nM cM, .slice aI nI cI, .slice aA nA cA] 26)) w.heap.size 26 [.slice aM nM cM, .slice aI nI cI, .slice aA nA cA] := HT.new (w := w) (t := 26) (C := [.slice aM nM cM, .slice aI nI cI, .slice aA nA cA])
 have HOFF : Hid (∀ g, ((Value.slice aM nM cM).ownBlock = some g ∨ (Value.slice aI nI cI).ownBlock = some g ∨ (Value.slice aA nA cA).ownBlock = some g) → g < w.heap.size ∧ base ≤ g) := by
  intro g hg
  rcases hg with hg | hg | hg
  ·
   exact ⟨OwnR.lt h1 g hg, OwnR.ge h1 g hg⟩
  ·
   exact ⟨OwnR.lt h2 g hg, OwnR.ge h2 g hg⟩
  ·
   exact ⟨OwnR.lt h3 g hg, OwnR.ge h3 g hg⟩
 have HM := Lib.hid (h1.below hb0)
 have HI := Lib.hid (h2.below hb0)
 have HA := Lib.hid (h3.below hb0)
 have HAP := Lib.hid hap
 have HX := Lib.hid hx0
 have HB := Lib.hid (hb0.mono hb)
 have HBA := Lib.hid hb
 clear h h1 h2 h3 hb0 hx0 hf hb hap
 go_enter Try.func25, Try.ntmps25
 go_upto_region 1 with fail
 generalize hW : (w.alloc (.cells #[.slice aM nM cM, .slice aI nI cI, .slice aA nA cA] 26)) = W0 at *
 clear hW
 obtain ⟨gb, hgb⟩ : ∃ z, z = w.heap.size := ⟨_, rfl⟩
 rw [← hgb] at HX HOFF ⊢
 have HGB : Hid (base ≤ gb) := by rw [hgb]; exact HBA.out
 clear hgb
 have hcM := HX.out.cell (j := 0) rfl
 go_wp2_with fail
 clear hcM
 go_loopw [2] (fun v wr => ∃ (k : Nat) (LM : List MbT), k ≤ nM ∧ v = .int .i64 (k : Int) ∧ Hid (nM = LM.length) ∧ HT wr gb 26 [.slice aM nM cM, .slice aI nI cI, .slice aA nA cA] ∧ OwnR MbT.vs 3 33 wr base (.slice aM nM cM) LM ∧ OwnR InT.vs 12 38 wr base (.slice aI nI cI) R.I ∧ OwnR AsT.vs 4 42 wr base (.slice aA nA cA) R.A ∧ Below base w wr) (fun v _ => nM - (intOf v).toNat)
 case atStart => exact ⟨0, _, Nat.zero_le _, rfl, HNM, HX.out, HM.out, HI.out, HA.out, HB.out⟩
 case round =>
  obtain ⟨k, LM, hk, rfl, HLM, hx, hM, hI, hA, hbel⟩ := hrel
  clear HX HM HI HA HB HNM
  have HX := Lib.hid hx
  have HM := Lib.hid hM
  have HI := Lib.hid hI
  have HA := Lib.hid hA
  have HB := Lib.hid hbel
  clear hbel hx hM hI hA
  have hcx := HX.out.cell (j := 0) rfl
  by_cases hlt : k < nM
  ·
   have hkl : k < LM.length := by have := HLM.out; omega
   obtain ⟨ba, rfl, hba, hbs⟩ := HM.out.some_of (by omega)
   obtain ⟨c, hc⟩ : ∃ c, c = LM[k] := ⟨_, rfl⟩
   obtain ⟨hcc, hff⟩ := OwnR.cellAt HM.out hkl (j := 0) (v := .int .i64 c.no) (by rw [← hc]; rfl)
   have hpt := OwnR.put1 HM.out hkl (j := 0) (by decide) (.int .i64 (-77)) { c with no := -77 } (by rw [← hc]; rfl)
   simp only [Nat.add_zero] at hcc hff hpt
   have hoff := HOFF.out ba (.inl rfl)
   have hk9 : Kept (fun k => k = ba) wr (wr.setCell ⟨ba, k * 3, none⟩ (.int .i64 (-77))) := (Kept.refl _ _).setCell ⟨ba, k * 3, none⟩ _ rfl
   have HP := Lib.hid hpt
   have HX9 := Lib.hid (HX.out.keptS hk9 (fun (e : gb = ba) => by have := hoff.1; omega))
   have HI9 := Lib.hid (OwnR.keptS HI.out hk9 (fun g h (e : g = ba) => HAP.out.1 ba rfl (by rw [← e]; exact h)))
   have HA9 := Lib.hid (OwnR.keptS HA.out hk9 (fun g h (e : g = ba) => HAP.out.2.1 ba rfl (by rw [← e]; exact h)))
   have HB9 : Hid (Below base w (wr.setCell ⟨ba, k * 3, none⟩ (.int .i64 (-77)))) := HB.out.trans (Kept.below hk9 (fun q h (e : q = ba) => by omega) (Nat.le_trans HBA.out HB.out.size))
   clear hpt hk9 hba hbs hoff hc
   go_wp2_with fail
   exact ⟨⟨k + 1, _, by omega, by push_cast; rfl, by rw [List.length_set]; exact HLM.out, HX9.out, HP.out, HI9.out, HA9.out, HB9.out⟩, by simp [intOf]; omega⟩
  ·
   clear hcx
   have hcx := HX.out.cell (j := 0) rfl
   have hcn := HX.out.cell (j := 1) rfl
   go_wp2_with fail
   clear hcx hcn
   go_loopw [3] (fun v wr => ∃ (k : Nat) (LI : List InT), k ≤ nI ∧ v = .int .i64 (k : Int) ∧ Hid (nI = LI.length) ∧ HT wr gb 26 [.slice aM nM cM, .slice aI nI cI, .slice aA nA cA] ∧ OwnR InT.vs 12 38 wr base (.slice aI nI cI) LI ∧ OwnR MbT.vs 3 33 wr base (.slice aM nM cM) LM ∧ OwnR AsT.vs 4 42 wr base (.slice aA nA cA) R.A ∧ Below base w wr) (fun v _ => nI - (intOf v).toNat)
   case atStart => exact ⟨0, _, Nat.zero_le _, rfl, HNI, HX.out, HI.out, HM.out, HA.out, HB.out⟩
   case round =>
    obtain ⟨k, LI, hk, rfl, HLI, hx, hI, hM, hA, hbel⟩ := hrel
    clear HX HM HI HA HB HNI
    have HX := Lib.hid hx
    have HI := Lib.hid hI
    have HM := Lib.hid hM
    have HA := Lib.hid hA
    have HB := Lib.hid hbel
    clear hbel hx hI hM hA
    have hcx := HX.out.cell (j := 1) rfl
    by_cases hlt : k < nI
    ·
     have hkl : k < LI.length := by have := HLI.out; omega
     obtain ⟨ba, rfl, hba, hbs⟩ := HI.out.some_of (by omega)
     obtain ⟨c, hc⟩ : ∃ c, c = LI[k] := ⟨_, rfl⟩
     obtain ⟨hcc, hff⟩ := OwnR.cellAt HI.out hkl (j := 0) (v := .int .i64 c.no) (by rw [← hc]; rfl)
     have hpt := OwnR.put1 HI.out hkl (j := 0) (by decide) (.int .i64 (-77)) { c with no := -77 } (by rw [← hc]; rfl)
     simp only [Nat.add_zero] at hcc hff hpt
     have hoff := HOFF.out ba (.inr (.inl rfl))
     have hk9 : Kept (fun k => k = ba) wr (wr.setCell ⟨ba, k * 12, none⟩ (.int .i64 (-77))) := (Kept.refl _ _).setCell ⟨ba, k * 12, none⟩ _ rfl
     have HP := Lib.hid hpt
     have HX9 := Lib.hid (HX.out.keptS hk9 (fun (e : gb = ba) => by have := hoff.1; omega))
     have HM9 := Lib.hid (OwnR.keptS HM.out hk9 (fun g h (e : g = ba) => HAP.out.1 g h (by rw [e]; rfl)))
     have HA9 := Lib.hid (OwnR.keptS HA.out hk9 (fun g h (e : g = ba) => HAP.out.2.2 ba rfl (by rw [← e]; exact h)))
     have HB9 : Hid (Below base w (wr.setCell ⟨ba, k * 12, none⟩ (.int .i64 (-77)))) := HB.out.trans (Kept.below hk9 (fun q h (e : q = ba) => by omega) (Nat.le_trans HBA.out HB.out.size))
     clear hpt hk9 hba hbs hoff hc
     go_wp2_with fail
     exact ⟨⟨k + 1, _, by omega, by push_cast; rfl, by rw [List.length_set]; exact HLI.out, HX9.out, HP.out, HM9.out, HA9.out, HB9.out⟩, by simp [intOf]; omega⟩
    ·
     clear hcx
     have hcx := HX.out.cell (j := 1) rfl
     have hcn := HX.out.cell (j := 2) rfl
     go_wp2_with fail
     clear hcx hcn
     go_loopw [4] (fun v wr => ∃ (k : Nat) (LA : List AsT), k ≤ nA ∧ v = .int .i64 (k : Int) ∧ Hid (nA = LA.length) ∧ HT wr gb 26 [.slice aM nM cM, .slice aI nI cI, .slice aA nA cA] ∧ OwnR AsT.vs 4 42 wr base (.slice aA nA cA) LA ∧ OwnR MbT.vs 3 33 wr base (.slice aM nM cM) LM ∧ OwnR InT.vs 12 38 wr base (.slice aI nI cI) LI ∧ Below base w wr) (fun v _ => nA - (intOf v).toNat)
     case atStart => exact ⟨0, _, Nat.zero_le _, rfl, HNA, HX.out, HA.out, HM.out, HI.out, HB.out⟩
     case round =>
      obtain ⟨k, LA, hk, rfl, HLA, hx, hA, hM, hI, hbel⟩ := hrel
      clear HX HM HI HA HB HNA
      have HX := Lib.hid hx
      have HA := Lib.hid hA
      have HM := Lib.hid hM
      have HI := Lib.hid hI
      have HB := Lib.hid hbel
      clear hbel hx hA hM hI
      have hcx := HX.out.cell (j := 2) rfl
      by_cases hlt : k < nA
      ·
       have hkl : k < LA.length := by have := HLA.out; omega
       obtain ⟨ba, rfl, hba, hbs⟩ := HA.out.some_of (by omega)
       obtain ⟨c, hc⟩ : ∃ c, c = LA[k] := ⟨_, rfl⟩
       obtain ⟨hcc, hff⟩ := OwnR.cellAt HA.out hkl (j := 0) (v := .int .i64 c.no) (by rw [← hc]; rfl)
       have hpt := OwnR.put1 HA.out hkl (j := 0) (by decide) (.int .i64 (-77)) { c with no := -77 } (by rw [← hc]; rfl)
       simp only [Nat.add_zero] at hcc hff hpt
       have hoff := HOFF.out ba (.inr (.inr rfl))
       have hk9 : Kept (fun k => k = ba) wr (wr.setCell ⟨ba, k * 4, none⟩ (.int .i64 (-77))) := (Kept.refl _ _).setCell ⟨ba, k * 4, none⟩ _ rfl
       have HP := Lib.hid hpt
       have HX9 := Lib.hid (HX.out.keptS hk9 (fun (e : gb = ba) => by have := hoff.1; omega))
       have HM9 := Lib.hid (OwnR.keptS HM.out hk9 (fun g h (e : g = ba) => HAP.out.2.1 g h (by rw [e]; rfl)))
       have HI9 := Lib.hid (OwnR.keptS HI.out hk9 (fun g h (e : g = ba) => HAP.out.2.2 g h (by rw [e]; rfl)))
       have HB9 : Hid (Below base w (wr.setCell ⟨ba, k * 4, none⟩ (.int .i64 (-77)))) := HB.out.trans (Kept.below hk9 (fun q h (e : q = ba) => by omega) (Nat.le_trans HBA.out HB.out.size))
       clear hpt hk9 hba hbs hoff hc
       go_wp2_with fail
       exact ⟨⟨k + 1, _, by omega, by push_cast; rfl, by rw [List.length_set]; exact HLA.out, HX9.out, HP.out, HM9.out, HI9.out, HB9.out⟩, by simp [intOf]; omega⟩
      ·
       clear hcx
       have hcx := HX.out.cell (j := 2) rfl
       go_wp2_with fail
       go_end0
       exact ⟨rfl, HB.out⟩
end Cam
