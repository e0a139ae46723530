import Derived.Test.YteabnccmomdnpaaClS
/- cambistlaw18.spoil. -/
namespace Cam
open Go Go.RowKit Go.Proofs

theorem flat_who (a : Int) : ∀ (l : List CT) (i : Nat) (hi : i < l.length), flatW CT.vs (l.set i ⟨a, l[i].cur, l[i].amt, l[i].tick⟩) = (flatW CT.vs l).set (i * 4) (.int .i64 a)
  | [], i, hi => by simp at hi
  | c :: l, 0, _ => by simp [flatW, CT.vs]
  | c :: l, i + 1, hi => by
    have ih := flat_who a l i (by simpa using hi)
    simp only [List.set_cons_succ, List.getElem_cons_succ]
    have e : (i + 1) * 4 = (i * 4) + 1 + 1 + 1 + 1 := by omega
    rw [e]
    have h : ∀ L : List CT, flatW CT.vs (c :: L) = .int .i64 c.who :: .int .i64 c.cur :: .int .i64 c.amt :: .int .i64 c.tick :: flatW CT.vs L := fun L => rfl
    rw [h, h, ih]
    rfl
set_option maxHeartbeats 1600000 in
theorem spoil_any (w : World) (base : Nat) (v : Value) (l : List CT) (h : OwnC w base v l) (hl : l.length ≤ 100000) (hb : base ≤ w.heap.size) :
    Calls Try.prog 21 #[v] w fun e w' => e = .returned (.tuple #[]) ∧ Below base w w' := by
  obtain ⟨a, n, c, rfl, HN, h⟩ := h.named
  have hl3 : n ≤ 100000 := by have := HN.out; omega
  have H := Lib.hid h
  clear h hl
  go_enter Try.func21, Try.ntmps21
  go_wp2_with fail
  go_loopw [2] (fun i wr => ∃ (k : Nat) (L : List CT), k ≤ n ∧ i = .int .i64 k ∧ Hid (n = L.length) ∧ Hid (OwnC wr base (.slice a n c) L) ∧ Below base w wr) (fun i _ => n - (intOf i).toNat)
  case atStart => exact ⟨0, l, Nat.zero_le _, rfl, HN, H, Below.refl _ _⟩
  case round =>
    obtain ⟨k, L, hk, rfl, HL, HO, hbel⟩ := hrel
    by_cases hlt : k < n
    · have hkl : k < L.length := by have := HL.out; omega
      have ho := HO.out
      obtain ⟨g, hg⟩ : ∃ g, a = some ⟨g, 0, none⟩ := by
        rcases ho.2.2 with ⟨_, h'⟩ | ⟨g, cap', cur, h', _⟩
        · exfalso
          simp at h'
          rw [h'] at hkl
          exact Nat.not_lt_zero k hkl
        · simp only [Value.slice.injEq] at h'
          exact ⟨g, h'.1⟩
      subst hg
      have ho' := ho.2
      rw [← HL.out] at ho'
      have hst := ho'.stored (k * 4) (.int .i64 (-77))
      rw [← flat_who (-77) L k hkl] at hst
      have hcell : wr.cell? ⟨g, k * 4, none⟩ = some (.int .i64 L[k].who) := by
        rw [ho'.cellAt (k * 4) (by omega)]
        exact flatW_at (f := CT.vs) (W := 4) (fun a _ => CT.len a) hkl 0 _ rfl
      have hfr := ho'.frozenAt (k * 4)
      have hge : base ≤ g := ho.ge g rfl
      have HST := Lib.hid hst
      have HGE := Lib.hid hge
      have HB := Lib.hid hbel
      have HBS := Lib.hid (Nat.le_trans hb hbel.size)
      generalize L[k].who = q at hcell
      clear ho ho' hst hge hbel HO
      go_wp2_with fail
      refine ⟨⟨k + 1, L.set k ⟨-77, L[k].cur, L[k].amt, L[k].tick⟩, by omega, by push_cast; rfl, ?_, ⟨CT.len, ?_⟩, HB.out.grown HST.out.2 HBS.out (fun j hj => by cases hj; exact HGE.out)⟩, by simp [intOf]; omega⟩
      · show n = _
        rw [List.length_set]; exact HL.out
      · rw [show (L.set k ⟨-77, L[k].cur, L[k].amt, L[k].tick⟩).length = n from (List.length_set ..).trans HL.out.symm]
        exact HST.out.1
    · go_wp2_with fail
      go_end0
      exact ⟨rfl, hbel⟩

set_option maxHeartbeats 800000 in
theorem spoil_own (w : World) (base : Nat) (v : Value) (l : List CT) (h : OwnC w base v l) (hl : l.length ≤ 100000) (hb : base ≤ w.heap.size) :
    Calls Try.prog 21 #[v] w fun e w' => e = .returned (.tuple #[]) ∧ Below base w w' ∧ Kept (fun k => v.ownBlock = some k) w w' := by
  obtain ⟨a, n, c, rfl, HN, h⟩ := h.named
  have hl3 : n ≤ 100000 := by have := HN.out; omega
  have H := Lib.hid h
  clear h hl
  go_enter Try.func21, Try.ntmps21
  go_wp2_with fail
  go_loopw [2] (fun i wr => ∃ (k : Nat) (L : List CT), k ≤ n ∧ i = .int .i64 k ∧ Hid (n = L.length) ∧ Hid (OwnC wr base (.slice a n c) L) ∧ Hid (Kept (fun k => (Value.slice a n c).ownBlock = some k) w wr) ∧ Below base w wr) (fun i _ => n - (intOf i).toNat)
  case atStart => exact ⟨0, l, Nat.zero_le _, rfl, HN, H, Kept.refl _ _, Below.refl _ _⟩
  case round =>
    obtain ⟨k, L, hk, rfl, HL, HO, HK, hbel⟩ := hrel
    by_cases hlt : k < n
    · have hkl : k < L.length := by have := HL.out; omega
      have ho := HO.out
      obtain ⟨g, hg⟩ : ∃ g, a = some ⟨g, 0, none⟩ := by
        rcases ho.2.2 with ⟨_, h'⟩ | ⟨g, cap', cur, h', _⟩
        · exfalso
          simp at h'
          rw [h'] at hkl
          exact Nat.not_lt_zero k hkl
        · simp only [Value.slice.injEq] at h'
          exact ⟨g, h'.1⟩
      subst hg
      have ho' := ho.2
      rw [← HL.out] at ho'
      have hst := ho'.stored (k * 4) (.int .i64 (-77))
      rw [← flat_who (-77) L k hkl] at hst
      have hcell : wr.cell? ⟨g, k * 4, none⟩ = some (.int .i64 L[k].who) := by
        rw [ho'.cellAt (k * 4) (by omega)]
        exact flatW_at (f := CT.vs) (W := 4) (fun a _ => CT.len a) hkl 0 _ rfl
      have hfr := ho'.frozenAt (k * 4)
      have hge : base ≤ g := ho.ge g rfl
      have HST := Lib.hid hst
      have HGE := Lib.hid hge
      have HB := Lib.hid hbel
      have HBS := Lib.hid (Nat.le_trans hb hbel.size)
      generalize L[k].who = q at hcell
      clear ho ho' hst hge hbel HO
      go_wp2_with fail
      refine ⟨⟨k + 1, L.set k ⟨-77, L[k].cur, L[k].amt, L[k].tick⟩, by omega, by push_cast; rfl, ?_, ⟨CT.len, ?_⟩, HK.out.trans (Kept.of_grown HST.out.2) (fun _ _ h => h), HB.out.grown HST.out.2 HBS.out (fun j hj => by cases hj; exact HGE.out)⟩, by simp [intOf]; omega⟩
      · show n = _
        rw [List.length_set]; exact HL.out
      · rw [show (L.set k ⟨-77, L[k].cur, L[k].amt, L[k].tick⟩).length = n from (List.length_set ..).trans HL.out.symm]
        exact HST.out.1
    · go_wp2_with fail
      go_end0
      exact ⟨rfl, hbel, HK.out⟩

end Cam
