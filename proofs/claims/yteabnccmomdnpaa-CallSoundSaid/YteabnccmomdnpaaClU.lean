import Derived.Test.YteabnccmomdnpaaClB
import Derived.Test.YteabnccmomdnpaaClW
/- call.put: in no calls; where a call is found. -/
namespace Cam
open Go Go.RowKit Go.Proofs

theorem flat_amt (a : Int) : ∀ (l : List CT) (i : Nat) (hi : i < l.length), flatW CT.vs (l.set i ⟨l[i].who, l[i].cur, a, l[i].tick⟩) = (flatW CT.vs l).set (i * 4 + 2) (.int .i64 a)
  | [], i, hi => by simp at hi
  | c :: l, 0, _ => by simp [flatW, CT.vs]
  | c :: l, i + 1, hi => by
    have ih := flat_amt a l i (by simpa using hi)
    simp only [List.set_cons_succ, List.getElem_cons_succ]
    have e : (i + 1) * 4 + 2 = (i * 4 + 2) + 1 + 1 + 1 + 1 := by omega
    rw [e]
    have h : ∀ L : List CT, flatW CT.vs (c :: L) = .int .i64 c.who :: .int .i64 c.cur :: .int .i64 c.amt :: .int .i64 c.tick :: flatW CT.vs L := fun L => rfl
    rw [h, h, ih]
    rfl
set_option maxRecDepth 100000 in
set_option maxHeartbeats 1600000 in
theorem put_nil (w : World) (v : Value) (who cur amt at0 : Int) (h : Cs w v []) (ha : 0 < amt) :
    Calls Try.prog 27 #[v, .agg #[.int .i64 who, .int .i64 cur, .int .i64 amt], .int .i64 at0] w (InsPost w w.heap.size [⟨who, cur, amt, at0⟩]) := by
  have hbW := (Below.refl w.heap.size w).alloc (Nat.le_refl _) (.cells #[.int .i64 who, .int .i64 cur, .int .i64 amt] 26)
  have hn0 := heap_alloc_new w (.cells #[.int .i64 who, .int .i64 cur, .int .i64 amt] 26)
  have hcl : ∀ j u, #[Value.int .i64 who, .int .i64 cur, .int .i64 amt][j]? = some u → (w.alloc (.cells #[.int .i64 who, .int .i64 cur, .int .i64 amt] 26)).cell? ⟨w.heap.size, j, none⟩ = some u := by
    intro j u hu
    unfold World.cell?
    rw [hn0]
    exact hu
  have hS3 : (w.alloc (.cells #[.int .i64 who, .int .i64 cur, .int .i64 amt] 26)).cell? ⟨w.heap.size, 0, none⟩ = some (.int .i64 who) ∧ (w.alloc (.cells #[.int .i64 who, .int .i64 cur, .int .i64 amt] 26)).cell? ⟨w.heap.size, 1, none⟩ = some (.int .i64 cur) ∧ (w.alloc (.cells #[.int .i64 who, .int .i64 cur, .int .i64 amt] 26)).cell? ⟨w.heap.size, 2, none⟩ = some (.int .i64 amt) ∧ Below w.heap.size w (w.alloc (.cells #[.int .i64 who, .int .i64 cur, .int .i64 amt] 26)) := ⟨hcl 0 _ rfl, hcl 1 _ rfl, hcl 2 _ rfl, hbW⟩
  have HS3 := Lib.hid hS3
  have hv := h.mono hbW
  have HB0 := Lib.hid hbW.size
  obtain ⟨av, cap, rfl, _, _⟩ := h.shape
  clear hcl hn0 hbW hS3 h
  go_enter Try.func27, Try.ntmps27
  go_wp2_with fail
  refine (Clone_any _ _ [] hv (by simp)).mono ?_
  clear hv
  rintro e w1 ⟨a, n, c, rfl, ho, hb⟩
  obtain rfl : n = 0 := by
    obtain ⟨_, _, e9, _, _⟩ := ho.rs.shape
    simp only [Value.slice.injEq, List.length_nil] at e9
    exact e9.2.1
  have hS1 := keepK3 hb HS3.out
  clear hb HS3
  have HO := Lib.hid ho
  clear ho
  have hd := (⟨hS1.1, hS1.2.1⟩ : _ ∧ _)
  have HS1 := Lib.hid hS1
  clear hS1
  have bs := bsf_any w1 (.slice a 0 c) [] 0 w.heap.size who cur HO.out.rs (by simp) (fun p q hq _ => absurd hq (Nat.not_lt_zero q)) hd
  clear hd
  go_wp2_with fail
  refine bs.mono ?_
  clear bs
  rintro e w2 ⟨i, ⟨hi, _, _⟩, rfl, hb⟩
  have hi0 : i = 0 := by simpa using hi
  subst hi0
  have hdn : decide (∃ h : 0 < ([] : List CT).length, cmpK ([] : List CT)[0] who cur = 0) = false := by simp
  rw [hdn]
  obtain ⟨c0, c1, c2, hbb⟩ := keepK3 hb HS1.out
  have HO2 := Lib.hid ((HO.out.base HB0.out).below hb)
  have HBB := Lib.hid hbb
  have HW := Lib.hid hbb.size
  clear hb HO HS1 hdn hi hbb HB0
  go_wp2_with fail
  have h2 := Rs.one CT.len w2 (⟨who, cur, amt, at0⟩ : CT) 28
  refine (InsEnd_any _ w.heap.size a 0 c [] _ ⟨who, cur, amt, at0⟩ (HO2.out.alloc _) h2 rfl (by simp) (Nat.le_trans HW.out (by simp))).mono ?_
  rintro e w3 ⟨a3, n3, c3, rfl, ho3, hb3⟩
  go_wp2_with fail
  go_ret
  exact ⟨a3, n3, c3, rfl, ho3, (HBB.out.alloc HW.out _).trans hb3⟩
def SetPost (w : World) (l : List CT) (who cur amt : Int) (e : Ending) (w' : World) : Prop :=
  ∃ a n c i, ∃ hi : i < l.length, Found l who cur i ∧ e = .returned (.slice a n c) ∧ OwnC w' w.heap.size (.slice a n c) (l.set i ⟨l[i].who, l[i].cur, amt, l[i].tick⟩) ∧ Below w.heap.size w w'
set_option maxRecDepth 100000 in
set_option maxHeartbeats 1600000 in
theorem put_set (w : World) (v : Value) (l : List CT) (who cur amt at0 : Int) (h : Cs w v l) (hl : l.length ≤ 100000) (hr : Rises l who cur) (hex : ∀ i, Found l who cur i → ∃ h : i < l.length, cmpK l[i] who cur = 0) (ha : ¬ amt = 0) :
    Calls Try.prog 27 #[v, .agg #[.int .i64 who, .int .i64 cur, .int .i64 amt], .int .i64 at0] w (SetPost w l who cur amt) := by
  have hbW := (Below.refl w.heap.size w).alloc (Nat.le_refl _) (.cells #[.int .i64 who, .int .i64 cur, .int .i64 amt] 26)
  have hn0 := heap_alloc_new w (.cells #[.int .i64 who, .int .i64 cur, .int .i64 amt] 26)
  have hcl : ∀ j u, #[Value.int .i64 who, .int .i64 cur, .int .i64 amt][j]? = some u → (w.alloc (.cells #[.int .i64 who, .int .i64 cur, .int .i64 amt] 26)).cell? ⟨w.heap.size, j, none⟩ = some u := by
    intro j u hu
    unfold World.cell?
    rw [hn0]
    exact hu
  have hS3 : (w.alloc (.cells #[.int .i64 who, .int .i64 cur, .int .i64 amt] 26)).cell? ⟨w.heap.size, 0, none⟩ = some (.int .i64 who) ∧ (w.alloc (.cells #[.int .i64 who, .int .i64 cur, .int .i64 amt] 26)).cell? ⟨w.heap.size, 1, none⟩ = some (.int .i64 cur) ∧ (w.alloc (.cells #[.int .i64 who, .int .i64 cur, .int .i64 amt] 26)).cell? ⟨w.heap.size, 2, none⟩ = some (.int .i64 amt) ∧ Below w.heap.size w (w.alloc (.cells #[.int .i64 who, .int .i64 cur, .int .i64 amt] 26)) := ⟨hcl 0 _ rfl, hcl 1 _ rfl, hcl 2 _ rfl, hbW⟩
  have HS3 := Lib.hid hS3
  have hv := h.mono hbW
  have HB0 := Lib.hid hbW.size
  obtain ⟨av, cap, rfl, _, _⟩ := h.shape
  obtain ⟨m, hm⟩ : ∃ m, m = l.length := ⟨_, rfl⟩
  have HEX := Lib.hid hex
  have HR := Lib.hid hr
  rw [← hm] at hv ⊢
  have HM := Lib.hid hm
  clear hm hex hr
  clear hcl hn0 hbW hS3 h
  go_enter Try.func27, Try.ntmps27
  go_wp2_with fail
  refine (Clone_any _ _ l hv hl).mono ?_
  clear hv
  rintro e w1 ⟨a, n, c, rfl, ho, hb⟩
  have HN : Hid (n = l.length) := by
    show _ = _
    obtain ⟨_, _, e9, _, _⟩ := ho.rs.shape
    simp only [Value.slice.injEq] at e9
    exact e9.2.1
  have hS1 := keepK3 hb HS3.out
  clear hb HS3
  have HO := Lib.hid ho
  clear ho
  have hd := (⟨hS1.1, hS1.2.1⟩ : _ ∧ _)
  have HS1 := Lib.hid hS1
  clear hS1
  have bs := bsf_any w1 (.slice a n c) l 0 w.heap.size who cur HO.out.rs hl HR.out hd
  clear hd
  go_wp2_with fail
  refine bs.mono ?_
  clear bs
  rintro e w2 ⟨i, hf, rfl, hb⟩
  obtain ⟨hi, hz⟩ := HEX.out i hf
  rw [decide_eq_true (⟨hi, hz⟩ : ∃ h : i < l.length, cmpK l[i] who cur = 0)]
  obtain ⟨c0, c1, c2, hbb⟩ := keepK3 hb HS1.out
  have ho2 := (HO.out.base HB0.out).below hb
  have HBB := Lib.hid hbb
  obtain ⟨g, rfl⟩ : ∃ g, a = some ⟨g, 0, none⟩ := by
    rcases ho2.2.2 with ⟨_, h'⟩ | ⟨g, cap', cur, h', _⟩
    · exfalso
      simp at h'
      exact Nat.not_lt_zero i (by rw [h'] at hi; exact hi)
    · simp only [Value.slice.injEq] at h'
      exact ⟨g, h'.1⟩
  have hn := HN.out
  subst hn
  have hst := ho2.2.stored (i * 4 + 2) (.int .i64 amt)
  have hcell : w2.cell? ⟨g, i * 4 + 2, none⟩ = some (.int .i64 l[i].amt) := by
    rw [ho2.2.cellAt (i * 4 + 2) (by omega)]
    have := flatW_at (f := CT.vs) (W := 4) (fun a _ => CT.len a) hi 2 _ rfl
    exact this
  have hfr := ho2.2.frozenAt (i * 4 + 2)
  have hge : w.heap.size ≤ g := ho2.ge g rfl
  obtain ⟨n, hn⟩ : ∃ n, n = l.length := ⟨_, rfl⟩
  have hin : i < n := by omega
  rw [← flat_amt amt l i hi, ← hn] at hst
  have HST := Lib.hid hst
  have HF := Lib.hid hf
  have HGE := Lib.hid hge
  have HIL := Lib.hid hi
  rw [← hn]
  have HN2 := Lib.hid hn
  clear hb HO HS1 hbb HB0 hz hf ho2 hst hge hn HN HEX HR
  generalize l[i].amt = q at hcell
  go_wp2_with fail
  go_ret
  refine ⟨some ⟨g, 0, none⟩, n, c, i, HIL.out, HF.out, rfl, ⟨CT.len, ?_⟩, HBB.out.grown HST.out.2 HBB.out.size (fun k hk => by cases hk; exact HGE.out)⟩
  rw [show (l.set i ⟨l[i].who, l[i].cur, amt, l[i].tick⟩).length = n from (List.length_set ..).trans HN2.out.symm]
  exact HST.out.1
end Cam
