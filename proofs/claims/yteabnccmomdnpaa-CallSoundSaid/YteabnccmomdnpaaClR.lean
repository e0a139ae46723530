import Derived.Test.YteabnccmomdnpaaClJ
import Derived.Test.YteabnccmomdnpaaClM
import Derived.Test.YteabnccmomdnpaaClT
/- call.put in full. -/
namespace Cam
open Go Go.RowKit Go.Proofs

set_option maxRecDepth 100000 in
set_option maxHeartbeats 1600000 in
theorem put_del (w : World) (v : Value) (l : List CT) (who cur at0 : Int) (h : Cs w v l) (hl : l.length ≤ 100000) (hr : Rises l who cur) (hex : ∀ i, Found l who cur i → ∃ h : i < l.length, cmpK l[i] who cur = 0) :
    Calls Try.prog 27 #[v, .agg #[.int .i64 who, .int .i64 cur, .int .i64 0], .int .i64 at0] w fun e w' => ∃ i, Found l who cur i ∧ InsPost w w.heap.size (l.eraseIdx i) e w' := by
  obtain ⟨amt, hamt⟩ : ∃ amt : Int, amt = 0 := ⟨_, rfl⟩
  rw [← hamt]
  have HAMT := Lib.hid hamt
  clear hamt
  have hbW := (Below.refl w.heap.size w).alloc (Nat.le_refl _) (.cells #[.int .i64 who, .int .i64 cur, .int .i64 amt] 26)
  have hn0 := heap_alloc_new w (.cells #[.int .i64 who, .int .i64 cur, .int .i64 amt] 26)
  have hcl : ∀ j u, #[Value.int .i64 who, .int .i64 cur, .int .i64 amt][j]? = some u → (w.alloc (.cells #[.int .i64 who, .int .i64 cur, .int .i64 amt] 26)).cell? ⟨w.heap.size, j, none⟩ = some u := by
    intro j u hu
    unfold World.cell?
    rw [hn0]
    exact hu
  have hS3 : (w.alloc (.cells #[.int .i64 who, .int .i64 cur, .int .i64 amt] 26)).cell? ⟨w.heap.size, 0, none⟩ = some (.int .i64 who) ∧ (w.alloc (.cells #[.int .i64 who, .int .i64 cur, .int .i64 amt] 26)).cell? ⟨w.heap.size, 1, none⟩ = some (.int .i64 cur) ∧ (w.alloc (.cells #[.int .i64 who, .int .i64 cur, .int .i64 amt] 26)).cell? ⟨w.heap.size, 2, none⟩ = some (.int .i64 amt) ∧ Below w.heap.size w (w.alloc (.cells #[.int .i64 who, .int .i64 cur, .int .i64 amt] 26)) := ⟨hcl 0 _ rfl, hcl 1 _ rfl, hcl 2 _ rfl, hbW⟩
  have HS3 := Lib.hid hS3
  have hv := h.mono hbW
  have HB0 := Lib.hid hbW.size
  obtain ⟨av, cap, rfl, _, _⟩ := h.shape
  obtain ⟨m, hm⟩ : ∃ m, m = l.length := ⟨_, rfl⟩
  have HEX := Lib.hid hex
  have HR := Lib.hid hr
  rw [← hm] at hv ⊢
  have HM := Lib.hid hm
  clear hm hex hr
  clear hcl hn0 hbW hS3 h
  go_enter Try.func27, Try.ntmps27
  go_wp2_with fail
  refine (Clone_any _ _ l hv hl).mono ?_
  clear hv
  rintro e w1 ⟨a, n, c, rfl, ho, hb⟩
  have HN : Hid (n = l.length) := by
    show _ = _
    obtain ⟨_, _, e9, _, _⟩ := ho.rs.shape
    simp only [Value.slice.injEq] at e9
    exact e9.2.1
  have hS1 := keepK3 hb HS3.out
  clear hb HS3
  have HO := Lib.hid ho
  clear ho
  have hd := (⟨hS1.1, hS1.2.1⟩ : _ ∧ _)
  have HS1 := Lib.hid hS1
  clear hS1
  have bs := bsf_any w1 (.slice a n c) l 0 w.heap.size who cur HO.out.rs hl HR.out hd
  clear hd
  go_wp2_with fail
  refine bs.mono ?_
  clear bs
  rintro e w2 ⟨i, hf, rfl, hb⟩
  obtain ⟨hi, hz⟩ := HEX.out i hf
  rw [decide_eq_true (⟨hi, hz⟩ : ∃ h : i < l.length, cmpK l[i] who cur = 0)]
  obtain ⟨c0, c1, c2, hbb⟩ := keepK3 hb HS1.out
  have ho2 := (HO.out.base HB0.out).below hb
  have hin : i < n := by have := HN.out; omega
  have hnl : n ≤ 100000 := by have := HN.out; omega
  have de := fun w2' (h : OwnC w2' w.heap.size (.slice a n c) l) => call_delete h hin
  have HO2 := Lib.hid ho2
  have HBB := Lib.hid hbb
  have HF := Lib.hid hf
  have ham := HAMT.out
  subst ham
  clear hb HO HS1 hbb HB0 hz hf ho2 HEX HR HN
  go_wp2_with fail
  refine (de w2 HO2.out).mono ?_
  rintro e w3 ⟨a3, n3, c3, rfl, ho3, hb3⟩
  go_wp2_with fail
  go_ret
  exact ⟨i, HF.out, a3, n3, c3, rfl, ho3, HBB.out.trans hb3⟩

set_option maxRecDepth 100000 in
set_option maxHeartbeats 1600000 in
theorem put_ins (w : World) (v : Value) (l : List CT) (who cur amt at0 : Int) (h : Cs w v l) (hl : l.length ≤ 100000) (hr : Rises l who cur) (hex : ∀ i, Found l who cur i → ¬ ∃ h : i < l.length, cmpK l[i] who cur = 0) (ha : 0 < amt) :
    Calls Try.prog 27 #[v, .agg #[.int .i64 who, .int .i64 cur, .int .i64 amt], .int .i64 at0] w fun e w' => ∃ i, Found l who cur i ∧ InsPost w w.heap.size (l.take i ++ ⟨who, cur, amt, at0⟩ :: l.drop i) e w' := by
  have hbW := (Below.refl w.heap.size w).alloc (Nat.le_refl _) (.cells #[.int .i64 who, .int .i64 cur, .int .i64 amt] 26)
  have hn0 := heap_alloc_new w (.cells #[.int .i64 who, .int .i64 cur, .int .i64 amt] 26)
  have hcl : ∀ j u, #[Value.int .i64 who, .int .i64 cur, .int .i64 amt][j]? = some u → (w.alloc (.cells #[.int .i64 who, .int .i64 cur, .int .i64 amt] 26)).cell? ⟨w.heap.size, j, none⟩ = some u := by
    intro j u hu
    unfold World.cell?
    rw [hn0]
    exact hu
  have hS3 : (w.alloc (.cells #[.int .i64 who, .int .i64 cur, .int .i64 amt] 26)).cell? ⟨w.heap.size, 0, none⟩ = some (.int .i64 who) ∧ (w.alloc (.cells #[.int .i64 who, .int .i64 cur, .int .i64 amt] 26)).cell? ⟨w.heap.size, 1, none⟩ = some (.int .i64 cur) ∧ (w.alloc (.cells #[.int .i64 who, .int .i64 cur, .int .i64 amt] 26)).cell? ⟨w.heap.size, 2, none⟩ = some (.int .i64 amt) ∧ Below w.heap.size w (w.alloc (.cells #[.int .i64 who, .int .i64 cur, .int .i64 amt] 26)) := ⟨hcl 0 _ rfl, hcl 1 _ rfl, hcl 2 _ rfl, hbW⟩
  have HS3 := Lib.hid hS3
  have hv := h.mono hbW
  have HB0 := Lib.hid hbW.size
  obtain ⟨av, cap, rfl, _, _⟩ := h.shape
  obtain ⟨m, hm⟩ : ∃ m, m = l.length := ⟨_, rfl⟩
  have HEX := Lib.hid hex
  have HR := Lib.hid hr
  rw [← hm] at hv ⊢
  have HM := Lib.hid hm
  clear hm hex hr
  clear hcl hn0 hbW hS3 h
  go_enter Try.func27, Try.ntmps27
  go_wp2_with fail
  refine (Clone_any _ _ l hv hl).mono ?_
  clear hv
  rintro e w1 ⟨a, n, c, rfl, ho, hb⟩
  have HN : Hid (n = l.length) := by
    show _ = _
    obtain ⟨_, _, e9, _, _⟩ := ho.rs.shape
    simp only [Value.slice.injEq] at e9
    exact e9.2.1
  have hS1 := keepK3 hb HS3.out
  clear hb HS3
  have HO := Lib.hid ho
  clear ho
  have hd := (⟨hS1.1, hS1.2.1⟩ : _ ∧ _)
  have HS1 := Lib.hid hS1
  clear hS1
  have bs := bsf_any w1 (.slice a n c) l 0 w.heap.size who cur HO.out.rs hl HR.out hd
  clear hd
  go_wp2_with fail
  refine bs.mono ?_
  clear bs
  rintro e w2 ⟨i, hf, rfl, hb⟩
  rw [decide_eq_false (HEX.out i hf)]
  obtain ⟨c0, c1, c2, hbb⟩ := keepK3 hb HS1.out
  have ho2 := (HO.out.base HB0.out).below hb
  have hone := ho2.alloc (.cells #[.int .i64 who, .int .i64 cur, .int .i64 amt, .int .i64 at0] 28)
  have hvb : HT (w2.alloc (.cells #[.int .i64 who, .int .i64 cur, .int .i64 amt, .int .i64 at0] 28)) w2.heap.size 28 (CT.vs ⟨who, cur, amt, at0⟩) := HT.new (w := w2)
  have hne : ∀ k, (Value.slice a n c).ownBlock = some k → k ≠ w2.heap.size := fun k hk => Nat.ne_of_lt (ho2.lt k hk)
  have hbs : w.heap.size ≤ (w2.alloc (.cells #[.int .i64 who, .int .i64 cur, .int .i64 amt, .int .i64 at0] 28)).heap.size := by
    have := hbb.size
    simp
    omega
  have h2 := Rs.one CT.len w2 (⟨who, cur, amt, at0⟩ : CT) 28
  have hfi := hf.1
  have HHL := Lib.hid hl
  by_cases hin : i < n
  · have ins := call_insert hone hl hin hbs hvb hne
    have HBB := Lib.hid hbb
    have HF := Lib.hid hf
    have HBS := Lib.hid hbs
    clear hb HO HS1 hbb HB0 hf ho2 HEX HR hone hvb hne h2 hbs hfi HHL hl
    go_wp2_with fail
    refine ins.mono ?_
    clear ins
    rintro e w3 ⟨a3, n3, c3, rfl, ho3, hb3⟩
    go_wp2_with fail
    go_ret
    exact ⟨i, HF.out, a3, n3, c3, rfl, ho3, (HBB.out.alloc HBB.out.size _).trans hb3⟩
  · obtain rfl : i = n := by have := HN.out; omega
    have ins := InsEnd_any _ w.heap.size a i c l _ ⟨who, cur, amt, at0⟩ hone h2 HN.out hl hbs
    have HBB := Lib.hid hbb
    have HF := Lib.hid hf
    have HE : Hid (l.take i ++ ⟨who, cur, amt, at0⟩ :: l.drop i = l ++ [⟨who, cur, amt, at0⟩]) := by
      show _ = _
      rw [List.take_of_length_le (by have := HN.out; omega), List.drop_of_length_le (by have := HN.out; omega)]
    clear hb HO HS1 hbb HB0 hf ho2 HEX HR hone hvb hne h2 hbs hfi HHL hl HN
    go_wp2_with fail
    refine ins.mono ?_
    clear ins
    rintro e w3 ⟨a3, n3, c3, rfl, ho3, hb3⟩
    go_wp2_with fail
    go_ret
    exact ⟨i, HF.out, a3, n3, c3, rfl, by rw [HE.out]; exact ho3, (HBB.out.alloc HBB.out.size _).trans hb3⟩

theorem rightC_arg {who cur amt at0 : Int} (h : argB who cur amt at0 = true) : rightC who cur = true := by
  unfold argB at h
  simp only [Bool.and_eq_true] at h
  exact h.1.1.1.1
theorem put_any (w : World) (v : Value) (l : List CT) (who cur amt at0 : Int) (h : Cs w v l) (hl : l.length ≤ 100000) (hg : Goods l) (ha : argB who cur amt at0 = true) :
    Calls Try.prog 27 #[v, .agg #[.int .i64 who, .int .i64 cur, .int .i64 amt], .int .i64 at0] w (InsPost w w.heap.size (putL l who cur amt at0)) := by
  have hr := rightC_arg ha
  have h0 : 0 ≤ amt := by
    unfold argB at ha
    simp only [Bool.and_eq_true, decide_eq_true_eq] at ha
    exact ha.1.1.2
  have hri := goods_rises hg hr
  by_cases hex : ∃ i, Found l who cur i ∧ ∃ h : i < l.length, cmpK l[i] who cur = 0
  · obtain ⟨j, hj, hx⟩ := hex
    have hex : ∀ i, Found l who cur i → ∃ h : i < l.length, cmpK l[i] who cur = 0 := fun i hi => by rw [found_one hi hj]; exact hx
    by_cases hz : amt = 0
    · subst hz
      refine (put_del w v l who cur at0 h hl hri hex).mono ?_
      rintro e w' ⟨i, hf, hp⟩
      obtain ⟨hi, hx⟩ := hex i hf
      rw [put_is_del hg hr hf hi hx]
      exact hp
    · refine (put_set w v l who cur amt at0 h hl hri hex hz).mono ?_
      rintro e w' ⟨a, n, c, i, hi, hf, rfl, ho, hb⟩
      obtain ⟨_, hx⟩ := hex i hf
      rw [put_is_set hg hr hf hi hx hz]
      exact ⟨a, n, c, rfl, ho, hb⟩
  · have hex : ∀ i, Found l who cur i → ¬ ∃ h : i < l.length, cmpK l[i] who cur = 0 := fun i hi hx => hex ⟨i, hi, hx⟩
    by_cases hz : 0 < amt
    · refine (put_ins w v l who cur amt at0 h hl hri hex hz).mono ?_
      rintro e w' ⟨i, hf, hp⟩
      rw [put_is_ins hg hr hf (hex i hf) hz]
      exact hp
    · have hfe : ∃ i, Found l who cur i := by
        by_cases h : ∃ i : Nat, i ≤ l.length ∧ (∀ q (hq : q < l.length), q < i → cmpK l[q] who cur < 0) ∧ ∀ q (hq : q < l.length), i ≤ q → 0 ≤ cmpK l[q] who cur
        · exact h
        · exfalso
          have key : ∀ d : Nat, d ≤ l.length → (∀ q (hq : q < l.length), q < d → cmpK l[q] who cur < 0) := by
            intro d
            induction d with
            | zero => intro _ q _ hq; omega
            | succ d ih =>
              intro hd q hq hqd
              by_cases e : q < d
              · exact ih (by omega) q hq e
              · obtain rfl : q = d := by omega
                by_cases hn : cmpK l[q] who cur < 0
                · exact hn
                · exfalso
                  refine h ⟨q, by omega, ih (by omega), fun p hp hqp => ?_⟩
                  by_cases hp0 : cmpK l[p] who cur < 0
                  · exact absurd (hri q p hp hqp hp0) hn
                  · omega
          exact h ⟨l.length, Nat.le_refl _, key l.length (Nat.le_refl _), fun q hq hq2 => by omega⟩
      obtain ⟨j, hj⟩ := hfe
      rw [put_is_same hg hr hj (hex j hj) hz]
      exact put_same w v l who cur amt at0 h hl hri hex hz
end Cam
