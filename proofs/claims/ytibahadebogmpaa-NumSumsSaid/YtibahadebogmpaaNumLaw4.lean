import Derived.Test.YtibahadebogmpaaNumLaw3
import Derived.Deep.DeepCutAuto
/- the laws of num: NumSums. -/
namespace Cam
open Go Go.RowKit Go.Proofs

theorem elem_int : Elem Try.prog 22 3 1 8 := Elem.mk' (z := .int .i64 0) Try.underlying22 (by kernel_rfl) rfl (by decide)

theorem Is.lit1' {w : World} {g : Nat} (hg : g = w.heap.size) (n : Int) (e : TypeId) : Is (w.alloc (.cells #[.int .i64 n] e)) (.slice (some ⟨g, 0, none⟩) 1 1) [n] := Is.block (l := [n]) (heap_new hg) (Nat.le_refl _) (by simp [maxLen])

theorem OwnI.lit0 (w : World) (base : Nat) (g : Nat) (hg : g = w.heap.size) (hb : base ≤ w.heap.size) : OwnI 3 (w.alloc (.cells #[] 3)) base (.slice (some ⟨g, 0, none⟩) 0 0) [] := by
  subst hg
  exact World.ownsRow_lit w #[] 0 hb (by simp [maxLen]) rfl

set_option maxRecDepth 100000 in
set_option maxHeartbeats 3200000 in
theorem NumSums_walk (w : World) (v0 v1 : Value) (l m : List Int) (a b : Int) (h0 : Is w v0 l) (h1 : Is w v1 m) :
    Calls Try.prog 3 #[v0, v1, .int .i64 a, .int .i64 b] w fun e w' => e = .returned (.bool true) ∧ Below w.heap.size w w' := by
  obtain ⟨a0, c0, rfl, hc0, hm0⟩ := h0.shape
  obtain ⟨a1, c1, rfl, hc1, hm1⟩ := h1.shape
  go_enter Try.func3, Try.ntmps3
  by_cases hl : 2000 < l.length
  · go_wp2_with fail
    go_ret
    exact ⟨rfl, Below.refl _ _⟩
  by_cases hm : 2000 < m.length
  · go_wp2_with fail
    go_ret
    exact ⟨rfl, Below.refl _ _⟩
  go_wp2_with fail
  refine (Sum_any _ _ l h0).mono ?_
  rintro e w1 ⟨rfl, hb1⟩
  obtain ⟨x, hx⟩ : ∃ x, x = sumN l := ⟨_, rfl⟩
  obtain ⟨y, hy⟩ : ∃ x, x = sumE l := ⟨_, rfl⟩
  rw [← hx, ← hy]
  have Hx := Lib.hid hx
  have Hy := Lib.hid hy
  clear hx hy
  go_wp2_with fail
  go_loopw [11, 12] (fun s i wr => ∃ (k : Nat) (r : List Int), k ≤ l.length ∧ i = .int .i64 ((k : Int) - 1) ∧ OwnI 3 wr w.heap.size s r ∧ Below w.heap.size w wr ∧ Hid (r = (l.drop k).reverse)) (fun _ i _ => (intOf i + 1).toNat)
  case atStart => exact ⟨l.length, [], Nat.le_refl _, rfl, OwnI.empty _ _ _, hb1, by show _ = _; simp⟩
  case round =>
    obtain ⟨k, r, hk, rfl, hown, hb, Hr⟩ := hrel
    obtain ⟨sa, sn, sc, rfl, Hsn, hown⟩ := hown.named
    by_cases hk0 : k = 0
    · subst hk0
      have er : r = l.reverse := by rw [Hr.out, List.drop_zero]
      have Her := Lib.hid er
      clear er
      go_wp2_with fail
      refine (Sum_any _ _ r hown.is).mono ?_
      rintro e w2 ⟨rfl, hb2⟩
      have en : sumN r = x := by rw [Her.out, sumN_rev, Hx.out]
      have ee : sumE r = y := by rw [Her.out, sumE_rev, Hy.out]
      rw [en, ee]
      clear en ee
      have hb3 : Below w.heap.size w w2 := hb.next hb2
      clear hb hb2 hown Her Hr Hsn
      go_wp2_with fail
      refine (Sum_any _ _ m (h1.monoB hb3 (Nat.le_refl _))).mono ?_
      rintro e w3 ⟨rfl, hb4⟩
      have hb5 : Below w.heap.size w w3 := hb3.next hb4
      clear hb3 hb4
      obtain ⟨p, hp⟩ : ∃ x, x = sumN m := ⟨_, rfl⟩
      obtain ⟨q, hq⟩ : ∃ x, x = sumE m := ⟨_, rfl⟩
      rw [← hp, ← hq]
      have Hp := Lib.hid hp
      have Hq := Lib.hid hq
      clear hp hq
      go_wp2_with (first
        | (at_builtin; refine wpList_append_ints rfl (.tmp 69) (.tmp 70) 22 rfl (l := []) (m := l) (base := w.heap.size) elem_int rfl rfl (OwnI.lit0 w3 _ _ rfl hb5.size) ((h0.monoB hb5 (Nat.le_refl _)).alloc _) (by simp; omega) (by have := hb5.size; simp; omega) ?_; intro a4 n4 c4 w4 Hn4 ho4 hb4 hg4)
        | (at_builtin; refine wpList_append_ints rfl (.tmp 71) (.tmp 72) 22 rfl (l := l) (m := m) (base := w.heap.size) elem_int rfl rfl ho4 (h1.monoB ((hb5.alloc hb5.size _).trans hb4) (Nat.le_refl _)) (by omega) (by have := (hb5.alloc hb5.size (.cells #[] 3)).size; have := hb4.size; omega) ?_; intro a5 n5 c5 w5 Hn5 ho5 hb6 hg5))
      refine (Sum_any _ _ (l ++ m) ho5.is).mono ?_
      rintro e w6 ⟨rfl, hb7⟩
      have hbt : Below w.heap.size w w6 := (((hb5.alloc hb5.size _).trans hb4).trans hb6).next hb7
      have hE := sumE_errs [a, b]
      have HE := Lib.hid hE
      have hst := sum_two l m
      rw [← Hx.out, ← Hy.out, ← Hp.out, ← Hq.out] at hst
      have Hst := Lib.hid hst
      have hy := sumE_errs l
      rw [← Hy.out] at hy
      have hq := sumE_errs m
      rw [← Hq.out] at hq
      have Hyy := Lib.hid hy
      have Hqq := Lib.hid hq
      obtain ⟨x6, hx6⟩ : ∃ x, x = sumN (l ++ m) := ⟨_, rfl⟩
      obtain ⟨e6, he6⟩ : ∃ x, x = sumE (l ++ m) := ⟨_, rfl⟩
      rw [← hx6, ← he6]
      have Hx6 := Lib.hid hx6
      have He6 := Lib.hid he6
      clear hx6 he6 hy hq hst hE hg4 hg5 hb4 hb6 hb7 hb5 ho4 ho5 Hn4 Hn5 hown
      rcases Hyy.out with hy | hy
      · rcases Hqq.out with hq | hq
        · obtain ⟨k1, k2⟩ := Hst.out hy hq
          rw [← He6.out] at k1
          rw [← Hx6.out] at k2
          have K1 := Lib.hid k1
          have K2 := Lib.hid k2
          subst hy
          subst hq
          clear k1 k2
          go_wp2_with fail
          refine (Sum_any _ _ [x, p] (Is.lit2' rfl _ _ _)).mono ?_
          rintro e w7 ⟨rfl, hb8⟩
          rw [K1.out, K2.out]
          have hbt := hbt.next hb8.un
          have hE := HE.out
          go_wp2_with fail
          refine (Sum_any _ _ [a, b] (Is.lit2' rfl _ _ _)).mono ?_
          rintro e w8 ⟨rfl, hb9⟩
          have hb10 : Below w.heap.size w w8 := hbt.next hb9.un
          rcases hE with hE | hE
          · obtain ⟨g1, g2⟩ := less_back a b hE
            rw [hE]
            obtain ⟨s, hs⟩ : ∃ s, s = sumN [a, b] := ⟨_, rfl⟩
            rw [← hs] at g1 g2 ⊢
            have G1 := Lib.hid g1
            have G2 := Lib.hid g2
            clear hs hE g1 g2
            go_wp2_with fail
            refine (Less_any _ _ _).mono ?_
            rintro e w9 ⟨rfl, hb11⟩
            rw [G1.out, G2.out]
            go_wp2_with fail
            refine (wakes_any _).mono ?_
            rintro e w10 ⟨rfl, hb12⟩
            go_wp2_with fail
            go_ret
            exact ⟨rfl, (hb10.next hb11).next hb12⟩
          · generalize sumE [a, b] = z at *
            generalize sumN [a, b] = z' at *
            go_wp2_with fail
            refine (wakes_any _).mono ?_
            rintro e w10 ⟨rfl, hb12⟩
            go_wp2_with fail
            go_ret
            exact ⟨rfl, hb10.next hb12⟩
        · have hE := HE.out
          subst hy
          go_wp2_with fail
          refine (Sum_any _ _ [a, b] (Is.lit2' rfl _ _ _)).mono ?_
          rintro e w8 ⟨rfl, hb9⟩
          have hb10 : Below w.heap.size w w8 := hbt.next hb9.un
          rcases hE with hE | hE
          · obtain ⟨g1, g2⟩ := less_back a b hE
            rw [hE]
            obtain ⟨s, hs⟩ : ∃ s, s = sumN [a, b] := ⟨_, rfl⟩
            rw [← hs] at g1 g2 ⊢
            have G1 := Lib.hid g1
            have G2 := Lib.hid g2
            clear hs hE g1 g2
            go_wp2_with fail
            refine (Less_any _ _ _).mono ?_
            rintro e w9 ⟨rfl, hb11⟩
            rw [G1.out, G2.out]
            go_wp2_with fail
            refine (wakes_any _).mono ?_
            rintro e w10 ⟨rfl, hb12⟩
            go_wp2_with fail
            go_ret
            exact ⟨rfl, (hb10.next hb11).next hb12⟩
          · generalize sumE [a, b] = z at *
            generalize sumN [a, b] = z' at *
            go_wp2_with fail
            refine (wakes_any _).mono ?_
            rintro e w10 ⟨rfl, hb12⟩
            go_wp2_with fail
            go_ret
            exact ⟨rfl, hb10.next hb12⟩
      · have hE := HE.out
        go_wp2_with fail
        refine (Sum_any _ _ [a, b] (Is.lit2' rfl _ _ _)).mono ?_
        rintro e w8 ⟨rfl, hb9⟩
        have hb10 : Below w.heap.size w w8 := hbt.next hb9.un
        rcases hE with hE | hE
        · obtain ⟨g1, g2⟩ := less_back a b hE
          rw [hE]
          obtain ⟨s, hs⟩ : ∃ s, s = sumN [a, b] := ⟨_, rfl⟩
          rw [← hs] at g1 g2 ⊢
          have G1 := Lib.hid g1
          have G2 := Lib.hid g2
          clear hs hE g1 g2
          go_wp2_with fail
          refine (Less_any _ _ _).mono ?_
          rintro e w9 ⟨rfl, hb11⟩
          rw [G1.out, G2.out]
          go_wp2_with fail
          refine (wakes_any _).mono ?_
          rintro e w10 ⟨rfl, hb12⟩
          go_wp2_with fail
          go_ret
          exact ⟨rfl, (hb10.next hb11).next hb12⟩
        · generalize sumE [a, b] = z at *
          generalize sumN [a, b] = z' at *
          go_wp2_with fail
          refine (wakes_any _).mono ?_
          rintro e w10 ⟨rfl, hb12⟩
          go_wp2_with fail
          go_ret
          exact ⟨rfl, hb10.next hb12⟩
    · obtain ⟨j, rfl⟩ : ∃ j, k = j + 1 := ⟨k - 1, by omega⟩
      have ej : ((j + 1 : Nat) : Int) - 1 = (j : Int) := by omega
      rw [ej]
      clear ej hk0
      have hrl : r.length ≤ 2000 := by rw [Hr.out]; simp; omega
      obtain ⟨blk, off, rfl, _, hc⟩ := (h0.monoB hb (Nat.le_refl _)).at (by omega)
      have hck := hc j (by omega)
      clear hc
      obtain ⟨n, hn⟩ : ∃ n, n = l[j] := ⟨_, rfl⟩
      rw [← hn] at hck
      have Hn := Lib.hid hn
      clear hn
      go_wp2_with (first | (at_builtin; refine wpList_append_ints rfl (.tmp 43) (.tmp 48) 22 rfl (m := [n]) elem_int rfl rfl (OwnI.alloc hown _) (Is.lit1' rfl n _) (by simp; omega) (by have := hb.size; simp; omega) ?_; intro a' n' c' w' Hn' hown' hb' hg'))
      go_roundw
      case rel =>
        refine ⟨j, r ++ [n], by omega, by go_num, hown', (hb.alloc hb.size _).trans hb', ?_⟩
        show _ = _
        rw [Hr.out, Hn.out, List.drop_eq_getElem_cons (i := j) (by omega), List.reverse_cons]
      case measure => simp [intOf]

end Cam
