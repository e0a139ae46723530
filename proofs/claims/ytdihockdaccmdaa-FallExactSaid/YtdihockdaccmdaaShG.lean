import Derived.Test.YtdihockdaccmdaaNumR
import Derived.Test.YtdihockdaccmdaaShP
import Derived.Deep.DeepCutAuto
/- share.right, share.Greedy. -/
namespace Cam
open Go Go.RowKit Go.Proofs

theorem elem_int : Elem Try.prog 28 3 1 8 := Elem.mk' (z := .int .i64 0) Try.underlying28 (by kernel_rfl) rfl (by decide)
theorem Is.lit1' {w : World} {g : Nat} (hg : g = w.heap.size) (n : Int) (e : TypeId) : Is (w.alloc (.cells #[.int .i64 n] e)) (.slice (some ⟨g, 0, none⟩) 1 1) [n] := Is.block (l := [n]) (heap_new hg) (Nat.le_refl _) (by simp [maxLen])

set_option maxHeartbeats 1600000 in
theorem shRight_any (w : World) (t : Int) (v : Value) (l : List Int) (h : Is w v l) :
    Calls Try.prog 24 #[.int .i64 t, v] w fun e w' => e = .returned (.int .i64 (rightE t l)) ∧ Below w.heap.size w w' := by
  obtain ⟨a, cap, rfl, hcap, hm⟩ := h.shape
  go_enter Try.func24, Try.ntmps24
  by_cases h0 : t < 0
  · have H : Hid (rightE t l = 3) := by show _ = _; unfold rightE; rw [if_neg (by omega)]
    go_wp2_with fail
    go_ret
    exact ⟨by rw [H.out]; rfl, Below.refl _ _⟩
  · have h0' : decide (t < 0) = false := by simp; omega
    go_wp2_with fail
    refine (Right_any _ _ [t] (Is.lit1' rfl t _)).mono ?_
    rintro e w1 ⟨rfl, rfl⟩
    have e2 : allRight [t] = rightB t := by simp [allRight]
    rw [e2]
    clear e2
    have hbw : Below w.heap.size w (w.alloc (.cells #[.int .i64 t] 3)) := (Below.refl _ _).alloc (Nat.le_refl _) _
    cases hr : rightB t with
    | false =>
      have H : Hid (rightE t l = 3) := by
        show _ = _
        rw [Bool.eq_false_iff, Ne, rightB_iff] at hr
        unfold rightE; rw [if_neg (by omega)]
      clear hr
      go_wp2_with fail
      go_ret
      exact ⟨by rw [H.out]; rfl, hbw⟩
    | true =>
      have Ht := Lib.hid ((rightB_iff t).1 hr)
      clear hr
      go_wp2_with fail
      refine (Right_any _ _ l (h.alloc _)).mono ?_
      rintro e w1 ⟨rfl, rfl⟩
      cases hr : allRight l with
      | false =>
        have H : Hid (rightE t l = 3) := by
          show _ = _
          unfold rightE
          rw [if_neg]
          rintro ⟨_, hc⟩
          rw [Bool.eq_false_iff, Ne, allRight_iff] at hr
          exact hr fun n hn => by have := (capsOk_iff l).1 hc n hn; omega
        clear hr
        go_wp2_with fail
        go_ret
        exact ⟨by rw [H.out]; rfl, hbw⟩
      | true =>
        have Hr := Lib.hid ((allRight_iff l).1 hr)
        clear hr
        go_wp2_with fail
        go_loop [22] (fun i => ∃ k : Nat, k ≤ l.length ∧ i = .int .i64 k ∧ Hid (∀ n ∈ l.take k, 0 ≤ n)) (fun i => l.length - (intOf i).toNat)
        case atStart => exact ⟨0, Nat.zero_le _, rfl, by show ∀ n ∈ l.take 0, 0 ≤ n; simp⟩
        case round =>
          obtain ⟨k, hk, rfl, Hall⟩ := hrel
          by_cases hlt : k < l.length
          · obtain ⟨b, off, rfl, _, hc⟩ := (h.alloc (.cells #[.int .i64 t] 3)).at (by omega)
            have hck := hc k hlt
            clear hc
            obtain ⟨n, hn⟩ : ∃ n, n = l[k] := ⟨_, rfl⟩
            rw [← hn] at hck
            have Hn := Lib.hid hn
            clear hn
            by_cases hneg : n < 0
            · have H : Hid (rightE t l = 3) := by
                show _ = _
                unfold rightE
                rw [if_neg]
                rintro ⟨_, hc⟩
                have := (capsOk_iff l).1 hc l[k] (List.getElem_mem _)
                rw [← Hn.out] at this
                omega
              go_wp2
              go_ret
              exact ⟨by rw [H.out]; rfl, hbw⟩
            · go_wp2
              refine ⟨⟨k + 1, by omega, by go_num, ?_⟩, by simp [intOf]; omega⟩
              show ∀ x ∈ l.take (k + 1), 0 ≤ x
              rw [take_snoc _ _ hlt]
              intro x hx
              rcases List.mem_append.1 hx with hx | hx
              · exact Hall.out x hx
              · simp at hx
                rw [hx, ← Hn.out]
                omega
          · have hcaps : capsOk l = true := by
              rw [capsOk_iff]
              intro n hn
              have h1 := Hall.out n (by rw [List.take_of_length_le (by omega)]; exact hn)
              have h2 := Hr.out n hn
              omega
            by_cases hlong : l.length ≤ 1024
            · have H : Hid (rightE t l = 0) := by
                show _ = _
                unfold rightE
                rw [if_pos ⟨by have := Ht.out; omega, hcaps⟩, if_pos hlong]
              clear hcaps
              go_wp2
              go_ret
              exact ⟨by rw [H.out]; rfl, hbw⟩
            · have H : Hid (rightE t l = 5) := by
                show _ = _
                unfold rightE
                rw [if_pos ⟨by have := Ht.out; omega, hcaps⟩, if_neg hlong]
              clear hcaps
              go_wp2
              go_ret
              exact ⟨by rw [H.out]; rfl, hbw⟩

def GreedyPost (w : World) (t : Int) (l : List Int) (e : Ending) (w' : World) : Prop :=
  ∃ p, e = .returned (.tuple #[p, .int .i64 (greedyR t l), .int .i64 0]) ∧ OwnI 3 w' w.heap.size p (greedyP t l) ∧ Below w.heap.size w w'

/-- where something is wrong -/
theorem Greedy_no (w : World) (t : Int) (v : Value) (l : List Int) (h : Is w v l) (x : Int) (hx : x = 3 ∨ x = 5) (he : rightE t l = x) :
    Calls Try.prog 17 #[.int .i64 t, v] w fun e w' => e = .returned (.tuple #[.slice none 0 0, .int .i64 0, .int .i64 x]) ∧ Below w.heap.size w w' := by
  obtain ⟨a, cap, rfl, hcap, hm⟩ := h.shape
  have He := Lib.hid he
  clear he
  go_enter Try.func17, Try.ntmps17
  go_wp2_with fail
  refine (shRight_any _ _ _ l h).mono ?_
  rintro e w1 ⟨rfl, hb1⟩
  rw [He.out]
  rcases hx with rfl | rfl
  all_goals
    go_wp2_with fail
    refine bodyPost_ret (v := .tuple #[.slice none 0 0, .int .i64 0, _]) (by simp [results, Try.results17, go_sem]; rfl) rfl ?_
    exact ⟨rfl, hb1⟩

set_option maxHeartbeats 1600000 in
theorem Greedy_ok (w : World) (t : Int) (v : Value) (l : List Int) (h : Is w v l) (he : rightE t l = 0) :
    Calls Try.prog 17 #[.int .i64 t, v] w (GreedyPost w t l) := by
  obtain ⟨a, cap, rfl, hcap, hm⟩ := h.shape
  obtain ⟨ht, hl, hlen⟩ := rightE_zero t l he
  have He := Lib.hid he
  have Hl := Lib.hid hl
  clear he hl
  go_enter Try.func17, Try.ntmps17
  go_wp2_with fail
  refine (shRight_any _ _ _ l h).mono ?_
  rintro e w1 ⟨rfl, hb1⟩
  rw [He.out]
  go_wp2_with fail
  go_loopw [0, 4, 18] (fun t' s i wr => ∃ (k : Nat) (r : List Int) (n : Int), k ≤ l.length ∧ i = .int .i64 k ∧ t' = .int .i64 n ∧ OwnI 3 wr w.heap.size s r ∧ Below w.heap.size w wr ∧ r.length ≤ k ∧ (0 ≤ n ∧ n ≤ 4611686018427387904) ∧ Hid (r = greedyP t (l.take k)) ∧ Hid (n = greedyR t (l.take k))) (fun _ _ i _ => l.length - (intOf i).toNat)
  case atStart => exact ⟨0, [], t, Nat.zero_le _, rfl, rfl, OwnI.empty _ _ _, hb1, by simp, ht, rfl, rfl⟩
  case round =>
    obtain ⟨k, r, n, hk, rfl, rfl, hown, hb, hrk, hn0, Hr, Hn⟩ := hrel
    obtain ⟨sa, sn, sc, rfl, Hsn, hown⟩ := hown.named
    by_cases hlt : k < l.length
    · obtain ⟨b, off, rfl, _, hc⟩ := (h.monoB hb (Nat.le_refl _)).at (by omega)
      have hck := hc k hlt
      clear hc
      obtain ⟨c, hcc⟩ : ∃ c, c = l[k] := ⟨_, rfl⟩
      rw [← hcc] at hck
      have hcb : 0 ≤ c ∧ c ≤ 4611686018427387904 := by rw [hcc]; exact Hl.out _ (List.getElem_mem _)
      have e1 : greedyP t (l.take (k + 1)) = r ++ [min c n] := by rw [take_snoc _ _ hlt, greedyP_snoc, ← Hr.out, ← Hn.out, hcc]
      have e2 : greedyR t (l.take (k + 1)) = n - min c n := by rw [take_snoc _ _ hlt, greedyR_snoc, ← Hn.out, hcc]
      have E1 := Lib.hid e1
      have E2 := Lib.hid e2
      clear hcc e1 e2
      by_cases hm : n < c
      · have em : Hid (min c n = n) := by show _ = _; omega
        have ew : wrap64 (n - n) = 0 := by unfold wrap64; omega
        go_wp2_with (first | (at_builtin; refine wpList_append_ints rfl (.tmp 25) (.tmp 27) 28 rfl (m := [n]) elem_int rfl rfl (OwnI.alloc hown _) (Is.lit1' rfl n _) (by simp; omega) (by have := hb.size; simp; omega) ?_; intro a' n' c' w' Hn' hown' hb' hg'))
        exact ⟨⟨k + 1, r ++ [n], 0, by omega, by go_num, rfl, hown', (hb.alloc hb.size _).trans hb', by simp; omega, by omega, by show _ = _; rw [E1.out, em.out], by show _ = _; rw [E2.out, em.out]; omega⟩, by simp [intOf]; omega⟩
      · have em : Hid (min c n = c) := by show _ = _; omega
        have ew : wrap64 (n - c) = n - c := by unfold wrap64; omega
        go_wp2_with (first | (at_builtin; refine wpList_append_ints rfl (.tmp 25) (.tmp 27) 28 rfl (m := [c]) elem_int rfl rfl (OwnI.alloc hown _) (Is.lit1' rfl c _) (by simp; omega) (by have := hb.size; simp; omega) ?_; intro a' n' c' w' Hn' hown' hb' hg'))
        exact ⟨⟨k + 1, r ++ [c], n - c, by omega, by go_num, rfl, hown', (hb.alloc hb.size _).trans hb', by simp; omega, by omega, by show _ = _; rw [E1.out, em.out], by show _ = _; rw [E2.out, em.out]⟩, by simp [intOf]; omega⟩
    · have ek : l.take k = l := List.take_of_length_le (by omega)
      have H1 : Hid (r = greedyP t l) := by show _ = _; rw [Hr.out, ek]
      have H2 : Hid (n = greedyR t l) := by show _ = _; rw [Hn.out, ek]
      clear ek
      go_wp2_with fail
      refine bodyPost_ret (v := .tuple #[.slice sa sn sc, .int .i64 n, .int .i64 0]) (by simp [results, Try.results17, go_sem]) rfl ?_
      exact ⟨_, by rw [H2.out], by rw [← H1.out]; exact hown, hb⟩

end Cam
