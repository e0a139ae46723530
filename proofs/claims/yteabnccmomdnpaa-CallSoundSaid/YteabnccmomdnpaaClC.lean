import Derived.Test.YteabnccmomdnpaaClK
/- cmp.Compare, cmp.Or, call.compare, the closure of put; call.right. -/
namespace Cam
open Go Go.RowKit Go.Proofs

def sgn (a b : Int) : Int := if a < b then -1 else if b < a then 1 else 0
theorem isNaN_any (w : World) (a : Int) : Calls Try.prog 49 #[.int .i64 a] w fun e w' => e = .returned (.bool false) ∧ w = w' := by
  go_enter Try.func49, Try.ntmps49
  go_wp2_with fail
  go_ret
  exact ⟨rfl, rfl⟩
theorem cmp_any (w : World) (a b : Int) : Calls Try.prog 46 #[.int .i64 a, .int .i64 b] w fun e w' => e = .returned (.int .i64 (sgn a b)) ∧ w = w' := by
  have na := fun w => isNaN_any w a
  have nb := fun w => isNaN_any w b
  by_cases h1 : a < b
  · have H : Hid (sgn a b = -1) := by show _ = _; unfold sgn; rw [if_pos h1]
    go_enter Try.func46, Try.ntmps46
    go_wp2_with fail
    refine (na _).mono ?_
    rintro e w1 ⟨rfl, rfl⟩
    go_wp2_with fail
    refine (nb _).mono ?_
    rintro e w1 ⟨rfl, rfl⟩
    go_wp2_with fail
    go_ret
    exact ⟨by rw [H.out]; rfl, rfl⟩
  · have h1' : decide (a < b) = false := by simpa using h1
    by_cases h2 : b < a
    · have H : Hid (sgn a b = 1) := by show _ = _; unfold sgn; rw [if_neg h1, if_pos h2]
      clear h1
      go_enter Try.func46, Try.ntmps46
      go_wp2_with fail
      refine (na _).mono ?_
      rintro e w1 ⟨rfl, rfl⟩
      go_wp2_with fail
      refine (nb _).mono ?_
      rintro e w1 ⟨rfl, rfl⟩
      go_wp2_with fail
      go_ret
      exact ⟨by rw [H.out]; rfl, rfl⟩
    · have h2' : decide (b < a) = false := by simpa using h2
      have H : Hid (sgn a b = 0) := by show _ = _; unfold sgn; rw [if_neg h1, if_neg h2]
      clear h1 h2
      go_enter Try.func46, Try.ntmps46
      go_wp2_with fail
      refine (na _).mono ?_
      rintro e w1 ⟨rfl, rfl⟩
      go_wp2_with fail
      refine (nb _).mono ?_
      rintro e w1 ⟨rfl, rfl⟩
      go_wp2_with fail
      go_ret
      exact ⟨by rw [H.out]; rfl, rfl⟩

def orL : List Int → Int
  | [] => 0
  | x :: l => if x = 0 then orL l else x
theorem orL_take {l : List Int} {k : Nat} (hk : k < l.length) (h : ∀ x ∈ l.take k, x = 0) : orL l = orL (l.drop k) := by
  induction l generalizing k with
  | nil => simp at hk
  | cons a l ih =>
    cases k with
    | zero => rfl
    | succ k =>
      have h0 := h a (by simp)
      rw [orL, if_pos h0, List.drop_succ_cons]
      exact ih (by simpa using hk) (fun x hx => h x (by simp [hx]))
theorem orL_zero {l : List Int} (h : ∀ x ∈ l, x = 0) : orL l = 0 := by
  induction l with
  | nil => rfl
  | cons a l ih => rw [orL, if_pos (h a (by simp))]; exact ih (fun x hx => h x (by simp [hx]))
set_option maxHeartbeats 800000 in
theorem or_any (w : World) (v : Value) (l : List Int) (h : Is w v l) : Calls Try.prog 45 #[v] w fun e w' => e = .returned (.int .i64 (orL l)) ∧ w = w' := by
  obtain ⟨a, cap, rfl, hcap, hm⟩ := h.shape
  go_enter Try.func45, Try.ntmps45
  go_wp2_with fail
  go_loop [8] (fun i => ∃ k : Nat, k ≤ l.length ∧ i = .int .i64 k ∧ Hid (∀ x ∈ l.take k, x = 0)) (fun i => l.length - (intOf i).toNat)
  case atStart => exact ⟨0, Nat.zero_le _, rfl, by show ∀ x ∈ l.take 0, x = 0; simp⟩
  case round =>
    obtain ⟨k, hk, rfl, Hall⟩ := hrel
    by_cases hlt : k < l.length
    · obtain ⟨b, off, rfl, _, hc⟩ := h.at (by omega)
      have hck := hc k hlt
      clear hc
      obtain ⟨n, hn⟩ : ∃ n, n = l[k] := ⟨_, rfl⟩
      rw [← hn] at hck
      have Hn := Lib.hid hn
      clear hn
      by_cases h0 : n = 0
      · have H2 : Hid (∀ x ∈ l.take (k + 1), x = 0) := by
          show ∀ x ∈ _, _
          rw [take_snoc _ _ hlt, ← Hn.out]
          intro x hx
          rcases List.mem_append.1 hx with h1 | h1
          · exact Hall.out x h1
          · simp at h1
            rw [h1]
            exact h0
        subst h0
        go_wp2_with fail
        exact ⟨⟨k + 1, by omega, by push_cast; rfl, H2⟩, by simp [intOf]; omega⟩
      · have h0' : (n != 0) = true := by rw [bne_iff_ne]; exact h0
        have H2 : Hid (orL l = n) := by
          show _ = _
          rw [orL_take hlt Hall.out, List.drop_eq_getElem_cons hlt, ← Hn.out, orL, if_neg h0]
        clear h0
        go_wp2_with fail
        go_ret
        exact ⟨by rw [H2.out]; rfl, rfl⟩
    · have H2 : Hid (orL l = 0) := by
        show _ = _
        have := Hall.out
        rw [List.take_of_length_le (by omega)] at this
        exact orL_zero this
      go_wp2_with fail
      go_ret
      exact ⟨by rw [H2.out]; rfl, rfl⟩

def cmpK (c : CT) (who cur : Int) : Int := orL [sgn c.who who, sgn c.cur cur]
theorem keepC2 {W w1 : World} {p q : Addr} {x y : Value} (hb : Below W.heap.size W w1) (h : W.cell? p = some x ∧ W.cell? q = some y) : w1.cell? p = some x ∧ w1.cell? q = some y :=
  ⟨(hb.cell (World.block_lt_of_cell? W _ h.1)).trans h.1, (hb.cell (World.block_lt_of_cell? W _ h.2)).trans h.2⟩
theorem Is.lit2' {w : World} {g : Nat} (hg : g = w.heap.size) (n m : Int) (e : TypeId) : Is (w.alloc (.cells #[.int .i64 n, .int .i64 m] e)) (.slice (some ⟨g, 0, none⟩) 2 2) [n, m] := Is.block (l := [n, m]) (heap_new hg) (Nat.le_refl _) (by simp [maxLen])

set_option maxHeartbeats 1600000 in
theorem compare_any (w : World) (c : CT) (who cur : Int) :
    Calls Try.prog 35 #[.agg c.vs.toArray, .int .i64 who, .int .i64 cur] w fun e w' => e = .returned (.int .i64 (cmpK c who cur)) ∧ Below w.heap.size w w' := by
  obtain ⟨cw, cc, ca, ct⟩ := c
  have H : Hid (cmpK ⟨cw, cc, ca, ct⟩ who cur = orL [sgn cw who, sgn cc cur]) := rfl
  have c1 := fun w => cmp_any w cw who
  have c2 := fun w => cmp_any w cc cur
  obtain ⟨s1, h1⟩ : ∃ s, s = sgn cw who := ⟨_, rfl⟩
  obtain ⟨s2, h2⟩ : ∃ s, s = sgn cc cur := ⟨_, rfl⟩
  rw [← h1] at c1
  rw [← h2] at c2
  have H1 := Lib.hid h1
  have H2 := Lib.hid h2
  clear h1 h2
  unfold CT.vs
  have hc0 : (w.alloc (.cells #[.int .i64 cw, .int .i64 cc, .int .i64 ca, .int .i64 ct] 28)).cell? ⟨w.heap.size, 0, none⟩ = some (.int .i64 cw) := by rw [World.cell?_alloc_new]; rfl
  have hc1 : (w.alloc (.cells #[.int .i64 cw, .int .i64 cc, .int .i64 ca, .int .i64 ct] 28)).cell? ⟨w.heap.size, 1, none⟩ = some (.int .i64 cc) := by rw [World.cell?_alloc_new]; rfl
  have hb : Below w.heap.size w (w.alloc (.cells #[.int .i64 cw, .int .i64 cc, .int .i64 ca, .int .i64 ct] 28)) := (Below.refl _ _).alloc (Nat.le_refl _) _
  go_enter Try.func35, Try.ntmps35
  go_wp2_with fail
  generalize (w.alloc (.cells #[.int .i64 cw, .int .i64 cc, .int .i64 ca, .int .i64 ct] 28)) = W at *
  have Hb := Lib.hid hb
  have hlit : Is (W.alloc (.cells #[.int .i64 s1, .int .i64 s2] 3)).drew (.slice (some ⟨W.heap.size, 0, none⟩) 2 2) [s1, s2] := (Is.lit2' rfl s1 s2 3).mono (Below.refl _ _).drew
  clear hb
  go_region_held3 (fun w' => w'.cell? ⟨w.heap.size, 0, none⟩ = some (.int .i64 cw) ∧ w'.cell? ⟨w.heap.size, 1, none⟩ = some (.int .i64 cc)) (first | go_keep | exact keepC2 (by assumption) (by assumption))
    (first
      | (go_at_call 46; (with_reducible refine (c1 _).mono ?_); rintro e w1 ⟨rfl, rfl⟩)
      | (go_at_call 46; (with_reducible refine (c2 _).mono ?_); rintro e w1 ⟨rfl, rfl⟩)
      | (go_at_call 45; refine (or_any _ _ [s1, s2] hlit).mono ?_; rintro e w1 ⟨rfl, rfl⟩)
      | fail)
  go_wp2_with fail
  go_ret
  refine ⟨by rw [H.out, ← H1.out, ← H2.out]; rfl, ?_⟩
  exact (Hb.out.alloc Hb.out.size _).drew

/-- put's closure: how a call stands to the one asked for -/
theorem clo_any (w : World) (c : CT) (z : Int) (g : Nat) (who cur : Int) (h : w.cell? ⟨g, 0, none⟩ = some (.int .i64 who) ∧ w.cell? ⟨g, 1, none⟩ = some (.int .i64 cur)) :
    Calls Try.prog 40 #[.agg c.vs.toArray, .int .i64 z, .pointer (some ⟨g, 0, none⟩)] w fun e w' => e = .returned (.int .i64 (cmpK c who cur)) ∧ Below w.heap.size w w' := by
  obtain ⟨h0, h1⟩ := h
  have co := fun w => compare_any w c who cur
  obtain ⟨x, hx⟩ : ∃ x, x = cmpK c who cur := ⟨_, rfl⟩
  rw [← hx] at co ⊢
  clear hx
  obtain ⟨cw, cc, ca, ct⟩ := c
  unfold CT.vs at co ⊢
  have hb := (Below.refl w.heap.size w).alloc (Nat.le_refl _) (.cells #[.int .i64 cw, .int .i64 cc, .int .i64 ca, .int .i64 ct] 28)
  have h2 : (w.alloc (.cells #[.int .i64 cw, .int .i64 cc, .int .i64 ca, .int .i64 ct] 28)).cell? ⟨g, 0, none⟩ = some (.int .i64 who) := (hb.cell (World.block_lt_of_cell? w _ h0)).trans h0
  have h3 : (w.alloc (.cells #[.int .i64 cw, .int .i64 cc, .int .i64 ca, .int .i64 ct] 28)).cell? ⟨g, 1, none⟩ = some (.int .i64 cur) := (hb.cell (World.block_lt_of_cell? w _ h1)).trans h1
  clear h0 h1
  go_enter Try.func40, Try.ntmps40
  go_wp2_with fail
  refine (co _).mono ?_
  rintro e w1 ⟨rfl, hb1⟩
  go_wp2_with fail
  go_ret
  exact ⟨rfl, hb1.un⟩

def rightC (who cur : Int) : Bool := decide ((1 ≤ who ∧ who ≤ 16) ∧ 0 ≤ cur ∧ cur < 3)
theorem rightC_any (w : World) (who cur : Int) : Calls Try.prog 33 #[.int .i64 who, .int .i64 cur] w fun e w' => e = .returned (.bool (rightC who cur)) ∧ w = w' := by
  have H : Hid (rightC who cur = decide ((1 ≤ who ∧ who ≤ 16) ∧ 0 ≤ cur ∧ cur < 3)) := rfl
  by_cases h1 : 1 ≤ who
  · by_cases h2 : who ≤ 16
    · by_cases h3 : 0 ≤ cur
      · by_cases h4 : cur < 3
        · go_enter Try.func33, Try.ntmps33
          go_wp2_with fail
          go_ret
          exact ⟨by rw [H.out, decide_eq_true ⟨⟨h1, h2⟩, h3, h4⟩]; rfl, rfl⟩
        · have h4' : decide (cur < 3) = false := by simpa using h4
          go_enter Try.func33, Try.ntmps33
          go_wp2_with fail
          go_ret
          exact ⟨by rw [H.out, decide_eq_false (by omega)]; rfl, rfl⟩
      · have h3' : decide (0 ≤ cur) = false := by simpa using h3
        go_enter Try.func33, Try.ntmps33
        go_wp2_with fail
        go_ret
        exact ⟨by rw [H.out, decide_eq_false (by omega)]; rfl, rfl⟩
    · have h2' : decide (who ≤ 16) = false := by simpa using h2
      go_enter Try.func33, Try.ntmps33
      go_wp2_with fail
      go_ret
      exact ⟨by rw [H.out, decide_eq_false (by omega)]; rfl, rfl⟩
  · have h1' : decide (1 ≤ who) = false := by simpa using h1
    go_enter Try.func33, Try.ntmps33
    go_wp2_with fail
    go_ret
    exact ⟨by rw [H.out, decide_eq_false (by omega)]; rfl, rfl⟩

end Cam
