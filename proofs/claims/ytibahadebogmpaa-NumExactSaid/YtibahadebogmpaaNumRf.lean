import Derived.Test.YtibahadebogmpaaRefX1
import Derived.Test.YtibahadebogmpaaRefS1
/- cambistref01: All, Add, Mul, Floor. -/
namespace Cam
open Go Go.RowKit Go.Proofs

set_option maxHeartbeats 400000 in
theorem All_any (w : World) (v : Value) (l : List Int) (h : Is w v l) :
    Calls Try.prog 15 #[v] w fun e w' => e = .returned (.bool (allRight l)) ∧ w = w' := by
  obtain ⟨a, cap, rfl, hcap, hm⟩ := h.shape
  go_enter Try.func15, Try.ntmps15
  go_wp2
  go_loop [3] (fun i => ∃ k : Nat, k ≤ l.length ∧ i = .int .i64 k ∧ Hid (allRight (l.take k) = true)) (fun i => l.length - (intOf i).toNat)
  case atStart => exact ⟨0, Nat.zero_le _, rfl, rfl⟩
  case round =>
    obtain ⟨k, hk, rfl, Hall⟩ := hrel
    by_cases hlt : k < l.length
    · obtain ⟨b, off, rfl, _, hc⟩ := h.at (by omega)
      have hck := hc k hlt
      clear hc
      obtain ⟨n, hn⟩ : ∃ n, n = l[k] := ⟨_, rfl⟩
      rw [← hn] at hck
      have hA : allRight (l.take (k + 1)) = rightB n := by rw [take_snoc _ _ hlt, allRight_append, Hall.out, ← hn]; simp [allRight]
      have hF : rightB n = false → allRight l = false := by
        intro hr
        rw [← List.take_append_drop (k + 1) l, allRight_append, hA, hr]
        rfl
      have HA := Lib.hid hA
      have HF := Lib.hid hF
      have rr := fun w => rRight_any w n
      clear hn hA hF
      cases hr : rightB n with
      | true =>
        rw [hr] at rr
        have Hr := Lib.hid hr
        clear hr
        go_wp2_with fail
        refine (rr _).mono ?_
        rintro e w1 ⟨rfl, rfl⟩
        go_wp2_with fail
        exact ⟨⟨k + 1, by omega, by push_cast; rfl, HA.out.trans Hr.out⟩, by simp [intOf]; omega⟩
      | false =>
        rw [hr] at rr
        have Hr := Lib.hid (HF.out hr)
        clear hr
        go_wp2_with fail
        refine (rr _).mono ?_
        rintro e w1 ⟨rfl, rfl⟩
        go_wp2_with fail
        go_ret
        exact ⟨by rw [Hr.out]; rfl, rfl⟩
    · have Hf : Hid (allRight l = true) := by
        show _ = _
        rw [← Hall.out, List.take_of_length_le (by omega)]
      go_wp2_with fail
      go_ret
      exact ⟨by rw [Hf.out]; rfl, rfl⟩

theorem rMul_any (w : World) (a b : Int) (ha : -9223372036854775808 ≤ a ∧ a ≤ 9223372036854775807) (hb : -9223372036854775808 ≤ b ∧ b ≤ 9223372036854775807) :
    Calls Try.prog 18 #[.int .i64 a, .int .i64 b] w fun e w' => e = .returned (.tuple #[.int .i64 (wInt (a * b)), .bool (rightB (a * b))]) ∧ Below w.heap.size w w' := by
  obtain ⟨p, q, hpq, epq⟩ := wideV_form (v := a * b) (by rw [isWide_iff]; have := prod_bound a b ha hb; omega)
  have ti := fun w => rTimes_any w a b ha hb
  rw [epq] at ti
  have it := fun w => rInt_run w _ _ _ hpq
  generalize wInt (a * b) = x at *
  generalize rightB (a * b) = y at *
  clear hpq epq ha hb
  go_enter Try.func18, Try.ntmps18
  go_wp2_with fail
  refine (ti _).mono ?_
  rintro e w1 ⟨rfl, hb1⟩
  go_wp2_with fail
  refine (it _).mono ?_
  rintro e w2 ⟨rfl, hb2⟩
  go_wp2_with fail
  go_ret2
  exact ⟨rfl, hb1.next hb2⟩

theorem sumI_i64 (l : List Int) (h : ∀ n ∈ l, -9223372036854775808 ≤ n ∧ n ≤ 9223372036854775807) : -(9223372036854775808 * (l.length : Int)) ≤ sumI l ∧ sumI l ≤ 9223372036854775808 * (l.length : Int) := by
  induction l with
  | nil => simp [sumI]
  | cons a l ih =>
    have h1 := h a (by simp)
    have h2 := ih (fun n hn => h n (by simp [hn]))
    rw [sumI, List.length_cons]
    omega

set_option maxHeartbeats 1600000 in
theorem rAdd_any (w : World) (v : Value) (l : List Int) (h : Is w v l) (hl : ∀ n ∈ l, -9223372036854775808 ≤ n ∧ n ≤ 9223372036854775807) (hlen : l.length ≤ 1000000) :
    Calls Try.prog 16 #[v] w fun e w' => e = .returned (.tuple #[.int .i64 (wInt (sumI l)), .bool (rightB (sumI l))]) ∧ Below w.heap.size w w' := by
  obtain ⟨a, cap, rfl, hcap, hm⟩ := h.shape
  have Hl := Lib.hid hl
  clear hl
  go_enter Try.func16, Try.ntmps16
  go_wp2_with fail
  go_loopw [4, 5] (fun s i wr => ∃ (k : Nat) (r : List Int) (ab : Option Addr) (nb cb : Nat), k ≤ l.length ∧ i = .int .i64 k ∧ s = .slice ab nb cb ∧ OwnW 52 wr w.heap.size (.slice ab nb cb) r ∧ Hid (r = l.take k) ∧ Below w.heap.size w wr) (fun _ i _ => l.length - (intOf i).toNat)
  case atStart => exact ⟨0, [], none, 0, 0, Nat.zero_le _, rfl, rfl, OwnW.empty _ _ _, rfl, Below.refl _ _⟩
  case round =>
    obtain ⟨k, r, ab, nb, cb, hk, rfl, rfl, hown, Hr, hbr⟩ := hrel
    by_cases hlt : k < l.length
    · have hrl : r.length ≤ 1000000 := by rw [Hr.out]; simp; omega
      obtain ⟨b, off, rfl, _, hc⟩ := (h.monoB hbr (Nat.le_refl _)).at (by omega)
      have hck := hc k hlt
      clear hc
      obtain ⟨n, hn⟩ : ∃ n, n = l[k] := ⟨_, rfl⟩
      have hb := Hl.out _ (List.getElem_mem hlt)
      rw [← hn] at hck hb
      obtain ⟨p, q, hpq, epq⟩ := wideV_form (v := n) (by rw [isWide_iff]; omega)
      have of := fun w => rOf_any w n hb
      rw [epq] at of
      have Hn := Lib.hid hn
      have Hpq := Lib.hid hpq
      clear hn hpq epq hb
      go_wp2_with fail
      refine (of _).mono ?_
      rintro e w1 ⟨rfl, hb1⟩
      have hone : Ws (w1.alloc (.cells #[.int .i64 p, .int .u64 q] 52)) (.slice (some ⟨w1.heap.size, 0, none⟩) 1 1) [n] := Ws.lit1 rfl n p q Hpq.out _
      have ho1 := hown.below hb1
      have hbw := hbr.next hb1
      have hsz := hbw.size
      clear of
      go_wp2_with (first | (at_builtin; refine wpList_append_wides rfl (.tmp 14) (.tmp 20) 50 rfl (m := [n]) elem_wide rfl rfl (OwnW.alloc ho1 _) hone (by simp; omega) (by simp; omega) ?_; intro a' n' c' w' Hn' hown' hb' hg'))
      go_roundw
      case rel =>
        refine ⟨k + 1, r ++ [n], _, _, _, by omega, by go_num, rfl, hown', ?_, (hbw.alloc hsz _).trans hb'⟩
        show _ = _
        rw [Hr.out, Hn.out, take_snoc l k hlt]
      case measure => simp [intOf]; omega
    · have hr : r = l := by rw [Hr.out, List.take_of_length_le (by omega)]
      subst hr
      have hS := sumI_i64 r Hl.out
      have hws := hown.ws
      have hw : isWide (sumI r) = true := by rw [isWide_iff]; omega
      have su := fun w v hv => rSum_any w v r hv (fun x hx => by have := Hl.out x hx; rw [isWide_iff]; omega)
      have e1 : wSum r = sumI r := by unfold wSum; rw [if_pos hw]
      obtain ⟨p, q, hpq, epq⟩ := wideV_form hw
      rw [e1, epq, hw] at su
      have it := fun w => rInt_run w _ _ _ hpq
      clear hpq epq hw e1 hS hown Hr h
      go_wp2_with fail
      refine (su _ _ hws).mono ?_
      rintro e w1 ⟨rfl, hb1⟩
      have hw2 : Below w.heap.size w (w1.alloc (.cells #[.int .i64 p, .int .u64 q] 52)) := (hbr.next hb1).alloc (hbr.next hb1).size _
      have hc0 : (w1.alloc (.cells #[.int .i64 p, .int .u64 q] 52)).cell? ⟨w1.heap.size, 0, none⟩ = some (.int .i64 p) := by rw [World.cell?_alloc_new]; rfl
      have hc1 : (w1.alloc (.cells #[.int .i64 p, .int .u64 q] 52)).cell? ⟨w1.heap.size, 1, none⟩ = some (.int .u64 q) := by rw [World.cell?_alloc_new]; rfl
      clear hws su
      go_wp2_with fail
      refine (it _).mono ?_
      rintro e w3 ⟨rfl, hb3⟩
      go_wp2_with fail
      go_ret2
      exact ⟨rfl, hw2.next hb3⟩

set_option maxHeartbeats 1600000 in
theorem Floor_any (w : World) (a b : Int) (hr : allRight [a, b] = true) (hb : b ≠ 0) :
    Calls Try.prog 19 #[.int .i64 a, .int .i64 b] w fun e w' => e = .returned (.tuple #[.int .i64 (floorQ a b), .int .i64 (floorR a b)]) ∧ Below w.heap.size w w' := by
  have tb := tq_bounds a b hb
  have hab := (two_right a b).1 hr
  clear hr
  obtain ⟨q, hq⟩ : ∃ q, q = a.tdiv b := ⟨_, rfl⟩
  obtain ⟨r, hr⟩ : ∃ r, r = a.tmod b := ⟨_, rfl⟩
  rw [← hq, ← hr] at tb
  have hq1 : wrap64 (a.tdiv b) = q := by rw [← hq]; unfold wrap64; omega
  have hq2 : wrap64 (q - 1) = q - 1 := by unfold wrap64; omega
  have hq3 : wrap64 (r + b) = r + b := by unfold wrap64; omega
  have hr1 := hr.symm
  have Hq := Lib.hid hq
  have Hr := Lib.hid hr
  have Hb := Lib.hid hb
  clear hq hr tb hab
  have fin : ∀ (x y : Int), (adj a b = true → x = q - 1 ∧ y = r + b) → (adj a b = false → x = q ∧ y = r) → x = floorQ a b ∧ y = floorR a b := by
    intro x y h1 h2
    unfold floorQ floorR
    rw [← Hq.out, ← Hr.out]
    cases h : adj a b with
    | true => simpa using h1 h
    | false => simpa using h2 h
  have hadj : Hid (adj a b = decide (r ≠ 0 ∧ ((r < 0 ∧ 0 ≤ b) ∨ (0 ≤ r ∧ b < 0)))) := by show _ = _; unfold adj; rw [Hr.out]
  go_enter Try.func19, Try.ntmps19
  go_wp2_with fail
  go_quiet (fail)
  have HQ1 := Lib.hid hq1
  clear hq1 hr1
  by_cases h0 : r = 0
  · have ha : Hid (adj a b = false) := by show _ = _; rw [hadj.out]; simp [h0]
    have ff := fin q 0 (by rw [ha.out]; simp) (by rw [← h0]; simp)
    have Ff := Lib.hid ff
    clear ff fin
    subst h0
    go_wp2_with fail
    refine bodyPost_ret (v := .tuple #[.int .i64 q, .int .i64 0]) (by simp [results, Try.results19, go_sem, HQ1.out, hq2, hq3]) rfl ?_
    exact ⟨by rw [← Ff.out.1, ← Ff.out.2], below_drewN' (Below.refl _ _) _⟩
  · by_cases h1 : r < 0
    · by_cases h2 : b < 0
      · have ha : Hid (adj a b = false) := by show _ = _; rw [hadj.out]; simp; omega
        have ff := fin q r (by rw [ha.out]; simp) (by simp)
        have Ff := Lib.hid ff
        clear ff fin
        go_wp2_with fail
        refine bodyPost_ret (v := .tuple #[.int .i64 q, .int .i64 r]) (by simp [results, Try.results19, go_sem, HQ1.out, hq2, hq3]) rfl ?_
        exact ⟨by rw [← Ff.out.1, ← Ff.out.2], below_drewN' (Below.refl _ _) _⟩
      · have h2' : decide (b < 0) = false := by simp; omega
        have ha : Hid (adj a b = true) := by show _ = _; rw [hadj.out]; simp; omega
        have ff := fin (q - 1) (r + b) (by simp) (by rw [ha.out]; simp)
        have Ff := Lib.hid ff
        clear ff fin
        go_wp2_with fail
        refine bodyPost_ret (v := .tuple #[.int .i64 (q - 1), .int .i64 (r + b)]) (by simp [results, Try.results19, go_sem, HQ1.out, hq2, hq3]) rfl ?_
        exact ⟨by rw [← Ff.out.1, ← Ff.out.2], below_drewN' (Below.refl _ _) _⟩
    · have h1' : decide (r < 0) = false := by simp; omega
      by_cases h2 : b < 0
      · have ha : Hid (adj a b = true) := by show _ = _; rw [hadj.out]; simp; omega
        have ff := fin (q - 1) (r + b) (by simp) (by rw [ha.out]; simp)
        have Ff := Lib.hid ff
        clear ff fin
        go_wp2_with fail
        refine bodyPost_ret (v := .tuple #[.int .i64 (q - 1), .int .i64 (r + b)]) (by simp [results, Try.results19, go_sem, HQ1.out, hq2, hq3]) rfl ?_
        exact ⟨by rw [← Ff.out.1, ← Ff.out.2], below_drewN' (Below.refl _ _) _⟩
      · have h2' : decide (b < 0) = false := by simp; omega
        have ha : Hid (adj a b = false) := by show _ = _; rw [hadj.out]; simp; omega
        have ff := fin q r (by rw [ha.out]; simp) (by simp)
        have Ff := Lib.hid ff
        clear ff fin
        go_wp2_with fail
        refine bodyPost_ret (v := .tuple #[.int .i64 q, .int .i64 r]) (by simp [results, Try.results19, go_sem, HQ1.out, hq2, hq3]) rfl ?_
        exact ⟨by rw [← Ff.out.1, ← Ff.out.2], below_drewN' (Below.refl _ _) _⟩

end Cam
