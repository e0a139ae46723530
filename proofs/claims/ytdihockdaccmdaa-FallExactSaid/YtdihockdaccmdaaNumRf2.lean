import Derived.Test.YtdihockdaccmdaaRefX2
import Derived.Test.YtdihockdaccmdaaRefS2
/- cambistref01: All, Add (cut by program) -/
namespace Cam
open Go Go.RowKit Go.Proofs

set_option maxHeartbeats 400000 in
theorem All_any (w : World) (v : Value) (l : List Int) (h : Is w v l) :
    Calls Try.prog 27 #[v] w fun e w' => e = .returned (.bool (allRight l)) ∧ w = w' := by
  obtain ⟨a, cap, rfl, hcap, hm⟩ := h.shape
  go_enter Try.func27, Try.ntmps27
  go_wp2
  go_loop [3] (fun i => ∃ k : Nat, k ≤ l.length ∧ i = .int .i64 k ∧ Hid (allRight (l.take k) = true)) (fun i => l.length - (intOf i).toNat)
  case atStart => exact ⟨0, Nat.zero_le _, rfl, rfl⟩
  case round =>
    obtain ⟨k, hk, rfl, Hall⟩ := hrel
    by_cases hlt : k < l.length
    · obtain ⟨b, off, rfl, _, hc⟩ := h.at (by omega)
      have hck := hc k hlt
      clear hc
      obtain ⟨n, hn⟩ : ∃ n, n = l[k] := ⟨_, rfl⟩
      rw [← hn] at hck
      have hA : allRight (l.take (k + 1)) = rightB n := by rw [take_snoc _ _ hlt, allRight_append, Hall.out, ← hn]; simp [allRight]
      have hF : rightB n = false → allRight l = false := by
        intro hr
        rw [← List.take_append_drop (k + 1) l, allRight_append, hA, hr]
        rfl
      have HA := Lib.hid hA
      have HF := Lib.hid hF
      have rr := fun w => rRight_any w n
      clear hn hA hF
      cases hr : rightB n with
      | true =>
        rw [hr] at rr
        have Hr := Lib.hid hr
        clear hr
        go_wp2_with fail
        refine (rr _).mono ?_
        rintro e w1 ⟨rfl, rfl⟩
        go_wp2_with fail
        exact ⟨⟨k + 1, by omega, by push_cast; rfl, HA.out.trans Hr.out⟩, by simp [intOf]; omega⟩
      | false =>
        rw [hr] at rr
        have Hr := Lib.hid (HF.out hr)
        clear hr
        go_wp2_with fail
        refine (rr _).mono ?_
        rintro e w1 ⟨rfl, rfl⟩
        go_wp2_with fail
        go_ret
        exact ⟨by rw [Hr.out]; rfl, rfl⟩
    · have Hf : Hid (allRight l = true) := by
        show _ = _
        rw [← Hall.out, List.take_of_length_le (by omega)]
      go_wp2_with fail
      go_ret
      exact ⟨by rw [Hf.out]; rfl, rfl⟩

theorem sumI_i64 (l : List Int) (h : ∀ n ∈ l, -9223372036854775808 ≤ n ∧ n ≤ 9223372036854775807) : -(9223372036854775808 * (l.length : Int)) ≤ sumI l ∧ sumI l ≤ 9223372036854775808 * (l.length : Int) := by
  induction l with
  | nil => simp [sumI]
  | cons a l ih =>
    have h1 := h a (by simp)
    have h2 := ih (fun n hn => h n (by simp [hn]))
    rw [sumI, List.length_cons]
    omega

set_option maxHeartbeats 1600000 in
theorem rAdd_any (w : World) (v : Value) (l : List Int) (h : Is w v l) (hl : ∀ n ∈ l, -9223372036854775808 ≤ n ∧ n ≤ 9223372036854775807) (hlen : l.length ≤ 1000000) :
    Calls Try.prog 23 #[v] w fun e w' => e = .returned (.tuple #[.int .i64 (wInt (sumI l)), .bool (rightB (sumI l))]) ∧ Below w.heap.size w w' := by
  obtain ⟨a, cap, rfl, hcap, hm⟩ := h.shape
  have Hl := Lib.hid hl
  clear hl
  go_enter Try.func23, Try.ntmps23
  go_wp2_with fail
  go_loopw [4, 5] (fun s i wr => ∃ (k : Nat) (r : List Int) (ab : Option Addr) (nb cb : Nat), k ≤ l.length ∧ i = .int .i64 k ∧ s = .slice ab nb cb ∧ OwnW 63 wr w.heap.size (.slice ab nb cb) r ∧ Hid (r = l.take k) ∧ Below w.heap.size w wr) (fun _ i _ => l.length - (intOf i).toNat)
  case atStart => exact ⟨0, [], none, 0, 0, Nat.zero_le _, rfl, rfl, OwnW.empty _ _ _, rfl, Below.refl _ _⟩
  case round =>
    obtain ⟨k, r, ab, nb, cb, hk, rfl, rfl, hown, Hr, hbr⟩ := hrel
    by_cases hlt : k < l.length
    · have hrl : r.length ≤ 1000000 := by rw [Hr.out]; simp; omega
      obtain ⟨b, off, rfl, _, hc⟩ := (h.monoB hbr (Nat.le_refl _)).at (by omega)
      have hck := hc k hlt
      clear hc
      obtain ⟨n, hn⟩ : ∃ n, n = l[k] := ⟨_, rfl⟩
      have hb := Hl.out _ (List.getElem_mem hlt)
      rw [← hn] at hck hb
      obtain ⟨p, q, hpq, epq⟩ := wideV_form (v := n) (by rw [isWide_iff]; omega)
      have of := fun w => rOf_any w n hb
      rw [epq] at of
      have Hn := Lib.hid hn
      have Hpq := Lib.hid hpq
      clear hn hpq epq hb
      go_wp2_with fail
      refine (of _).mono ?_
      rintro e w1 ⟨rfl, hb1⟩
      have hone : Ws (w1.alloc (.cells #[.int .i64 p, .int .u64 q] 63)) (.slice (some ⟨w1.heap.size, 0, none⟩) 1 1) [n] := Ws.lit1 rfl n p q Hpq.out _
      have ho1 := hown.below hb1
      have hbw := hbr.next hb1
      have hsz := hbw.size
      clear of
      go_wp2_with (first | (at_builtin; refine wpList_append_wides rfl (.tmp 14) (.tmp 20) 61 rfl (m := [n]) elem_wide rfl rfl (OwnW.alloc ho1 _) hone (by simp; omega) (by simp; omega) ?_; intro a' n' c' w' Hn' hown' hb' hg'))
      go_roundw
      case rel =>
        refine ⟨k + 1, r ++ [n], _, _, _, by omega, by go_num, rfl, hown', ?_, (hbw.alloc hsz _).trans hb'⟩
        show _ = _
        rw [Hr.out, Hn.out, take_snoc l k hlt]
      case measure => simp [intOf]; omega
    · have hr : r = l := by rw [Hr.out, List.take_of_length_le (by omega)]
      subst hr
      have hS := sumI_i64 r Hl.out
      have hws := hown.ws
      have hw : isWide (sumI r) = true := by rw [isWide_iff]; omega
      have su := fun w v hv => rSum_any w v r hv (fun x hx => by have := Hl.out x hx; rw [isWide_iff]; omega)
      have e1 : wSum r = sumI r := by unfold wSum; rw [if_pos hw]
      obtain ⟨p, q, hpq, epq⟩ := wideV_form hw
      rw [e1, epq, hw] at su
      have it := fun w => rInt_run w _ _ _ hpq
      clear hpq epq hw e1 hS hown Hr h
      go_wp2_with fail
      refine (su _ _ hws).mono ?_
      rintro e w1 ⟨rfl, hb1⟩
      have hw2 : Below w.heap.size w (w1.alloc (.cells #[.int .i64 p, .int .u64 q] 63)) := (hbr.next hb1).alloc (hbr.next hb1).size _
      have hc0 : (w1.alloc (.cells #[.int .i64 p, .int .u64 q] 63)).cell? ⟨w1.heap.size, 0, none⟩ = some (.int .i64 p) := by rw [World.cell?_alloc_new]; rfl
      have hc1 : (w1.alloc (.cells #[.int .i64 p, .int .u64 q] 63)).cell? ⟨w1.heap.size, 1, none⟩ = some (.int .u64 q) := by rw [World.cell?_alloc_new]; rfl
      clear hws su
      go_wp2_with fail
      refine (it _).mono ?_
      rintro e w3 ⟨rfl, hb3⟩
      go_wp2_with fail
      go_ret2
      exact ⟨rfl, hw2.next hb3⟩

end Cam
