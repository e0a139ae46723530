import Derived.Test.YtgjiphgehohooaaRefQ
import Derived.Test.YtgjiphgehohooaaRefX
import Derived.Test.YtgjiphgehohooaaWdLaw4
import Derived.Deep.RegionHeld3
import Derived.Deep.DeepCutAuto
/- WideExact. -/
namespace Cam
open Go Go.RowKit Go.Proofs

theorem keepS {w W w1 : World} {g k : Nat} {x y z t : Value} (hb : Below W.heap.size W w1) (h : (W.cell? ⟨g, 0, none⟩ = some x ∧ W.cell? ⟨g, 1, none⟩ = some y) ∧ (W.cell? ⟨k, 0, none⟩ = some z ∧ W.cell? ⟨k, 1, none⟩ = some t) ∧ Below w.heap.size w W) :
    (w1.cell? ⟨g, 0, none⟩ = some x ∧ w1.cell? ⟨g, 1, none⟩ = some y) ∧ (w1.cell? ⟨k, 0, none⟩ = some z ∧ w1.cell? ⟨k, 1, none⟩ = some t) ∧ Below w.heap.size w w1 :=
  ⟨keep2 hb h.1, keep2 hb h.2.1, h.2.2.next hb⟩
theorem same_self (w : World) (hi lo : Int) :
    Calls Try.prog 12 #[.agg #[.int .i64 hi, .int .u64 lo], .agg #[.int .i64 hi, .int .u64 lo]] w fun e w' => e = .returned (.bool true) ∧ Below w.heap.size w w' := by
  go_enter Try.func12, Try.ntmps12
  go_wp2_with fail
  go_ret
  exact ⟨rfl, ((Below.refl _ _).alloc (Nat.le_refl _) _).alloc (by simp) _⟩
theorem quo_flags (v n : Int) : (wQuoE v n = 2 ∧ wQuoB v n = false ∧ n < 1) ∨ (wQuoE v n = 1 ∧ wQuoB v n = false ∧ 1 ≤ n) ∨ (wQuoE v n = 0 ∧ wQuoB v n = true ∧ 1 ≤ n) := by
  unfold wQuoB
  by_cases h0 : n ≤ 0
  · have h : wQuoE v n = 2 := by unfold wQuoE; rw [if_pos h0]
    rw [h]
    exact .inl ⟨rfl, rfl, by omega⟩
  · cases hr : rightB (v / n) with
    | true =>
      have h : wQuoE v n = 0 := by unfold wQuoE; rw [if_neg h0, hr]; rfl
      rw [h]
      exact .inr (.inr ⟨rfl, rfl, by omega⟩)
    | false =>
      have h : wQuoE v n = 1 := by unfold wQuoE; rw [if_neg h0, hr]; rfl
      rw [h]
      exact .inr (.inl ⟨rfl, rfl, by omega⟩)
theorem int_flags (v : Int) : (rightB v = true ∧ wIntE v = 0) ∨ (rightB v = false ∧ wIntE v = 1) := by
  unfold wIntE
  cases rightB v <;> simp
/-- the two words of a wide in a block, and what was ahead -/
def Hold (w : World) (k : Nat) (z t : Value) (wx : World) : Prop := (wx.cell? ⟨k, 0, none⟩ = some z ∧ wx.cell? ⟨k, 1, none⟩ = some t) ∧ Below w.heap.size w wx
theorem Hold.next {w wx w1 : World} {k : Nat} {z t : Value} (h : Hold w k z t wx) (hb : Below wx.heap.size wx w1) : Hold w k z t w1 := ⟨keep2 hb h.1, h.2.next hb⟩

set_option maxRecDepth 100000 in
set_option maxHeartbeats 6400000 in
theorem WideExact_walk (w : World) (a b c hi lo v hi' lo' u : Int) (ha : -9223372036854775808 ≤ a ∧ a ≤ 9223372036854775807) (hb : -9223372036854775808 ≤ b ∧ b ≤ 9223372036854775807) (hc : -9223372036854775808 ≤ c ∧ c ≤ 9223372036854775807) (hv : IsW hi lo v) (hu : IsW hi' lo' u) :
    Calls Try.prog 4 #[.int .i64 a, .int .i64 b, .int .i64 c, .agg #[.int .i64 hi, .int .u64 lo], .agg #[.int .i64 hi', .int .u64 lo']] w fun e w' => e = .returned (.bool true) ∧ Below w.heap.size w w' := by
  obtain ⟨p, q, hpq, epq⟩ := wideV_form (v := a) (by rw [isWide_iff]; omega)
  have o1 := fun w => Of_any w a ha
  have o2 := fun w => rOf_any w a ha
  rw [epq] at o1 o2
  obtain ⟨r, s, hrs, t1⟩ := times_form a b ha hb
  have t2 := fun w => rTimes_any w a b ha hb
  rw [hrs.val] at t2
  have l1 := fun w => Less_run w v u hi lo hi' lo' hv hu
  have l2 := fun w => rLess_run w v u hi lo hi' lo' hv hu
  generalize decide (v < u) = B at l1 l2
  have Hrs := Lib.hid hrs
  have Hu := Lib.hid hu
  have Ha := Lib.hid ha
  have Hb := Lib.hid hb
  have Hc := Lib.hid hc
  clear hpq epq hrs hv hu ha hb hc
  go_enter Try.func4, Try.ntmps4
  go_upto_region 1 with fail
  have hS : (((w.alloc (.cells #[.int .i64 hi, .int .u64 lo] 29)).alloc (.cells #[.int .i64 hi', .int .u64 lo'] 29)).cell? ⟨w.heap.size, 0, none⟩ = some (.int .i64 hi) ∧ ((w.alloc (.cells #[.int .i64 hi, .int .u64 lo] 29)).alloc (.cells #[.int .i64 hi', .int .u64 lo'] 29)).cell? ⟨w.heap.size, 1, none⟩ = some (.int .u64 lo)) ∧
      (((w.alloc (.cells #[.int .i64 hi, .int .u64 lo] 29)).alloc (.cells #[.int .i64 hi', .int .u64 lo'] 29)).cell? ⟨w.heap.size + 1, 0, none⟩ = some (.int .i64 hi') ∧ ((w.alloc (.cells #[.int .i64 hi, .int .u64 lo] 29)).alloc (.cells #[.int .i64 hi', .int .u64 lo'] 29)).cell? ⟨w.heap.size + 1, 1, none⟩ = some (.int .u64 lo')) ∧
      Below w.heap.size w ((w.alloc (.cells #[.int .i64 hi, .int .u64 lo] 29)).alloc (.cells #[.int .i64 hi', .int .u64 lo'] 29)) := by
    have hz : w.heap.size + 1 = (w.alloc (.cells #[.int .i64 hi, .int .u64 lo] 29)).heap.size := by simp
    refine ⟨⟨keepL2 _ (by rw [World.cell?_alloc_new]; rfl), keepL2 _ (by rw [World.cell?_alloc_new]; rfl)⟩, ⟨by rw [hz, World.cell?_alloc_new]; rfl, by rw [hz, World.cell?_alloc_new]; rfl⟩, ((Below.refl _ _).alloc (Nat.le_refl _) _).alloc (by simp) _⟩
  generalize ((w.alloc (.cells #[.int .i64 hi, .int .u64 lo] 29)).alloc (.cells #[.int .i64 hi', .int .u64 lo'] 29)) = w2 at *
  generalize hg : w.heap.size + 1 = g at *
  clear hg
  have hS' : (w2.drew.cell? ⟨w.heap.size, 0, none⟩ = some (.int .i64 hi) ∧ w2.drew.cell? ⟨w.heap.size, 1, none⟩ = some (.int .u64 lo)) ∧ (w2.drew.cell? ⟨g, 0, none⟩ = some (.int .i64 hi') ∧ w2.drew.cell? ⟨g, 1, none⟩ = some (.int .u64 lo')) ∧ Below w.heap.size w w2.drew := ⟨hS.1, hS.2.1, hS.2.2.drew⟩
  go_cut [43] (fun s43 wx => s43 = .bool false ∧ Hold w g (.int .i64 hi') (.int .u64 lo') wx)
  case first =>
    go_region_held3 (fun w' => (w'.cell? ⟨w.heap.size, 0, none⟩ = some (.int .i64 hi) ∧ w'.cell? ⟨w.heap.size, 1, none⟩ = some (.int .u64 lo)) ∧ (w'.cell? ⟨g, 0, none⟩ = some (.int .i64 hi') ∧ w'.cell? ⟨g, 1, none⟩ = some (.int .u64 lo')) ∧ Below w.heap.size w w') (first | assumption | exact keepS (by assumption) (by assumption))
      (first
        | (go_at_call 13; refine (o1 _).mono ?_; rintro e w3 ⟨rfl, hb3⟩)
        | (go_at_call 14; refine (o2 _).mono ?_; rintro e w3 ⟨rfl, hb3⟩)
        | (go_at_call 15; refine (t1 _).mono ?_; rintro e w3 ⟨rfl, hb3⟩)
        | (go_at_call 16; refine (t2 _).mono ?_; rintro e w3 ⟨rfl, hb3⟩)
        | (go_at_call 17; refine (l1 _).mono ?_; rintro e w3 ⟨rfl, hb3⟩)
        | (go_at_call 18; refine (l2 _).mono ?_; rintro e w3 ⟨rfl, hb3⟩)
        | (go_at_call 12; refine (same_self _ _ _).mono ?_; rintro e w3 ⟨rfl, hb3⟩))
    all_goals
      go_wp2_with fail
      go_meet
      exact ⟨rfl, (by rename_i hHeld; exact ⟨hHeld.2.1, hHeld.2.2⟩)⟩
  case rest =>
    obtain ⟨rfl, hh⟩ := hcut
    clear hS hS' o1 o2 l1 l2 t1
    have hI := int_flags u
    have i1 := fun w => wInt_run w u hi' lo' Hu.out
    have i2 := fun w => rInt_run w u hi' lo' Hu.out
    generalize wInt u = x at *
    generalize wIntE u = E at *
    generalize rightB u = R at *
    have ⟨⟨hc0, hc1⟩, _⟩ := hh
    go_wp2_with fail
    refine (i1 _).mono ?_
    rintro e w4 ⟨rfl, hb4⟩
    have hh4 := hh.next hb4
    have ⟨⟨hd0, hd1⟩, _⟩ := hh4
    clear hc0 hc1 hh hb4
    go_wp2_with fail
    refine (i2 _).mono ?_
    rintro e w5 ⟨rfl, hb5⟩
    have hh5 := hh4.next hb5
    clear hd0 hd1 hh4 hb5 i1 i2
    go_upto_region 5 with fail
    go_cut [70] (fun s70 wx => s70 = .bool false ∧ wx = w5)
    case first =>
      rcases hI with ⟨rfl, rfl⟩ | ⟨rfl, rfl⟩
      all_goals
        go_wp2_with fail
        go_meet
        exact ⟨rfl, rfl⟩
    case rest =>
      obtain ⟨rfl, hwc⟩ := hcut
      subst hwc
      clear hI
      have hQ := quo_flags u c
      have i1 := fun w => Quo_run w hi' lo' u c Hu.out Hc.out
      have i2 := fun w => rQuo_run w hi' lo' u c Hu.out Hc.out
      generalize wQuo u c = x at *
      generalize wRem u c = y at *
      generalize wQuoE u c = E at *
      generalize wQuoB u c = R at *
      have ⟨⟨hc0, hc1⟩, _⟩ := hh5
      go_wp2_with fail
      refine (i1 _).mono ?_
      rintro e w6 ⟨rfl, hb6⟩
      have hh6 := hh5.next hb6
      have ⟨⟨hd0, hd1⟩, _⟩ := hh6
      clear hc0 hc1 hh5 hb6
      go_wp2_with fail
      refine (i2 _).mono ?_
      rintro e w7 ⟨rfl, hb7⟩
      have hh7 := (hh6.next hb7).2
      clear hd0 hd1 hh6 hb7 i1 i2
      go_upto_region 9 with fail
      go_cut [109] (fun s109 wx => s109 = .bool false ∧ wx = w7)
      case first =>
        rcases hQ with ⟨rfl, rfl, hq⟩ | ⟨rfl, rfl, hq⟩ | ⟨rfl, rfl, hq⟩
        · go_wp2_with fail
          go_meet
          exact ⟨rfl, rfl⟩
        · have hq' : decide (c < 1) = false := by simp; omega
          go_wp2_with fail
          go_meet
          exact ⟨rfl, rfl⟩
        · go_wp2_with fail
          go_meet
          exact ⟨rfl, rfl⟩
      case rest =>
        obtain ⟨rfl, hwc⟩ := hcut
        subst hwc
        clear hQ
        have hQ := quo_flags (a * b) c
        have i1 := fun w => Share_any w a b c Ha.out Hb.out Hc.out
        have i2 := fun w => rQuo_run w r s (a * b) c Hrs.out Hc.out
        generalize wQuo (a * b) c = x at *
        generalize wRem (a * b) c = y at *
        generalize wQuoE (a * b) c = E at *
        generalize wQuoB (a * b) c = R at *
        rcases hQ with ⟨rfl, rfl, hq⟩ | ⟨rfl, rfl, hq⟩ | ⟨rfl, rfl, hq⟩
        · go_wp2_with fail
          refine (i1 _).mono ?_
          rintro e w8 ⟨rfl, hb8⟩
          go_wp2_with fail
          refine (t2 _).mono ?_
          rintro e w9 ⟨rfl, hb9⟩
          go_wp2_with fail
          refine (i2 _).mono ?_
          rintro e w10 ⟨rfl, hb10⟩
          go_wp2_with fail
          refine (wakes_any _).mono ?_
          rintro e w11 ⟨rfl, hb11⟩
          go_wp2_with fail
          go_ret
          exact ⟨rfl, (((hh7.next hb8).next hb9).next hb10).next hb11⟩
        · have hq' : decide (c < 1) = false := by simp; omega
          go_wp2_with fail
          refine (i1 _).mono ?_
          rintro e w8 ⟨rfl, hb8⟩
          go_wp2_with fail
          refine (t2 _).mono ?_
          rintro e w9 ⟨rfl, hb9⟩
          go_wp2_with fail
          refine (i2 _).mono ?_
          rintro e w10 ⟨rfl, hb10⟩
          go_wp2_with fail
          refine (wakes_any _).mono ?_
          rintro e w11 ⟨rfl, hb11⟩
          go_wp2_with fail
          go_ret
          exact ⟨rfl, (((hh7.next hb8).next hb9).next hb10).next hb11⟩
        · go_wp2_with fail
          refine (i1 _).mono ?_
          rintro e w8 ⟨rfl, hb8⟩
          go_wp2_with fail
          refine (t2 _).mono ?_
          rintro e w9 ⟨rfl, hb9⟩
          go_wp2_with fail
          refine (i2 _).mono ?_
          rintro e w10 ⟨rfl, hb10⟩
          go_wp2_with fail
          refine (wakes_any _).mono ?_
          rintro e w11 ⟨rfl, hb11⟩
          go_wp2_with fail
          go_ret
          exact ⟨rfl, (((hh7.next hb8).next hb9).next hb10).next hb11⟩

end Cam
