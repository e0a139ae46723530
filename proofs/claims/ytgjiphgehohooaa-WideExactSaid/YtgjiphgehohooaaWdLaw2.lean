import Derived.Test.YtgjiphgehohooaaWdW
import Derived.Deep.DeepCutAuto
import Derived.Deep.RegionHeld3
/- WideParts. -/
namespace Cam
open Go Go.RowKit Go.Proofs

/-- Times, its answer in two words -/
theorem times_form (a b : Int) (ha : -9223372036854775808 ≤ a ∧ a ≤ 9223372036854775807) (hb : -9223372036854775808 ≤ b ∧ b ≤ 9223372036854775807) :
    ∃ p q, IsW p q (a * b) ∧ ∀ w, Calls Try.prog 15 #[.int .i64 a, .int .i64 b] w fun e w' => e = .returned (.agg #[.int .i64 p, .int .u64 q]) ∧ Below w.heap.size w w' := by
  obtain ⟨p, q, hpq, epq⟩ := wideV_form (v := a * b) (by have := prod_bound a b ha hb; rw [isWide_iff]; omega)
  have ti := fun w => wTimes_any w a b ha hb
  rw [epq] at ti
  exact ⟨p, q, hpq, ti⟩
/-- Sum of two, its answer in two words -/
theorem sum2_form (x y p q r s : Int) (hx : IsW p q x) (hy : IsW r s y) (hs : isWide (x + y) = true) :
    ∃ m n, IsW m n (x + y) ∧ ∀ w, Calls Try.prog 23 #[.slice (some ⟨w.heap.size, 0, none⟩) 2 2] (w.alloc (.cells #[.int .i64 p, .int .u64 q, .int .i64 r, .int .u64 s] 29)) fun e w' => e = .returned (.tuple #[.agg #[.int .i64 m, .int .u64 n], .int .i64 0]) ∧ Below w.heap.size w w' := by
  obtain ⟨m, n, hmn, emn⟩ := wideV_form hs
  have hS : sumI [x, y] = x + y := by simp [sumI]
  refine ⟨m, n, hmn, fun w => (wSum_any _ _ [x, y] (Ws.lit2 rfl x y p q r s hx hy _) ?_).mono ?_⟩
  · intro z hz
    simp only [List.mem_cons, List.not_mem_nil, or_false] at hz
    rcases hz with rfl | rfl
    · exact hx.wide
    · exact hy.wide
  · rintro e w' ⟨rfl, hb⟩
    refine ⟨?_, hb.un⟩
    unfold wSum wSumE
    rw [hS, hs, if_pos rfl, if_pos rfl, emn]

set_option maxRecDepth 100000 in
set_option maxHeartbeats 1600000 in
theorem WideParts_walk (w : World) (a b c : Int) (ha : -9223372036854775808 ≤ a ∧ a ≤ 9223372036854775807) (hb : -9223372036854775808 ≤ b ∧ b ≤ 9223372036854775807) (hc : -9223372036854775808 ≤ c ∧ c ≤ 9223372036854775807) :
    Calls Try.prog 6 #[.int .i64 a, .int .i64 b, .int .i64 c] w fun e w' => e = .returned (.bool true) ∧ Below w.heap.size w w' := by
  obtain ⟨p, q, hpq, tab⟩ := times_form a b ha hb
  have tba := fun w => wTimes_any w b a hb ha
  rw [Int.mul_comm b a, hpq.val] at tba
  have sm := fun w => same_run w _ _ p q p q hpq hpq
  rw [decide_eq_true (rfl : a * b = a * b)] at sm
  have Hpq := Lib.hid hpq
  have Ha := Lib.hid ha
  have Hb := Lib.hid hb
  have Hc := Lib.hid hc
  clear hpq ha hb hc
  go_enter Try.func6, Try.ntmps6
  go_wp2_with fail
  refine (tab _).mono ?_
  rintro e w1 ⟨rfl, hb1⟩
  go_wp2_with fail
  refine (tba _).mono ?_
  rintro e w2 ⟨rfl, hb2⟩
  go_wp2_with fail
  refine (sm _).mono ?_
  rintro e w3 ⟨rfl, hb3⟩
  have hw3 : Below w.heap.size w w3 := (hb1.next hb2).next hb3
  clear hb1 hb2 hb3 sm tba
  go_upto_region 3 with fail
  obtain ⟨P, hP⟩ : ∃ P : Bool, P = (decide (-2305843009213693952 < b) && decide (b < 2305843009213693952) && decide (-2305843009213693952 < c) && decide (c < 2305843009213693952)) := ⟨_, rfl⟩
  have HP := Lib.hid hP
  clear hP
  go_cut [32] (fun s32 wx => s32 = .bool P ∧ Below w.heap.size w wx)
  case first =>
    go_wp2_with fail
    all_goals (go_meet; exact ⟨congrArg Value.bool (by rw [HP.out]; simp; omega), hw3⟩)
  case rest =>
    obtain ⟨rfl, hwc⟩ := hcut
    clear hw3
    cases P
    case' true =>
      have hbc : (-2305843009213693952 < b ∧ b < 2305843009213693952) ∧ -2305843009213693952 < c ∧ c < 2305843009213693952 := by
        have := HP.out
        simp at this
        omega
      have hd : a * (b + c) = a * b + a * c := Int.mul_add a b c
      obtain ⟨r, s, hrs, tac⟩ := times_form a c Ha.out Hc.out
      have hwd : isWide (a * b + a * c) = true := by
        rw [← hd, isWide_iff]
        have := prod_bound a (b + c) Ha.out (by omega)
        omega
      obtain ⟨m, n, hmn, su⟩ := sum2_form _ _ p q r s Hpq.out hrs hwd
      have tbc := fun w => wTimes_any w a (b + c) Ha.out (by omega)
      rw [hd, hmn.val] at tbc
      have sm2 := fun w => same_run w _ _ m n m n hmn hmn
      rw [decide_eq_true (rfl : a * b + a * c = a * b + a * c)] at sm2
      have hwr : IntKind.i64.wrap (b + c) = b + c := Go.IntWalk.i64_in _ (by omega)
      have Hmn := Lib.hid hmn
      have Hbc := Lib.hid hbc
      clear hrs hd hwd hmn hbc
      go_wp2_with fail
      refine (tab _).mono ?_
      rintro e w4 ⟨rfl, hb4⟩
      go_wp2_with fail
      refine (tac _).mono ?_
      rintro e w5 ⟨rfl, hb5⟩
      go_wp2_with fail
      refine (su _).mono ?_
      rintro e w6 ⟨rfl, hb6⟩
      go_wp2_with fail
      have hw6 : Below w.heap.size w (w6.alloc (.cells #[.int .i64 m, .int .u64 n] 29)) := (((hwc.next hb4).next hb5).next hb6).alloc ((((hwc.next hb4).next hb5).next hb6).size) _
      have hc0 : (w6.alloc (.cells #[.int .i64 m, .int .u64 n] 29)).cell? ⟨w6.heap.size, 0, none⟩ = some (.int .i64 m) := by rw [World.cell?_alloc_new]; rfl
      have hc1 : (w6.alloc (.cells #[.int .i64 m, .int .u64 n] 29)).cell? ⟨w6.heap.size, 1, none⟩ = some (.int .u64 n) := by rw [World.cell?_alloc_new]; rfl
      generalize w6.alloc (.cells #[.int .i64 m, .int .u64 n] 29) = w7 at *
      generalize w6.heap.size = g at *
      clear hb4 hb5 hb6
      go_region_held3 (fun w' => w'.cell? ⟨g, 0, none⟩ = some (.int .i64 m) ∧ w'.cell? ⟨g, 1, none⟩ = some (.int .u64 n)) (first | go_keep | exact keep2 (by assumption) (by assumption))
        (first
          | (go_at_call 15; refine (tbc _).mono ?_; rintro e w8 ⟨rfl, hb8⟩)
          | (go_at_call 12; refine (sm2 _).mono ?_; rintro e w9 ⟨rfl, hb9⟩))
      have hwx : Below w.heap.size w w9 := (hw6.drew.next hb8).next hb9
      clear hc0 hc1 hw6 hb8 hb9 sm2 tbc su tac hwr
      go_upto_region 7 with fail
    case' false =>
      have hwx := hwc
      clear hwc
      go_upto_region 7 with fail
    all_goals
      obtain ⟨Q, hQ⟩ : ∃ Q : Bool, Q = (decide (-4611686018427387904 < a) && decide (a < 4611686018427387904)) := ⟨_, rfl⟩
      have HQ := Lib.hid hQ
      clear hQ
      go_cut [61] (fun s61 wx => s61 = .bool Q ∧ Below w.heap.size w wx)
      case first =>
        go_wp2_with fail
        all_goals (go_meet; exact ⟨congrArg Value.bool (by rw [HQ.out]; simp; omega), hwx⟩)
      case rest =>
        rename_i wd
        obtain ⟨rfl, hwd⟩ := hcut
        clear hwx
        cases Q with
        | true =>
          have hba : -4611686018427387904 < a ∧ a < 4611686018427387904 := by
            have := HQ.out
            simp at this
            omega
          obtain ⟨r, s, hrs, tna⟩ := times_form (-a) b (by omega) Hb.out
          have hz : a * b + -a * b = 0 := by rw [Int.neg_mul]; omega
          obtain ⟨m, n, hmn, su⟩ := sum2_form _ _ p q r s Hpq.out hrs (by rw [hz]; decide)
          rw [hz] at hmn
          have hmn0 : m = 0 ∧ n = 0 := by unfold IsW at hmn; omega
          obtain ⟨rfl, rfl⟩ := hmn0
          have hneg : wrap64 (-a) = -a := by unfold wrap64; omega
          clear hmn hz hrs hba
          go_wp2_with fail
          refine (tab _).mono ?_
          rintro e w4 ⟨rfl, hb4⟩
          go_wp2_with fail
          refine (tna _).mono ?_
          rintro e w5 ⟨rfl, hb5⟩
          go_wp2_with fail
          refine (su _).mono ?_
          rintro e w6 ⟨rfl, hb6⟩
          go_wp2_with fail
          refine (wakes_any _).mono ?_
          rintro e w7 ⟨rfl, hb7⟩
          go_wp2_with fail
          go_ret
          exact ⟨rfl, ((((hwd.next hb4).next hb5).next hb6).alloc ((((hwd.next hb4).next hb5).next hb6).size) _).next hb7⟩
        | false =>
          go_wp2_with fail
          refine (wakes_any _).mono ?_
          rintro e w7 ⟨rfl, hb7⟩
          go_wp2_with fail
          go_ret
          exact ⟨rfl, hwd.next hb7⟩

end Cam
