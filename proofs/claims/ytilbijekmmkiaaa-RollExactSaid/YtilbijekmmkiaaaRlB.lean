import Derived.Test.YtilbijekmmkiaaaRlA
import Derived.Test.YtilbijekmmkiaaaNumR
import Derived.Deep.DeepCutAuto
/- roll: within, right.., no..; the page's. -/
namespace Cam
open Go Go.RowKit Go.Proofs
theorem within_any (w : World) (n lo hi : Int) : Calls Try.prog 64 #[.int .i64 n, .int .i64 lo, .int .i64 hi] w fun e w' => e = .returned (.bool (wB n lo hi)) ∧ w = w' := by
 by_cases h1 : lo ≤ n
 ·
  by_cases h2 : n ≤ hi
  ·
   have h : wB n lo hi = true := by unfold wB; exact decide_eq_true ⟨h1, h2⟩
   have H := Lib.hid h
   clear h
   go_enter Try.func64, Try.ntmps64
   go_wp2_with fail
   go_ret
   exact ⟨by rw [H.out]; rfl, rfl⟩
  ·
   have h : wB n lo hi = false := by unfold wB; exact decide_eq_false (fun h => h2 h.2)
   have H := Lib.hid h
   clear h
   have hd : decide (n ≤ hi) = false := decide_eq_false h2
   go_enter Try.func64, Try.ntmps64
   go_wp2_with fail
   go_ret
   exact ⟨by rw [H.out]; rfl, rfl⟩
 ·
  have h : wB n lo hi = false := by unfold wB; exact decide_eq_false (fun h => h1 h.1)
  have H := Lib.hid h
  clear h
  have hd : decide (lo ≤ n) = false := decide_eq_false h1
  go_enter Try.func64, Try.ntmps64
  go_wp2_with fail
  go_ret
  exact ⟨by rw [H.out]; rfl, rfl⟩
theorem rwithin_any (w : World) (n lo hi : Int) : Calls Try.prog 65 #[.int .i64 n, .int .i64 lo, .int .i64 hi] w fun e w' => e = .returned (.bool (wB n lo hi)) ∧ w = w' := by
 by_cases h1 : lo ≤ n
 ·
  by_cases h2 : n ≤ hi
  ·
   have h : wB n lo hi = true := by unfold wB; exact decide_eq_true ⟨h1, h2⟩
   have H := Lib.hid h
   clear h
   go_enter Try.func65, Try.ntmps65
   go_wp2_with fail
   go_ret
   exact ⟨by rw [H.out]; rfl, rfl⟩
  ·
   have h : wB n lo hi = false := by unfold wB; exact decide_eq_false (fun h => h2 h.2)
   have H := Lib.hid h
   clear h
   have hd : decide (n ≤ hi) = false := decide_eq_false h2
   go_enter Try.func65, Try.ntmps65
   go_wp2_with fail
   go_ret
   exact ⟨by rw [H.out]; rfl, rfl⟩
 ·
  have h : wB n lo hi = false := by unfold wB; exact decide_eq_false (fun h => h1 h.1)
  have H := Lib.hid h
  clear h
  have hd : decide (lo ≤ n) = false := decide_eq_false h1
  go_enter Try.func65, Try.ntmps65
  go_wp2_with fail
  go_ret
  exact ⟨by rw [H.out]; rfl, rfl⟩
theorem rWho_any (w : World) (n : Int) : Calls Try.prog 67 #[.int .i64 n] w fun e w' => e = .returned (.bool (wB n 1 16)) ∧ w = w' := by
 have c := rwithin_any w n 1 16
 generalize wB n 1 16 = b at *
 go_enter Try.func67, Try.ntmps67
 go_wp2_with fail
 refine c.mono ?_
 clear c
 rintro e w' ⟨rfl, rfl⟩
 go_wp2_with fail
 go_ret
 exact ⟨rfl, rfl⟩
theorem rCur_any (w : World) (n : Int) : Calls Try.prog 68 #[.int .i64 n] w fun e w' => e = .returned (.bool (wB n 0 2)) ∧ w = w' := by
 have c := rwithin_any w n 0 2
 generalize wB n 0 2 = b at *
 go_enter Try.func68, Try.ntmps68
 go_wp2_with fail
 refine c.mono ?_
 clear c
 rintro e w' ⟨rfl, rfl⟩
 go_wp2_with fail
 go_ret
 exact ⟨rfl, rfl⟩
theorem noM_any (w : World) (no state need : Int) : Calls Try.prog 45 #[.agg #[.int .i64 no, .int .i64 state, .int .i64 need]] w fun e w' => e = .returned (.int .i64 no) ∧ Below w.heap.size w w' := by
 go_enter Try.func45, Try.ntmps45
 go_wp2_with fail
 go_ret
 exact ⟨rfl, (Below.refl _ _).alloc (Nat.le_refl _) _⟩
theorem noI_any (w : World) (no cur mult add set price h0 h1 h2 h3 h4 h5 : Int) : Calls Try.prog 48 #[.agg #[.int .i64 no, .int .i64 cur, .int .i64 mult, .int .i64 add, .int .i64 set, .int .i64 price, .int .i64 h0, .int .i64 h1, .int .i64 h2, .int .i64 h3, .int .i64 h4, .int .i64 h5]] w fun e w' => e = .returned (.int .i64 no) ∧ Below w.heap.size w w' := by
 go_enter Try.func48, Try.ntmps48
 go_wp2_with fail
 go_ret
 exact ⟨rfl, (Below.refl _ _).alloc (Nat.le_refl _) _⟩
theorem noA_any (w : World) (no cur price cut : Int) : Calls Try.prog 51 #[.agg #[.int .i64 no, .int .i64 cur, .int .i64 price, .int .i64 cut]] w fun e w' => e = .returned (.int .i64 no) ∧ Below w.heap.size w w' := by
 go_enter Try.func51, Try.ntmps51
 go_wp2_with fail
 go_ret
 exact ⟨rfl, (Below.refl _ _).alloc (Nat.le_refl _) _⟩
set_option maxRecDepth 100000 in
set_option maxHeartbeats 800000 in
theorem rightM_any (w : World) (no state need : Int) : Calls Try.prog 46 #[.agg #[.int .i64 no, .int .i64 state, .int .i64 need]] w fun e w' => e = .returned (.bool (rightM (⟨no, state, need⟩ : MbT))) ∧ Below w.heap.size w w' := by
 obtain ⟨d, hd⟩ : ∃ d : Bool, d = rightM (⟨no, state, need⟩ : MbT) := ⟨_, rfl⟩
 rw [← hd]
 have HD := Lib.hid hd
 clear hd
 have HL : Hid (Is ((w.alloc (.cells #[.int .i64 no, .int .i64 state, .int .i64 need] 33)).alloc (.cells #[.int .i64 need] 3)) (.slice (some ⟨w.heap.size + 1, 0, none⟩) 1 1) [need]) := by
  have := Is.lit1 (w.alloc (.cells #[.int .i64 no, .int .i64 state, .int .i64 need] 33)) need 3
  rwa [show (w.alloc (.cells #[.int .i64 no, .int .i64 state, .int .i64 need] 33)).heap.size = w.heap.size + 1 by simp] at this
 by_cases h0 : wB no 1 16 = true
 ·
  by_cases h1 : wB state 1 3 = true
  ·
   by_cases h2 : rightB need = true
   ·
    by_cases h3 : decide (0 ≤ need) = true
    ·
     have HE : Hid (d = true) := by
      show _ = _
      rw [HD.out]
      unfold rightM
      rw [h0, h1]
      show (true && true && wB need 0 4611686018427387904) = true
      have g2 := h2
      have g3 := h3
      unfold rightB at g2
      unfold wB
      simp at g2 g3 ⊢
      omega
     go_enter Try.func46, Try.ntmps46
     go_wp2_with fail
     refine (within_any _ _ _ _).mono ?_
     rintro e w1 ⟨rfl, rfl⟩
     go_wp2_with fail
     refine (within_any _ _ _ _).mono ?_
     rintro e w1 ⟨rfl, rfl⟩
     go_wp2_with fail
     refine (Right_any _ _ [need] HL.out).mono ?_
     rintro e w1 ⟨rfl, rfl⟩
     rw [show allRight [need] = rightB need by simp [allRight]]
     go_wp2_with fail
     go_ret
     exact ⟨by rw [HE.out]; rfl, (((Below.refl _ _).alloc (Nat.le_refl _) _).alloc (by simp) _)⟩
    ·
     have h3 : decide (0 ≤ need) = false := by simpa using h3
     have HE : Hid (d = false) := by
      show _ = _
      rw [HD.out]
      unfold rightM
      rw [h0, h1]
      show (true && true && wB need 0 4611686018427387904) = false
      have g2 := h2
      have g3 := h3
      unfold rightB at g2
      unfold wB
      simp at g2 g3 ⊢
      omega
     go_enter Try.func46, Try.ntmps46
     go_wp2_with fail
     refine (within_any _ _ _ _).mono ?_
     rintro e w1 ⟨rfl, rfl⟩
     go_wp2_with fail
     refine (within_any _ _ _ _).mono ?_
     rintro e w1 ⟨rfl, rfl⟩
     go_wp2_with fail
     refine (Right_any _ _ [need] HL.out).mono ?_
     rintro e w1 ⟨rfl, rfl⟩
     rw [show allRight [need] = rightB need by simp [allRight]]
     go_wp2_with fail
     go_ret
     exact ⟨by rw [HE.out]; rfl, (((Below.refl _ _).alloc (Nat.le_refl _) _).alloc (by simp) _)⟩
   ·
    have h2 : rightB need = false := by simpa using h2
    have HE : Hid (d = false) := by
     show _ = _
     rw [HD.out]
     unfold rightM
     rw [h0, h1]
     show (true && true && wB need 0 4611686018427387904) = false
     have g2 := h2
     unfold rightB at g2
     unfold wB
     simp at g2 ⊢
     omega
    go_enter Try.func46, Try.ntmps46
    go_wp2_with fail
    refine (within_any _ _ _ _).mono ?_
    rintro e w1 ⟨rfl, rfl⟩
    go_wp2_with fail
    refine (within_any _ _ _ _).mono ?_
    rintro e w1 ⟨rfl, rfl⟩
    go_wp2_with fail
    refine (Right_any _ _ [need] HL.out).mono ?_
    rintro e w1 ⟨rfl, rfl⟩
    rw [show allRight [need] = rightB need by simp [allRight]]
    go_wp2_with fail
    go_ret
    exact ⟨by rw [HE.out]; rfl, (((Below.refl _ _).alloc (Nat.le_refl _) _).alloc (by simp) _)⟩
  ·
   have h1 : wB state 1 3 = false := by simpa using h1
   have HE : Hid (d = false) := by
    show _ = _
    rw [HD.out]
    unfold rightM
    simp only [Bool.and_false, Bool.false_and, h0, h1]
   go_enter Try.func46, Try.ntmps46
   go_wp2_with fail
   refine (within_any _ _ _ _).mono ?_
   rintro e w1 ⟨rfl, rfl⟩
   go_wp2_with fail
   refine (within_any _ _ _ _).mono ?_
   rintro e w1 ⟨rfl, rfl⟩
   go_wp2_with fail
   go_ret
   exact ⟨by rw [HE.out]; rfl, (Below.refl _ _).alloc (Nat.le_refl _) _⟩
 ·
  have h0 : wB no 1 16 = false := by simpa using h0
  have HE : Hid (d = false) := by
   show _ = _
   rw [HD.out]
   unfold rightM
   simp only [Bool.false_and, h0]
  go_enter Try.func46, Try.ntmps46
  go_wp2_with fail
  refine (within_any _ _ _ _).mono ?_
  rintro e w1 ⟨rfl, rfl⟩
  go_wp2_with fail
  go_ret
  exact ⟨by rw [HE.out]; rfl, (Below.refl _ _).alloc (Nat.le_refl _) _⟩
set_option maxRecDepth 100000 in
set_option maxHeartbeats 800000 in
theorem rightA_any (w : World) (no cur price cut : Int) : Calls Try.prog 52 #[.agg #[.int .i64 no, .int .i64 cur, .int .i64 price, .int .i64 cut]] w fun e w' => e = .returned (.bool (rightA (⟨no, cur, price, cut⟩ : AsT))) ∧ Below w.heap.size w w' := by
 obtain ⟨d, hd⟩ : ∃ d : Bool, d = rightA (⟨no, cur, price, cut⟩ : AsT) := ⟨_, rfl⟩
 rw [← hd]
 have HD := Lib.hid hd
 clear hd
 by_cases h0 : wB no 1 6 = true
 ·
  by_cases h1 : wB cur 0 2 = true
  ·
   by_cases h2 : wB price 1 1073741824 = true
   ·
    by_cases h3 : wB cut 0 10000 = true
    ·
     have HE : Hid (d = true) := by show _ = _; rw [HD.out]; unfold rightA; simp only [Bool.and_true, h0, h1, h2, h3]
     go_enter Try.func52, Try.ntmps52
     go_wp2_with fail
     refine (within_any _ _ _ _).mono ?_
     rintro e w1 ⟨rfl, rfl⟩
     go_wp2_with fail
     refine (within_any _ _ _ _).mono ?_
     rintro e w1 ⟨rfl, rfl⟩
     go_wp2_with fail
     refine (within_any _ _ _ _).mono ?_
     rintro e w1 ⟨rfl, rfl⟩
     go_wp2_with fail
     refine (within_any _ _ _ _).mono ?_
     rintro e w1 ⟨rfl, rfl⟩
     go_wp2_with fail
     go_ret
     exact ⟨by rw [HE.out]; rfl, (Below.refl _ _).alloc (Nat.le_refl _) _⟩
    ·
     have h3 : wB cut 0 10000 = false := by simpa using h3
     have HE : Hid (d = false) := by show _ = _; rw [HD.out]; unfold rightA; simp only [Bool.and_true, Bool.and_false, h0, h1, h2, h3]
     go_enter Try.func52, Try.ntmps52
     go_wp2_with fail
     refine (within_any _ _ _ _).mono ?_
     rintro e w1 ⟨rfl, rfl⟩
     go_wp2_with fail
     refine (within_any _ _ _ _).mono ?_
     rintro e w1 ⟨rfl, rfl⟩
     go_wp2_with fail
     refine (within_any _ _ _ _).mono ?_
     rintro e w1 ⟨rfl, rfl⟩
     go_wp2_with fail
     refine (within_any _ _ _ _).mono ?_
     rintro e w1 ⟨rfl, rfl⟩
     go_wp2_with fail
     go_ret
     exact ⟨by rw [HE.out]; rfl, (Below.refl _ _).alloc (Nat.le_refl _) _⟩
   ·
    have h2 : wB price 1 1073741824 = false := by simpa using h2
    have HE : Hid (d = false) := by show _ = _; rw [HD.out]; unfold rightA; simp only [Bool.and_true, Bool.and_false, Bool.false_and, h0, h1, h2]
    go_enter Try.func52, Try.ntmps52
    go_wp2_with fail
    refine (within_any _ _ _ _).mono ?_
    rintro e w1 ⟨rfl, rfl⟩
    go_wp2_with fail
    refine (within_any _ _ _ _).mono ?_
    rintro e w1 ⟨rfl, rfl⟩
    go_wp2_with fail
    refine (within_any _ _ _ _).mono ?_
    rintro e w1 ⟨rfl, rfl⟩
    go_wp2_with fail
    go_ret
    exact ⟨by rw [HE.out]; rfl, (Below.refl _ _).alloc (Nat.le_refl _) _⟩
  ·
   have h1 : wB cur 0 2 = false := by simpa using h1
   have HE : Hid (d = false) := by show _ = _; rw [HD.out]; unfold rightA; simp only [Bool.and_false, Bool.false_and, h0, h1]
   go_enter Try.func52, Try.ntmps52
   go_wp2_with fail
   refine (within_any _ _ _ _).mono ?_
   rintro e w1 ⟨rfl, rfl⟩
   go_wp2_with fail
   refine (within_any _ _ _ _).mono ?_
   rintro e w1 ⟨rfl, rfl⟩
   go_wp2_with fail
   go_ret
   exact ⟨by rw [HE.out]; rfl, (Below.refl _ _).alloc (Nat.le_refl _) _⟩
 ·
  have h0 : wB no 1 6 = false := by simpa using h0
  have HE : Hid (d = false) := by show _ = _; rw [HD.out]; unfold rightA; simp only [Bool.false_and, h0]
  go_enter Try.func52, Try.ntmps52
  go_wp2_with fail
  refine (within_any _ _ _ _).mono ?_
  rintro e w1 ⟨rfl, rfl⟩
  go_wp2_with fail
  go_ret
  exact ⟨by rw [HE.out]; rfl, (Below.refl _ _).alloc (Nat.le_refl _) _⟩
set_option maxRecDepth 100000 in
set_option maxHeartbeats 800000 in
theorem rmember_any (w : World) (no state need : Int) : Calls Try.prog 53 #[.agg #[.int .i64 no, .int .i64 state, .int .i64 need]] w fun e w' => e = .returned (.bool (rightM (⟨no, state, need⟩ : MbT))) ∧ Below w.heap.size w w' := by
 obtain ⟨d, hd⟩ : ∃ d : Bool, d = rightM (⟨no, state, need⟩ : MbT) := ⟨_, rfl⟩
 rw [← hd]
 have HD := Lib.hid hd
 clear hd
 by_cases h0 : wB no 1 16 = true
 ·
  by_cases h1 : wB state 1 3 = true
  ·
   by_cases h2 : wB need 0 4611686018427387904 = true
   ·
    have HE : Hid (d = true) := by show _ = _; rw [HD.out]; unfold rightM; simp only [Bool.and_true, h0, h1, h2]
    go_enter Try.func53, Try.ntmps53
    go_wp2_with fail
    refine (rWho_any _ _).mono ?_
    rintro e w1 ⟨rfl, rfl⟩
    go_wp2_with fail
    refine (rwithin_any _ _ _ _).mono ?_
    rintro e w1 ⟨rfl, rfl⟩
    go_wp2_with fail
    refine (rwithin_any _ _ _ _).mono ?_
    rintro e w1 ⟨rfl, rfl⟩
    go_wp2_with fail
    go_ret
    exact ⟨by rw [HE.out]; rfl, (Below.refl _ _).alloc (Nat.le_refl _) _⟩
   ·
    have h2 : wB need 0 4611686018427387904 = false := by simpa using h2
    have HE : Hid (d = false) := by show _ = _; rw [HD.out]; unfold rightM; simp only [Bool.and_true, Bool.and_false, h0, h1, h2]
    go_enter Try.func53, Try.ntmps53
    go_wp2_with fail
    refine (rWho_any _ _).mono ?_
    rintro e w1 ⟨rfl, rfl⟩
    go_wp2_with fail
    refine (rwithin_any _ _ _ _).mono ?_
    rintro e w1 ⟨rfl, rfl⟩
    go_wp2_with fail
    refine (rwithin_any _ _ _ _).mono ?_
    rintro e w1 ⟨rfl, rfl⟩
    go_wp2_with fail
    go_ret
    exact ⟨by rw [HE.out]; rfl, (Below.refl _ _).alloc (Nat.le_refl _) _⟩
  ·
   have h1 : wB state 1 3 = false := by simpa using h1
   have HE : Hid (d = false) := by show _ = _; rw [HD.out]; unfold rightM; simp only [Bool.and_false, Bool.false_and, h0, h1]
   go_enter Try.func53, Try.ntmps53
   go_wp2_with fail
   refine (rWho_any _ _).mono ?_
   rintro e w1 ⟨rfl, rfl⟩
   go_wp2_with fail
   refine (rwithin_any _ _ _ _).mono ?_
   rintro e w1 ⟨rfl, rfl⟩
   go_wp2_with fail
   go_ret
   exact ⟨by rw [HE.out]; rfl, (Below.refl _ _).alloc (Nat.le_refl _) _⟩
 ·
  have h0 : wB no 1 16 = false := by simpa using h0
  have HE : Hid (d = false) := by show _ = _; rw [HD.out]; unfold rightM; simp only [Bool.false_and, h0]
  go_enter Try.func53, Try.ntmps53
  go_wp2_with fail
  refine (rWho_any _ _).mono ?_
  rintro e w1 ⟨rfl, rfl⟩
  go_wp2_with fail
  go_ret
  exact ⟨by rw [HE.out]; rfl, (Below.refl _ _).alloc (Nat.le_refl _) _⟩
set_option maxRecDepth 100000 in
set_option maxHeartbeats 800000 in
theorem rAsset_any (w : World) (no cur price cut : Int) : Calls Try.prog 55 #[.agg #[.int .i64 no, .int .i64 cur, .int .i64 price, .int .i64 cut]] w fun e w' => e = .returned (.bool (rightA (⟨no, cur, price, cut⟩ : AsT))) ∧ Below w.heap.size w w' := by
 obtain ⟨d, hd⟩ : ∃ d : Bool, d = rightA (⟨no, cur, price, cut⟩ : AsT) := ⟨_, rfl⟩
 rw [← hd]
 have HD := Lib.hid hd
 clear hd
 by_cases h0 : wB no 1 6 = true
 ·
  by_cases h1 : wB cur 0 2 = true
  ·
   by_cases h2 : wB price 1 1073741824 = true
   ·
    by_cases h3 : wB cut 0 10000 = true
    ·
     have HE : Hid (d = true) := by show _ = _; rw [HD.out]; unfold rightA; simp only [Bool.and_true, h0, h1, h2, h3]
     go_enter Try.func55, Try.ntmps55
     go_wp2_with fail
     refine (rwithin_any _ _ _ _).mono ?_
     rintro e w1 ⟨rfl, rfl⟩
     go_wp2_with fail
     refine (rCur_any _ _).mono ?_
     rintro e w1 ⟨rfl, rfl⟩
     go_wp2_with fail
     refine (rwithin_any _ _ _ _).mono ?_
     rintro e w1 ⟨rfl, rfl⟩
     go_wp2_with fail
     refine (rwithin_any _ _ _ _).mono ?_
     rintro e w1 ⟨rfl, rfl⟩
     go_wp2_with fail
     go_ret
     exact ⟨by rw [HE.out]; rfl, (Below.refl _ _).alloc (Nat.le_refl _) _⟩
    ·
     have h3 : wB cut 0 10000 = false := by simpa using h3
     have HE : Hid (d = false) := by show _ = _; rw [HD.out]; unfold rightA; simp only [Bool.and_true, Bool.and_false, h0, h1, h2, h3]
     go_enter Try.func55, Try.ntmps55
     go_wp2_with fail
     refine (rwithin_any _ _ _ _).mono ?_
     rintro e w1 ⟨rfl, rfl⟩
     go_wp2_with fail
     refine (rCur_any _ _).mono ?_
     rintro e w1 ⟨rfl, rfl⟩
     go_wp2_with fail
     refine (rwithin_any _ _ _ _).mono ?_
     rintro e w1 ⟨rfl, rfl⟩
     go_wp2_with fail
     refine (rwithin_any _ _ _ _).mono ?_
     rintro e w1 ⟨rfl, rfl⟩
     go_wp2_with fail
     go_ret
     exact ⟨by rw [HE.out]; rfl, (Below.refl _ _).alloc (Nat.le_refl _) _⟩
   ·
    have h2 : wB price 1 1073741824 = false := by simpa using h2
    have HE : Hid (d = false) := by show _ = _; rw [HD.out]; unfold rightA; simp only [Bool.and_true, Bool.and_false, Bool.false_and, h0, h1, h2]
    go_enter Try.func55, Try.ntmps55
    go_wp2_with fail
    refine (rwithin_any _ _ _ _).mono ?_
    rintro e w1 ⟨rfl, rfl⟩
    go_wp2_with fail
    refine (rCur_any _ _).mono ?_
    rintro e w1 ⟨rfl, rfl⟩
    go_wp2_with fail
    refine (rwithin_any _ _ _ _).mono ?_
    rintro e w1 ⟨rfl, rfl⟩
    go_wp2_with fail
    go_ret
    exact ⟨by rw [HE.out]; rfl, (Below.refl _ _).alloc (Nat.le_refl _) _⟩
  ·
   have h1 : wB cur 0 2 = false := by simpa using h1
   have HE : Hid (d = false) := by show _ = _; rw [HD.out]; unfold rightA; simp only [Bool.and_false, Bool.false_and, h0, h1]
   go_enter Try.func55, Try.ntmps55
   go_wp2_with fail
   refine (rwithin_any _ _ _ _).mono ?_
   rintro e w1 ⟨rfl, rfl⟩
   go_wp2_with fail
   refine (rCur_any _ _).mono ?_
   rintro e w1 ⟨rfl, rfl⟩
   go_wp2_with fail
   go_ret
   exact ⟨by rw [HE.out]; rfl, (Below.refl _ _).alloc (Nat.le_refl _) _⟩
 ·
  have h0 : wB no 1 6 = false := by simpa using h0
  have HE : Hid (d = false) := by show _ = _; rw [HD.out]; unfold rightA; simp only [Bool.false_and, h0]
  go_enter Try.func55, Try.ntmps55
  go_wp2_with fail
  refine (rwithin_any _ _ _ _).mono ?_
  rintro e w1 ⟨rfl, rfl⟩
  go_wp2_with fail
  go_ret
  exact ⟨by rw [HE.out]; rfl, (Below.refl _ _).alloc (Nat.le_refl _) _⟩
theorem cell_new {w : World} {cs : Array Value} {t : TypeId} {b : Nat} (hb : b = w.heap.size) (j : Nat) (v : Value) (h : cs[j]? = some v) : (w.alloc (.cells cs t)).cell? ⟨b, j, none⟩ = some v := by
 subst hb
 rw [World.cell?_alloc_at (w := w) cs _ w.heap.size j rfl]
 exact h
set_option maxRecDepth 100000 in
set_option maxHeartbeats 1600000 in
theorem rightI_any (w : World) (no cur mult add set price h0 h1 h2 h3 h4 h5 : Int) : Calls Try.prog 49 #[.agg #[.int .i64 no, .int .i64 cur, .int .i64 mult, .int .i64 add, .int .i64 set, .int .i64 price, .int .i64 h0, .int .i64 h1, .int .i64 h2, .int .i64 h3, .int .i64 h4, .int .i64 h5]] w fun e w' => e = .returned (.bool (rightI (⟨no, cur, mult, add, set, price, h0, h1, h2, h3, h4, h5⟩ : InT))) ∧ Below w.heap.size w w' := by
 obtain ⟨d, hd⟩ : ∃ d : Bool, d = rightI (⟨no, cur, mult, add, set, price, h0, h1, h2, h3, h4, h5⟩ : InT) := ⟨_, rfl⟩
 rw [← hd]
 have HD := Lib.hid hd
 clear hd
 have hb0 : Below w.heap.size w (w.alloc (.cells #[.int .i64 no, .int .i64 cur, .int .i64 mult, .int .i64 add, .int .i64 set, .int .i64 price, .int .i64 h0, .int .i64 h1, .int .i64 h2, .int .i64 h3, .int .i64 h4, .int .i64 h5] 38)) := (Below.refl _ _).alloc (Nat.le_refl _) _
 have hc0 : (w.alloc (.cells #[.int .i64 no, .int .i64 cur, .int .i64 mult, .int .i64 add, .int .i64 set, .int .i64 price, .int .i64 h0, .int .i64 h1, .int .i64 h2, .int .i64 h3, .int .i64 h4, .int .i64 h5] 38)).cell? ⟨w.heap.size, 0, none⟩ = some (.int .i64 no) := cell_new rfl _ _ rfl
 have hc1 : (w.alloc (.cells #[.int .i64 no, .int .i64 cur, .int .i64 mult, .int .i64 add, .int .i64 set, .int .i64 price, .int .i64 h0, .int .i64 h1, .int .i64 h2, .int .i64 h3, .int .i64 h4, .int .i64 h5] 38)).cell? ⟨w.heap.size, 1, none⟩ = some (.int .i64 cur) := cell_new rfl _ _ rfl
 have hc2 : (w.alloc (.cells #[.int .i64 no, .int .i64 cur, .int .i64 mult, .int .i64 add, .int .i64 set, .int .i64 price, .int .i64 h0, .int .i64 h1, .int .i64 h2, .int .i64 h3, .int .i64 h4, .int .i64 h5] 38)).cell? ⟨w.heap.size, 2, none⟩ = some (.int .i64 mult) := cell_new rfl _ _ rfl
 have hc3 : (w.alloc (.cells #[.int .i64 no, .int .i64 cur, .int .i64 mult, .int .i64 add, .int .i64 set, .int .i64 price, .int .i64 h0, .int .i64 h1, .int .i64 h2, .int .i64 h3, .int .i64 h4, .int .i64 h5] 38)).cell? ⟨w.heap.size, 3, none⟩ = some (.int .i64 add) := cell_new rfl _ _ rfl
 have hc4 : (w.alloc (.cells #[.int .i64 no, .int .i64 cur, .int .i64 mult, .int .i64 add, .int .i64 set, .int .i64 price, .int .i64 h0, .int .i64 h1, .int .i64 h2, .int .i64 h3, .int .i64 h4, .int .i64 h5] 38)).cell? ⟨w.heap.size, 4, none⟩ = some (.int .i64 set) := cell_new rfl _ _ rfl
 have hc5 : (w.alloc (.cells #[.int .i64 no, .int .i64 cur, .int .i64 mult, .int .i64 add, .int .i64 set, .int .i64 price, .int .i64 h0, .int .i64 h1, .int .i64 h2, .int .i64 h3, .int .i64 h4, .int .i64 h5] 38)).cell? ⟨w.heap.size, 5, none⟩ = some (.int .i64 price) := cell_new rfl _ _ rfl
 have hc6 : (w.alloc (.cells #[.int .i64 no, .int .i64 cur, .int .i64 mult, .int .i64 add, .int .i64 set, .int .i64 price, .int .i64 h0, .int .i64 h1, .int .i64 h2, .int .i64 h3, .int .i64 h4, .int .i64 h5] 38)).cell? ⟨w.heap.size, 6, none⟩ = some (.int .i64 h0) := cell_new rfl _ _ rfl
 have hc7 : (w.alloc (.cells #[.int .i64 no, .int .i64 cur, .int .i64 mult, .int .i64 add, .int .i64 set, .int .i64 price, .int .i64 h0, .int .i64 h1, .int .i64 h2, .int .i64 h3, .int .i64 h4, .int .i64 h5] 38)).cell? ⟨w.heap.size, 7, none⟩ = some (.int .i64 h1) := cell_new rfl _ _ rfl
 have hc8 : (w.alloc (.cells #[.int .i64 no, .int .i64 cur, .int .i64 mult, .int .i64 add, .int .i64 set, .int .i64 price, .int .i64 h0, .int .i64 h1, .int .i64 h2, .int .i64 h3, .int .i64 h4, .int .i64 h5] 38)).cell? ⟨w.heap.size, 8, none⟩ = some (.int .i64 h2) := cell_new rfl _ _ rfl
 have hc9 : (w.alloc (.cells #[.int .i64 no, .int .i64 cur, .int .i64 mult, .int .i64 add, .int .i64 set, .int .i64 price, .int .i64 h0, .int .i64 h1, .int .i64 h2, .int .i64 h3, .int .i64 h4, .int .i64 h5] 38)).cell? ⟨w.heap.size, 9, none⟩ = some (.int .i64 h3) := cell_new rfl _ _ rfl
 have hc10 : (w.alloc (.cells #[.int .i64 no, .int .i64 cur, .int .i64 mult, .int .i64 add, .int .i64 set, .int .i64 price, .int .i64 h0, .int .i64 h1, .int .i64 h2, .int .i64 h3, .int .i64 h4, .int .i64 h5] 38)).cell? ⟨w.heap.size, 10, none⟩ = some (.int .i64 h4) := cell_new rfl _ _ rfl
 have hc11 : (w.alloc (.cells #[.int .i64 no, .int .i64 cur, .int .i64 mult, .int .i64 add, .int .i64 set, .int .i64 price, .int .i64 h0, .int .i64 h1, .int .i64 h2, .int .i64 h3, .int .i64 h4, .int .i64 h5] 38)).cell? ⟨w.heap.size, 11, none⟩ = some (.int .i64 h5) := cell_new rfl _ _ rfl
 have HB0 := Lib.hid hb0
 clear hb0
 have hi0 : ∀ w, (Instr.index 36 (.agg #[.int .i64 h0, .int .i64 h1, .int .i64 h2, .int .i64 h3, .int .i64 h4, .int .i64 h5]) (.int .i64 0)).run Try.prog w = .ok (.int .i64 h0) w := fun w => by simp [Instr.index, run_underlying Try.underlying36, asIntOf, go_sem]
 have hi1 : ∀ w, (Instr.index 36 (.agg #[.int .i64 h0, .int .i64 h1, .int .i64 h2, .int .i64 h3, .int .i64 h4, .int .i64 h5]) (.int .i64 1)).run Try.prog w = .ok (.int .i64 h1) w := fun w => by simp [Instr.index, run_underlying Try.underlying36, asIntOf, go_sem]
 have hi2 : ∀ w, (Instr.index 36 (.agg #[.int .i64 h0, .int .i64 h1, .int .i64 h2, .int .i64 h3, .int .i64 h4, .int .i64 h5]) (.int .i64 2)).run Try.prog w = .ok (.int .i64 h2) w := fun w => by simp [Instr.index, run_underlying Try.underlying36, asIntOf, go_sem]
 have hi3 : ∀ w, (Instr.index 36 (.agg #[.int .i64 h0, .int .i64 h1, .int .i64 h2, .int .i64 h3, .int .i64 h4, .int .i64 h5]) (.int .i64 3)).run Try.prog w = .ok (.int .i64 h3) w := fun w => by simp [Instr.index, run_underlying Try.underlying36, asIntOf, go_sem]
 have hi4 : ∀ w, (Instr.index 36 (.agg #[.int .i64 h0, .int .i64 h1, .int .i64 h2, .int .i64 h3, .int .i64 h4, .int .i64 h5]) (.int .i64 4)).run Try.prog w = .ok (.int .i64 h4) w := fun w => by simp [Instr.index, run_underlying Try.underlying36, asIntOf, go_sem]
 have hi5 : ∀ w, (Instr.index 36 (.agg #[.int .i64 h0, .int .i64 h1, .int .i64 h2, .int .i64 h3, .int .i64 h4, .int .i64 h5]) (.int .i64 5)).run Try.prog w = .ok (.int .i64 h5) w := fun w => by simp [Instr.index, run_underlying Try.underlying36, asIntOf, go_sem]
 go_enter Try.func49, Try.ntmps49
 go_wp2_with fail
 generalize hW : w.alloc (.cells #[.int .i64 no, .int .i64 cur, .int .i64 mult, .int .i64 add, .int .i64 set, .int .i64 price, .int .i64 h0, .int .i64 h1, .int .i64 h2, .int .i64 h3, .int .i64 h4, .int .i64 h5] 38) = W at *
 clear hW
 go_loop [7] (fun v => ∃ k : Nat, k ≤ 6 ∧ v = .int .i64 k ∧ Hid (([h0, h1, h2, h3, h4, h5].take k).all shB = true)) (fun v => 6 - (intOf v).toNat)
 case atStart => exact ⟨0, by omega, rfl, rfl⟩
 case round =>
  obtain ⟨k, hk, rfl, HP⟩ := hrel
  by_cases hlt : k < 6
  ·
   rcases (by omega : k = 0 ∨ k = 1 ∨ k = 2 ∨ k = 3 ∨ k = 4 ∨ k = 5) with rfl | rfl | rfl | rfl | rfl | rfl
   ·
    by_cases hs : shB h0 = true
    ·
     have hs2 : wB h0 (-1073741824) 1073741824 = true := hs
     have HP2 : Hid (([h0, h1, h2, h3, h4, h5].take (0 + 1)).all shB = true) := by
      have := HP.out
      show _ = true
      simp at this ⊢
      exact hs
     clear HP hs
     go_wp2_with fail
     refine (within_any _ _ _ _).mono ?_
     rintro e w1 ⟨rfl, rfl⟩
     go_wp2_with fail
     go_round
     case rel => exact ⟨0 + 1, by omega, by go_num, HP2⟩
     case measure => simp [intOf]
    ·
     have hs0 : shB h0 = false := by simpa using hs
     have hs2 : wB h0 (-1073741824) 1073741824 = false := hs0
     have HE : Hid (d = false) := by show _ = _; rw [HD.out]; unfold rightI; simp [hs0]
     clear HP hs hs0
     go_wp2_with fail
     refine (within_any _ _ _ _).mono ?_
     rintro e w1 ⟨rfl, rfl⟩
     go_wp2_with fail
     go_ret
     exact ⟨by rw [HE.out]; rfl, HB0.out⟩
   ·
    by_cases hs : shB h1 = true
    ·
     have hs2 : wB h1 (-1073741824) 1073741824 = true := hs
     have HP2 : Hid (([h0, h1, h2, h3, h4, h5].take (1 + 1)).all shB = true) := by
      have := HP.out
      show _ = true
      simp at this ⊢
      simp [this, hs]
     clear HP hs
     go_wp2_with fail
     refine (within_any _ _ _ _).mono ?_
     rintro e w1 ⟨rfl, rfl⟩
     go_wp2_with fail
     go_round
     case rel => exact ⟨1 + 1, by omega, by go_num, HP2⟩
     case measure => simp [intOf]
    ·
     have hs0 : shB h1 = false := by simpa using hs
     have hs2 : wB h1 (-1073741824) 1073741824 = false := hs0
     have HE : Hid (d = false) := by show _ = _; rw [HD.out]; unfold rightI; simp [hs0]
     clear HP hs hs0
     go_wp2_with fail
     refine (within_any _ _ _ _).mono ?_
     rintro e w1 ⟨rfl, rfl⟩
     go_wp2_with fail
     go_ret
     exact ⟨by rw [HE.out]; rfl, HB0.out⟩
   ·
    by_cases hs : shB h2 = true
    ·
     have hs2 : wB h2 (-1073741824) 1073741824 = true := hs
     have HP2 : Hid (([h0, h1, h2, h3, h4, h5].take (2 + 1)).all shB = true) := by
      have := HP.out
      show _ = true
      simp at this ⊢
      simp [this, hs]
     clear HP hs
     go_wp2_with fail
     refine (within_any _ _ _ _).mono ?_
     rintro e w1 ⟨rfl, rfl⟩
     go_wp2_with fail
     go_round
     case rel => exact ⟨2 + 1, by omega, by go_num, HP2⟩
     case measure => simp [intOf]
    ·
     have hs0 : shB h2 = false := by simpa using hs
     have hs2 : wB h2 (-1073741824) 1073741824 = false := hs0
     have HE : Hid (d = false) := by show _ = _; rw [HD.out]; unfold rightI; simp [hs0]
     clear HP hs hs0
     go_wp2_with fail
     refine (within_any _ _ _ _).mono ?_
     rintro e w1 ⟨rfl, rfl⟩
     go_wp2_with fail
     go_ret
     exact ⟨by rw [HE.out]; rfl, HB0.out⟩
   ·
    by_cases hs : shB h3 = true
    ·
     have hs2 : wB h3 (-1073741824) 1073741824 = true := hs
     have HP2 : Hid (([h0, h1, h2, h3, h4, h5].take (3 + 1)).all shB = true) := by
      have := HP.out
      show _ = true
      simp at this ⊢
      simp [this, hs]
     clear HP hs
     go_wp2_with fail
     refine (within_any _ _ _ _).mono ?_
     rintro e w1 ⟨rfl, rfl⟩
     go_wp2_with fail
     go_round
     case rel => exact ⟨3 + 1, by omega, by go_num, HP2⟩
     case measure => simp [intOf]
    ·
     have hs0 : shB h3 = false := by simpa using hs
     have hs2 : wB h3 (-1073741824) 1073741824 = false := hs0
     have HE : Hid (d = false) := by show _ = _; rw [HD.out]; unfold rightI; simp [hs0]
     clear HP hs hs0
     go_wp2_with fail
     refine (within_any _ _ _ _).mono ?_
     rintro e w1 ⟨rfl, rfl⟩
     go_wp2_with fail
     go_ret
     exact ⟨by rw [HE.out]; rfl, HB0.out⟩
   ·
    by_cases hs : shB h4 = true
    ·
     have hs2 : wB h4 (-1073741824) 1073741824 = true := hs
     have HP2 : Hid (([h0, h1, h2, h3, h4, h5].take (4 + 1)).all shB = true) := by
      have := HP.out
      show _ = true
      simp at this ⊢
      simp [this, hs]
     clear HP hs
     go_wp2_with fail
     refine (within_any _ _ _ _).mono ?_
     rintro e w1 ⟨rfl, rfl⟩
     go_wp2_with fail
     go_round
     case rel => exact ⟨4 + 1, by omega, by go_num, HP2⟩
     case measure => simp [intOf]
    ·
     have hs0 : shB h4 = false := by simpa using hs
     have hs2 : wB h4 (-1073741824) 1073741824 = false := hs0
     have HE : Hid (d = false) := by show _ = _; rw [HD.out]; unfold rightI; simp [hs0]
     clear HP hs hs0
     go_wp2_with fail
     refine (within_any _ _ _ _).mono ?_
     rintro e w1 ⟨rfl, rfl⟩
     go_wp2_with fail
     go_ret
     exact ⟨by rw [HE.out]; rfl, HB0.out⟩
   ·
    by_cases hs : shB h5 = true
    ·
     have hs2 : wB h5 (-1073741824) 1073741824 = true := hs
     have HP2 : Hid (([h0, h1, h2, h3, h4, h5].take (5 + 1)).all shB = true) := by
      have := HP.out
      show _ = true
      simp at this ⊢
      simp [this, hs]
     clear HP hs
     go_wp2_with fail
     refine (within_any _ _ _ _).mono ?_
     rintro e w1 ⟨rfl, rfl⟩
     go_wp2_with fail
     go_round
     case rel => exact ⟨5 + 1, by omega, by go_num, HP2⟩
     case measure => simp [intOf]
    ·
     have hs0 : shB h5 = false := by simpa using hs
     have hs2 : wB h5 (-1073741824) 1073741824 = false := hs0
     have HE : Hid (d = false) := by show _ = _; rw [HD.out]; unfold rightI; simp [hs0]
     clear HP hs hs0
     go_wp2_with fail
     refine (within_any _ _ _ _).mono ?_
     rintro e w1 ⟨rfl, rfl⟩
     go_wp2_with fail
     go_ret
     exact ⟨by rw [HE.out]; rfl, HB0.out⟩
  ·
   obtain rfl : k = 6 := by omega
   by_cases g0 : wB no 1 8 = true
   ·
    by_cases g1 : wB cur 0 2 = true
    ·
     by_cases g2 : wB mult 1 1024 = true
     ·
      by_cases g3 : wB add 0 1073741824 = true
      ·
       by_cases g4 : wB set 0 1073741824 = true
       ·
        by_cases g5 : wB price 0 1073741824 = true
        ·
         have HE : Hid (d = true) := by
          have hp := HP.out
          simp at hp
          show _ = _
          rw [HD.out]
          unfold rightI
          simp [hp, g0, g1, g2, g3, g4, g5]
         clear HP
         go_wp2_with fail
         refine (within_any _ _ _ _).mono ?_
         rintro e w1 ⟨rfl, rfl⟩
         go_wp2_with fail
         refine (within_any _ _ _ _).mono ?_
         rintro e w1 ⟨rfl, rfl⟩
         go_wp2_with fail
         refine (within_any _ _ _ _).mono ?_
         rintro e w1 ⟨rfl, rfl⟩
         go_wp2_with fail
         refine (within_any _ _ _ _).mono ?_
         rintro e w1 ⟨rfl, rfl⟩
         go_wp2_with fail
         refine (within_any _ _ _ _).mono ?_
         rintro e w1 ⟨rfl, rfl⟩
         go_wp2_with fail
         refine (within_any _ _ _ _).mono ?_
         rintro e w1 ⟨rfl, rfl⟩
         go_wp2_with fail
         go_ret
         exact ⟨by rw [HE.out]; rfl, HB0.out⟩
        ·
         have g5 : wB price 0 1073741824 = false := by simpa using g5
         have HE : Hid (d = false) := by
          have hp := HP.out
          simp at hp
          show _ = _
          rw [HD.out]
          unfold rightI
          simp [hp, g0, g1, g2, g3, g4, g5]
         clear HP
         go_wp2_with fail
         refine (within_any _ _ _ _).mono ?_
         rintro e w1 ⟨rfl, rfl⟩
         go_wp2_with fail
         refine (within_any _ _ _ _).mono ?_
         rintro e w1 ⟨rfl, rfl⟩
         go_wp2_with fail
         refine (within_any _ _ _ _).mono ?_
         rintro e w1 ⟨rfl, rfl⟩
         go_wp2_with fail
         refine (within_any _ _ _ _).mono ?_
         rintro e w1 ⟨rfl, rfl⟩
         go_wp2_with fail
         refine (within_any _ _ _ _).mono ?_
         rintro e w1 ⟨rfl, rfl⟩
         go_wp2_with fail
         refine (within_any _ _ _ _).mono ?_
         rintro e w1 ⟨rfl, rfl⟩
         go_wp2_with fail
         go_ret
         exact ⟨by rw [HE.out]; rfl, HB0.out⟩
       ·
        have g4 : wB set 0 1073741824 = false := by simpa using g4
        have HE : Hid (d = false) := by
         have hp := HP.out
         simp at hp
         show _ = _
         rw [HD.out]
         unfold rightI
         simp [hp, g0, g1, g2, g3, g4]
        clear HP
        go_wp2_with fail
        refine (within_any _ _ _ _).mono ?_
        rintro e w1 ⟨rfl, rfl⟩
        go_wp2_with fail
        refine (within_any _ _ _ _).mono ?_
        rintro e w1 ⟨rfl, rfl⟩
        go_wp2_with fail
        refine (within_any _ _ _ _).mono ?_
        rintro e w1 ⟨rfl, rfl⟩
        go_wp2_with fail
        refine (within_any _ _ _ _).mono ?_
        rintro e w1 ⟨rfl, rfl⟩
        go_wp2_with fail
        refine (within_any _ _ _ _).mono ?_
        rintro e w1 ⟨rfl, rfl⟩
        go_wp2_with fail
        go_ret
        exact ⟨by rw [HE.out]; rfl, HB0.out⟩
      ·
       have g3 : wB add 0 1073741824 = false := by simpa using g3
       have HE : Hid (d = false) := by
        have hp := HP.out
        simp at hp
        show _ = _
        rw [HD.out]
        unfold rightI
        simp [hp, g0, g1, g2, g3]
       clear HP
       go_wp2_with fail
       refine (within_any _ _ _ _).mono ?_
       rintro e w1 ⟨rfl, rfl⟩
       go_wp2_with fail
       refine (within_any _ _ _ _).mono ?_
       rintro e w1 ⟨rfl, rfl⟩
       go_wp2_with fail
       refine (within_any _ _ _ _).mono ?_
       rintro e w1 ⟨rfl, rfl⟩
       go_wp2_with fail
       refine (within_any _ _ _ _).mono ?_
       rintro e w1 ⟨rfl, rfl⟩
       go_wp2_with fail
       go_ret
       exact ⟨by rw [HE.out]; rfl, HB0.out⟩
     ·
      have g2 : wB mult 1 1024 = false := by simpa using g2
      have HE : Hid (d = false) := by
       have hp := HP.out
       simp at hp
       show _ = _
       rw [HD.out]
       unfold rightI
       simp [hp, g0, g1, g2]
      clear HP
      go_wp2_with fail
      refine (within_any _ _ _ _).mono ?_
      rintro e w1 ⟨rfl, rfl⟩
      go_wp2_with fail
      refine (within_any _ _ _ _).mono ?_
      rintro e w1 ⟨rfl, rfl⟩
      go_wp2_with fail
      refine (within_any _ _ _ _).mono ?_
      rintro e w1 ⟨rfl, rfl⟩
      go_wp2_with fail
      go_ret
      exact ⟨by rw [HE.out]; rfl, HB0.out⟩
    ·
     have g1 : wB cur 0 2 = false := by simpa using g1
     have HE : Hid (d = false) := by
      have hp := HP.out
      simp at hp
      show _ = _
      rw [HD.out]
      unfold rightI
      simp [hp, g0, g1]
     clear HP
     go_wp2_with fail
     refine (within_any _ _ _ _).mono ?_
     rintro e w1 ⟨rfl, rfl⟩
     go_wp2_with fail
     refine (within_any _ _ _ _).mono ?_
     rintro e w1 ⟨rfl, rfl⟩
     go_wp2_with fail
     go_ret
     exact ⟨by rw [HE.out]; rfl, HB0.out⟩
   ·
    have g0 : wB no 1 8 = false := by simpa using g0
    have HE : Hid (d = false) := by
     have hp := HP.out
     simp at hp
     show _ = _
     rw [HD.out]
     unfold rightI
     simp [hp, g0]
    clear HP
    go_wp2_with fail
    refine (within_any _ _ _ _).mono ?_
    rintro e w1 ⟨rfl, rfl⟩
    go_wp2_with fail
    go_ret
    exact ⟨by rw [HE.out]; rfl, HB0.out⟩
set_option maxRecDepth 100000 in
set_option maxHeartbeats 1600000 in
theorem rinst_any (w : World) (no cur mult add set price h0 h1 h2 h3 h4 h5 : Int) : Calls Try.prog 54 #[.agg #[.int .i64 no, .int .i64 cur, .int .i64 mult, .int .i64 add, .int .i64 set, .int .i64 price, .int .i64 h0, .int .i64 h1, .int .i64 h2, .int .i64 h3, .int .i64 h4, .int .i64 h5]] w fun e w' => e = .returned (.bool (rightI (⟨no, cur, mult, add, set, price, h0, h1, h2, h3, h4, h5⟩ : InT))) ∧ Below w.heap.size w w' := by
 obtain ⟨d, hd⟩ : ∃ d : Bool, d = rightI (⟨no, cur, mult, add, set, price, h0, h1, h2, h3, h4, h5⟩ : InT) := ⟨_, rfl⟩
 rw [← hd]
 have HD := Lib.hid hd
 clear hd
 have hb0 : Below w.heap.size w (w.alloc (.cells #[.int .i64 no, .int .i64 cur, .int .i64 mult, .int .i64 add, .int .i64 set, .int .i64 price, .int .i64 h0, .int .i64 h1, .int .i64 h2, .int .i64 h3, .int .i64 h4, .int .i64 h5] 38)) := (Below.refl _ _).alloc (Nat.le_refl _) _
 have hc0 : (w.alloc (.cells #[.int .i64 no, .int .i64 cur, .int .i64 mult, .int .i64 add, .int .i64 set, .int .i64 price, .int .i64 h0, .int .i64 h1, .int .i64 h2, .int .i64 h3, .int .i64 h4, .int .i64 h5] 38)).cell? ⟨w.heap.size, 0, none⟩ = some (.int .i64 no) := cell_new rfl _ _ rfl
 have hc1 : (w.alloc (.cells #[.int .i64 no, .int .i64 cur, .int .i64 mult, .int .i64 add, .int .i64 set, .int .i64 price, .int .i64 h0, .int .i64 h1, .int .i64 h2, .int .i64 h3, .int .i64 h4, .int .i64 h5] 38)).cell? ⟨w.heap.size, 1, none⟩ = some (.int .i64 cur) := cell_new rfl _ _ rfl
 have hc2 : (w.alloc (.cells #[.int .i64 no, .int .i64 cur, .int .i64 mult, .int .i64 add, .int .i64 set, .int .i64 price, .int .i64 h0, .int .i64 h1, .int .i64 h2, .int .i64 h3, .int .i64 h4, .int .i64 h5] 38)).cell? ⟨w.heap.size, 2, none⟩ = some (.int .i64 mult) := cell_new rfl _ _ rfl
 have hc3 : (w.alloc (.cells #[.int .i64 no, .int .i64 cur, .int .i64 mult, .int .i64 add, .int .i64 set, .int .i64 price, .int .i64 h0, .int .i64 h1, .int .i64 h2, .int .i64 h3, .int .i64 h4, .int .i64 h5] 38)).cell? ⟨w.heap.size, 3, none⟩ = some (.int .i64 add) := cell_new rfl _ _ rfl
 have hc4 : (w.alloc (.cells #[.int .i64 no, .int .i64 cur, .int .i64 mult, .int .i64 add, .int .i64 set, .int .i64 price, .int .i64 h0, .int .i64 h1, .int .i64 h2, .int .i64 h3, .int .i64 h4, .int .i64 h5] 38)).cell? ⟨w.heap.size, 4, none⟩ = some (.int .i64 set) := cell_new rfl _ _ rfl
 have hc5 : (w.alloc (.cells #[.int .i64 no, .int .i64 cur, .int .i64 mult, .int .i64 add, .int .i64 set, .int .i64 price, .int .i64 h0, .int .i64 h1, .int .i64 h2, .int .i64 h3, .int .i64 h4, .int .i64 h5] 38)).cell? ⟨w.heap.size, 5, none⟩ = some (.int .i64 price) := cell_new rfl _ _ rfl
 have hc6 : (w.alloc (.cells #[.int .i64 no, .int .i64 cur, .int .i64 mult, .int .i64 add, .int .i64 set, .int .i64 price, .int .i64 h0, .int .i64 h1, .int .i64 h2, .int .i64 h3, .int .i64 h4, .int .i64 h5] 38)).cell? ⟨w.heap.size, 6, none⟩ = some (.int .i64 h0) := cell_new rfl _ _ rfl
 have hc7 : (w.alloc (.cells #[.int .i64 no, .int .i64 cur, .int .i64 mult, .int .i64 add, .int .i64 set, .int .i64 price, .int .i64 h0, .int .i64 h1, .int .i64 h2, .int .i64 h3, .int .i64 h4, .int .i64 h5] 38)).cell? ⟨w.heap.size, 7, none⟩ = some (.int .i64 h1) := cell_new rfl _ _ rfl
 have hc8 : (w.alloc (.cells #[.int .i64 no, .int .i64 cur, .int .i64 mult, .int .i64 add, .int .i64 set, .int .i64 price, .int .i64 h0, .int .i64 h1, .int .i64 h2, .int .i64 h3, .int .i64 h4, .int .i64 h5] 38)).cell? ⟨w.heap.size, 8, none⟩ = some (.int .i64 h2) := cell_new rfl _ _ rfl
 have hc9 : (w.alloc (.cells #[.int .i64 no, .int .i64 cur, .int .i64 mult, .int .i64 add, .int .i64 set, .int .i64 price, .int .i64 h0, .int .i64 h1, .int .i64 h2, .int .i64 h3, .int .i64 h4, .int .i64 h5] 38)).cell? ⟨w.heap.size, 9, none⟩ = some (.int .i64 h3) := cell_new rfl _ _ rfl
 have hc10 : (w.alloc (.cells #[.int .i64 no, .int .i64 cur, .int .i64 mult, .int .i64 add, .int .i64 set, .int .i64 price, .int .i64 h0, .int .i64 h1, .int .i64 h2, .int .i64 h3, .int .i64 h4, .int .i64 h5] 38)).cell? ⟨w.heap.size, 10, none⟩ = some (.int .i64 h4) := cell_new rfl _ _ rfl
 have hc11 : (w.alloc (.cells #[.int .i64 no, .int .i64 cur, .int .i64 mult, .int .i64 add, .int .i64 set, .int .i64 price, .int .i64 h0, .int .i64 h1, .int .i64 h2, .int .i64 h3, .int .i64 h4, .int .i64 h5] 38)).cell? ⟨w.heap.size, 11, none⟩ = some (.int .i64 h5) := cell_new rfl _ _ rfl
 have HB0 := Lib.hid hb0
 clear hb0
 go_enter Try.func54, Try.ntmps54
 go_wp2_with fail
 generalize hW : w.alloc (.cells #[.int .i64 no, .int .i64 cur, .int .i64 mult, .int .i64 add, .int .i64 set, .int .i64 price, .int .i64 h0, .int .i64 h1, .int .i64 h2, .int .i64 h3, .int .i64 h4, .int .i64 h5] 38) = W at *
 clear hW
 go_loop [3] (fun v => ∃ k : Nat, k ≤ 6 ∧ v = .int .i64 k ∧ Hid (([h0, h1, h2, h3, h4, h5].take k).all shB = true)) (fun v => 6 - (intOf v).toNat)
 case atStart => exact ⟨0, by omega, rfl, rfl⟩
 case round =>
  obtain ⟨k, hk, rfl, HP⟩ := hrel
  by_cases hlt : k < 6
  ·
   rcases (by omega : k = 0 ∨ k = 1 ∨ k = 2 ∨ k = 3 ∨ k = 4 ∨ k = 5) with rfl | rfl | rfl | rfl | rfl | rfl
   ·
    by_cases hs : shB h0 = true
    ·
     have hs2 : wB h0 (-1073741824) 1073741824 = true := hs
     have HP2 : Hid (([h0, h1, h2, h3, h4, h5].take (0 + 1)).all shB = true) := by
      have := HP.out
      show _ = true
      simp at this ⊢
      exact hs
     clear HP hs
     go_wp2_with fail
     refine (rwithin_any _ _ _ _).mono ?_
     rintro e w1 ⟨rfl, rfl⟩
     go_wp2_with fail
     go_round
     case rel => exact ⟨0 + 1, by omega, by go_num, HP2⟩
     case measure => simp [intOf]
    ·
     have hs0 : shB h0 = false := by simpa using hs
     have hs2 : wB h0 (-1073741824) 1073741824 = false := hs0
     have HE : Hid (d = false) := by show _ = _; rw [HD.out]; unfold rightI; simp [hs0]
     clear HP hs hs0
     go_wp2_with fail
     refine (rwithin_any _ _ _ _).mono ?_
     rintro e w1 ⟨rfl, rfl⟩
     go_wp2_with fail
     go_ret
     exact ⟨by rw [HE.out]; rfl, HB0.out⟩
   ·
    by_cases hs : shB h1 = true
    ·
     have hs2 : wB h1 (-1073741824) 1073741824 = true := hs
     have HP2 : Hid (([h0, h1, h2, h3, h4, h5].take (1 + 1)).all shB = true) := by
      have := HP.out
      show _ = true
      simp at this ⊢
      simp [this, hs]
     clear HP hs
     go_wp2_with fail
     refine (rwithin_any _ _ _ _).mono ?_
     rintro e w1 ⟨rfl, rfl⟩
     go_wp2_with fail
     go_round
     case rel => exact ⟨1 + 1, by omega, by go_num, HP2⟩
     case measure => simp [intOf]
    ·
     have hs0 : shB h1 = false := by simpa using hs
     have hs2 : wB h1 (-1073741824) 1073741824 = false := hs0
     have HE : Hid (d = false) := by show _ = _; rw [HD.out]; unfold rightI; simp [hs0]
     clear HP hs hs0
     go_wp2_with fail
     refine (rwithin_any _ _ _ _).mono ?_
     rintro e w1 ⟨rfl, rfl⟩
     go_wp2_with fail
     go_ret
     exact ⟨by rw [HE.out]; rfl, HB0.out⟩
   ·
    by_cases hs : shB h2 = true
    ·
     have hs2 : wB h2 (-1073741824) 1073741824 = true := hs
     have HP2 : Hid (([h0, h1, h2, h3, h4, h5].take (2 + 1)).all shB = true) := by
      have := HP.out
      show _ = true
      simp at this ⊢
      simp [this, hs]
     clear HP hs
     go_wp2_with fail
     refine (rwithin_any _ _ _ _).mono ?_
     rintro e w1 ⟨rfl, rfl⟩
     go_wp2_with fail
     go_round
     case rel => exact ⟨2 + 1, by omega, by go_num, HP2⟩
     case measure => simp [intOf]
    ·
     have hs0 : shB h2 = false := by simpa using hs
     have hs2 : wB h2 (-1073741824) 1073741824 = false := hs0
     have HE : Hid (d = false) := by show _ = _; rw [HD.out]; unfold rightI; simp [hs0]
     clear HP hs hs0
     go_wp2_with fail
     refine (rwithin_any _ _ _ _).mono ?_
     rintro e w1 ⟨rfl, rfl⟩
     go_wp2_with fail
     go_ret
     exact ⟨by rw [HE.out]; rfl, HB0.out⟩
   ·
    by_cases hs : shB h3 = true
    ·
     have hs2 : wB h3 (-1073741824) 1073741824 = true := hs
     have HP2 : Hid (([h0, h1, h2, h3, h4, h5].take (3 + 1)).all shB = true) := by
      have := HP.out
      show _ = true
      simp at this ⊢
      simp [this, hs]
     clear HP hs
     go_wp2_with fail
     refine (rwithin_any _ _ _ _).mono ?_
     rintro e w1 ⟨rfl, rfl⟩
     go_wp2_with fail
     go_round
     case rel => exact ⟨3 + 1, by omega, by go_num, HP2⟩
     case measure => simp [intOf]
    ·
     have hs0 : shB h3 = false := by simpa using hs
     have hs2 : wB h3 (-1073741824) 1073741824 = false := hs0
     have HE : Hid (d = false) := by show _ = _; rw [HD.out]; unfold rightI; simp [hs0]
     clear HP hs hs0
     go_wp2_with fail
     refine (rwithin_any _ _ _ _).mono ?_
     rintro e w1 ⟨rfl, rfl⟩
     go_wp2_with fail
     go_ret
     exact ⟨by rw [HE.out]; rfl, HB0.out⟩
   ·
    by_cases hs : shB h4 = true
    ·
     have hs2 : wB h4 (-1073741824) 1073741824 = true := hs
     have HP2 : Hid (([h0, h1, h2, h3, h4, h5].take (4 + 1)).all shB = true) := by
      have := HP.out
      show _ = true
      simp at this ⊢
      simp [this, hs]
     clear HP hs
     go_wp2_with fail
     refine (rwithin_any _ _ _ _).mono ?_
     rintro e w1 ⟨rfl, rfl⟩
     go_wp2_with fail
     go_round
     case rel => exact ⟨4 + 1, by omega, by go_num, HP2⟩
     case measure => simp [intOf]
    ·
     have hs0 : shB h4 = false := by simpa using hs
     have hs2 : wB h4 (-1073741824) 1073741824 = false := hs0
     have HE : Hid (d = false) := by show _ = _; rw [HD.out]; unfold rightI; simp [hs0]
     clear HP hs hs0
     go_wp2_with fail
     refine (rwithin_any _ _ _ _).mono ?_
     rintro e w1 ⟨rfl, rfl⟩
     go_wp2_with fail
     go_ret
     exact ⟨by rw [HE.out]; rfl, HB0.out⟩
   ·
    by_cases hs : shB h5 = true
    ·
     have hs2 : wB h5 (-1073741824) 1073741824 = true := hs
     have HP2 : Hid (([h0, h1, h2, h3, h4, h5].take (5 + 1)).all shB = true) := by
      have := HP.out
      show _ = true
      simp at this ⊢
      simp [this, hs]
     clear HP hs
     go_wp2_with fail
     refine (rwithin_any _ _ _ _).mono ?_
     rintro e w1 ⟨rfl, rfl⟩
     go_wp2_with fail
     go_round
     case rel => exact ⟨5 + 1, by omega, by go_num, HP2⟩
     case measure => simp [intOf]
    ·
     have hs0 : shB h5 = false := by simpa using hs
     have hs2 : wB h5 (-1073741824) 1073741824 = false := hs0
     have HE : Hid (d = false) := by show _ = _; rw [HD.out]; unfold rightI; simp [hs0]
     clear HP hs hs0
     go_wp2_with fail
     refine (rwithin_any _ _ _ _).mono ?_
     rintro e w1 ⟨rfl, rfl⟩
     go_wp2_with fail
     go_ret
     exact ⟨by rw [HE.out]; rfl, HB0.out⟩
  ·
   obtain rfl : k = 6 := by omega
   by_cases g0 : wB no 1 8 = true
   ·
    by_cases g1 : wB cur 0 2 = true
    ·
     by_cases g2 : wB mult 1 1024 = true
     ·
      by_cases g3 : wB add 0 1073741824 = true
      ·
       by_cases g4 : wB set 0 1073741824 = true
       ·
        by_cases g5 : wB price 0 1073741824 = true
        ·
         have HE : Hid (d = true) := by
          have hp := HP.out
          simp at hp
          show _ = _
          rw [HD.out]
          unfold rightI
          simp [hp, g0, g1, g2, g3, g4, g5]
         clear HP
         go_wp2_with fail
         refine (rwithin_any _ _ _ _).mono ?_
         rintro e w1 ⟨rfl, rfl⟩
         go_wp2_with fail
         refine (rCur_any _ _).mono ?_
         rintro e w1 ⟨rfl, rfl⟩
         go_wp2_with fail
         refine (rwithin_any _ _ _ _).mono ?_
         rintro e w1 ⟨rfl, rfl⟩
         go_wp2_with fail
         refine (rwithin_any _ _ _ _).mono ?_
         rintro e w1 ⟨rfl, rfl⟩
         go_wp2_with fail
         refine (rwithin_any _ _ _ _).mono ?_
         rintro e w1 ⟨rfl, rfl⟩
         go_wp2_with fail
         refine (rwithin_any _ _ _ _).mono ?_
         rintro e w1 ⟨rfl, rfl⟩
         go_wp2_with fail
         go_ret
         exact ⟨by rw [HE.out]; rfl, HB0.out⟩
        ·
         have g5 : wB price 0 1073741824 = false := by simpa using g5
         have HE : Hid (d = false) := by
          have hp := HP.out
          simp at hp
          show _ = _
          rw [HD.out]
          unfold rightI
          simp [hp, g0, g1, g2, g3, g4, g5]
         clear HP
         go_wp2_with fail
         refine (rwithin_any _ _ _ _).mono ?_
         rintro e w1 ⟨rfl, rfl⟩
         go_wp2_with fail
         refine (rCur_any _ _).mono ?_
         rintro e w1 ⟨rfl, rfl⟩
         go_wp2_with fail
         refine (rwithin_any _ _ _ _).mono ?_
         rintro e w1 ⟨rfl, rfl⟩
         go_wp2_with fail
         refine (rwithin_any _ _ _ _).mono ?_
         rintro e w1 ⟨rfl, rfl⟩
         go_wp2_with fail
         refine (rwithin_any _ _ _ _).mono ?_
         rintro e w1 ⟨rfl, rfl⟩
         go_wp2_with fail
         refine (rwithin_any _ _ _ _).mono ?_
         rintro e w1 ⟨rfl, rfl⟩
         go_wp2_with fail
         go_ret
         exact ⟨by rw [HE.out]; rfl, HB0.out⟩
       ·
        have g4 : wB set 0 1073741824 = false := by simpa using g4
        have HE : Hid (d = false) := by
         have hp := HP.out
         simp at hp
         show _ = _
         rw [HD.out]
         unfold rightI
         simp [hp, g0, g1, g2, g3, g4]
        clear HP
        go_wp2_with fail
        refine (rwithin_any _ _ _ _).mono ?_
        rintro e w1 ⟨rfl, rfl⟩
        go_wp2_with fail
        refine (rCur_any _ _).mono ?_
        rintro e w1 ⟨rfl, rfl⟩
        go_wp2_with fail
        refine (rwithin_any _ _ _ _).mono ?_
        rintro e w1 ⟨rfl, rfl⟩
        go_wp2_with fail
        refine (rwithin_any _ _ _ _).mono ?_
        rintro e w1 ⟨rfl, rfl⟩
        go_wp2_with fail
        refine (rwithin_any _ _ _ _).mono ?_
        rintro e w1 ⟨rfl, rfl⟩
        go_wp2_with fail
        go_ret
        exact ⟨by rw [HE.out]; rfl, HB0.out⟩
      ·
       have g3 : wB add 0 1073741824 = false := by simpa using g3
       have HE : Hid (d = false) := by
        have hp := HP.out
        simp at hp
        show _ = _
        rw [HD.out]
        unfold rightI
        simp [hp, g0, g1, g2, g3]
       clear HP
       go_wp2_with fail
       refine (rwithin_any _ _ _ _).mono ?_
       rintro e w1 ⟨rfl, rfl⟩
       go_wp2_with fail
       refine (rCur_any _ _).mono ?_
       rintro e w1 ⟨rfl, rfl⟩
       go_wp2_with fail
       refine (rwithin_any _ _ _ _).mono ?_
       rintro e w1 ⟨rfl, rfl⟩
       go_wp2_with fail
       refine (rwithin_any _ _ _ _).mono ?_
       rintro e w1 ⟨rfl, rfl⟩
       go_wp2_with fail
       go_ret
       exact ⟨by rw [HE.out]; rfl, HB0.out⟩
     ·
      have g2 : wB mult 1 1024 = false := by simpa using g2
      have HE : Hid (d = false) := by
       have hp := HP.out
       simp at hp
       show _ = _
       rw [HD.out]
       unfold rightI
       simp [hp, g0, g1, g2]
      clear HP
      go_wp2_with fail
      refine (rwithin_any _ _ _ _).mono ?_
      rintro e w1 ⟨rfl, rfl⟩
      go_wp2_with fail
      refine (rCur_any _ _).mono ?_
      rintro e w1 ⟨rfl, rfl⟩
      go_wp2_with fail
      refine (rwithin_any _ _ _ _).mono ?_
      rintro e w1 ⟨rfl, rfl⟩
      go_wp2_with fail
      go_ret
      exact ⟨by rw [HE.out]; rfl, HB0.out⟩
    ·
     have g1 : wB cur 0 2 = false := by simpa using g1
     have HE : Hid (d = false) := by
      have hp := HP.out
      simp at hp
      show _ = _
      rw [HD.out]
      unfold rightI
      simp [hp, g0, g1]
     clear HP
     go_wp2_with fail
     refine (rwithin_any _ _ _ _).mono ?_
     rintro e w1 ⟨rfl, rfl⟩
     go_wp2_with fail
     refine (rCur_any _ _).mono ?_
     rintro e w1 ⟨rfl, rfl⟩
     go_wp2_with fail
     go_ret
     exact ⟨by rw [HE.out]; rfl, HB0.out⟩
   ·
    have g0 : wB no 1 8 = false := by simpa using g0
    have HE : Hid (d = false) := by
     have hp := HP.out
     simp at hp
     show _ = _
     rw [HD.out]
     unfold rightI
     simp [hp, g0]
    clear HP
    go_wp2_with fail
    refine (rwithin_any _ _ _ _).mono ?_
    rintro e w1 ⟨rfl, rfl⟩
    go_wp2_with fail
    go_ret
    exact ⟨by rw [HE.out]; rfl, HB0.out⟩
end Cam
