import Derived.Test.YtlnclfiiplpaiaaFrSum
import Derived.Test.YtlnclfiiplpaiaaFrPut
/- frame.Seal, the reference's May and Seal. -/
namespace Cam
open Go Go.RowKit Go.Proofs

/-- what a frame holds ahead of its sum, but for the mark -/
def headB (gen no : Nat) (p : List UInt8) : List UInt8 := be 8 gen ++ be 4 no ++ be 4 p.length
/-- a payload's frame -/
def sealB (gen no : Nat) (p : List UInt8) : List UInt8 := [195] ++ headB gen no p ++ be 4 (crc (headB gen no p ++ p)) ++ p

/-- what may be sealed: 0: it may; 3: a number is none; 5: too long -/
def mayE (gen no : Int) (n : Nat) : Int :=
  if gen < 0 ∨ 1099511627776 < gen ∨ no < 0 ∨ 2147483647 < no then 3 else if 65536 < n then 5 else 0

theorem headB_length (gen no : Nat) (p : List UInt8) : (headB gen no p).length = 16 := by simp [headB, be_length]
theorem sealB_length (gen no : Nat) (p : List UInt8) : (sealB gen no p).length = p.length + 21 := by simp [sealB, headB_length, be_length]; omega

theorem seal_head (gen no : Nat) (p : List UInt8) : (([195] ++ be 8 gen ++ be 4 no ++ be 4 p.length).drop 1).take (17 - 1) = headB gen no p := by
  have e : ([195] ++ be 8 gen ++ be 4 no ++ be 4 p.length) = 195 :: headB gen no p := by simp [headB]
  rw [e, List.drop_one, List.tail_cons, List.take_of_length_le (by rw [headB_length]; omega)]

theorem seal_whole (gen no : Nat) (p : List UInt8) : [195] ++ be 8 gen ++ be 4 no ++ be 4 p.length ++ be 4 (crc (headB gen no p ++ p)) ++ p = sealB gen no p := by
  simp [sealB, headB]

theorem lit_own (w : World) : OwnB 5 (w.alloc (.cells #[.int .u8 195] 5)) w.heap.size (.slice (some ⟨w.heap.size, 0, none⟩) 1 1) [195] :=
  ⟨by simp, .inr ⟨w.heap.size, 1, _, rfl, Nat.le_refl _, heap_alloc_new _ _, Nat.le_refl _, by simp [maxLen], by simp, by simp⟩⟩

set_option maxHeartbeats 800000 in
theorem Seal_ok (w : World) (v : Value) (gen no : Nat) (p : List UInt8) (h : Bs w v p) (hg : gen ≤ 1099511627776) (hn : no ≤ 2147483647) (hp : p.length ≤ 65536) :
    Calls Try.prog 60 #[.int .i64 gen, .int .i64 no, v] w fun e w' => ∃ v', e = .returned (.tuple #[v', .int .i64 0]) ∧ OwnB 5 w' w.heap.size v' (sealB gen no p) ∧ Below w.heap.size w w' := by
  obtain ⟨a, cap, rfl, hcap, hm⟩ := h.shape
  have h1 : ¬ (gen : Int) < 0 := by omega
  have h2 : ¬ (1099511627776 : Int) < gen := by omega
  have h3 : ¬ (no : Int) < 0 := by omega
  have h4 : ¬ (2147483647 : Int) < no := by omega
  have h5 : ¬ (65536 : Int) < p.length := by omega
  go_enter Try.func60, Try.ntmps60
  go_wp2_with fail
  have hb0 : Below w.heap.size w (w.alloc (.cells #[.int .u8 195] 5)) := (Below.refl _ _).alloc (Nat.le_refl _) _
  refine (put_any _ w.heap.size _ [195] gen 8 (by omega) (lit_own w) (by simp) (by simp)).mono ?_
  rintro e w1 ⟨v1, rfl, ho1, hb1⟩
  obtain ⟨l1, hl1⟩ : ∃ l1, l1 = [195] ++ be 8 gen := ⟨_, rfl⟩
  rw [← hl1] at ho1
  have hz1 : l1.length = 9 := by rw [hl1]; simp [be_length]
  obtain ⟨g1, c1, rfl, hc1, hm1, _, _⟩ := ho1.form (by omega)
  have hz1a : l1.length ≤ 9 := by omega
  have Hl1 := Lib.hid hl1
  have Hz1 := Lib.hid hz1
  clear hl1 hz1
  go_wp2_with fail
  have hs1 := (hb0.trans hb1).size
  refine (put_any _ w.heap.size _ l1 no 4 (by omega) ho1 hs1 (by omega)).mono ?_
  rintro e w2 ⟨v2, rfl, ho2, hb2⟩
  obtain ⟨l2, hl2⟩ : ∃ l2, l2 = l1 ++ be 4 no := ⟨_, rfl⟩
  rw [← hl2] at ho2
  have hz2 : l2.length = 13 := by rw [hl2, List.length_append, Hz1.out, be_length]
  obtain ⟨g2, c2, rfl, hc2, hm2, _, _⟩ := ho2.form (by omega)
  have hz2a : l2.length ≤ 13 := by omega
  have Hl2 := Lib.hid hl2
  have Hz2 := Lib.hid hz2
  clear hl2 hz2
  go_wp2_with fail
  have hs2 := ((hb0.trans hb1).trans hb2).size
  refine (put_any _ w.heap.size _ l2 p.length 4 (by omega) ho2 hs2 (by omega)).mono ?_
  rintro e w3 ⟨v3, rfl, ho3, hb3⟩
  obtain ⟨l3, hl3⟩ : ∃ l3, l3 = l2 ++ be 4 p.length := ⟨_, rfl⟩
  rw [← hl3] at ho3
  have hz3 : l3.length = 17 := by rw [hl3, List.length_append, Hz2.out, be_length]
  obtain ⟨g3, c3, rfl, hc3, hm3, _, hgl3⟩ := ho3.form (by omega)
  have hz3a : l3.length ≤ 17 := by omega
  have hz3b : 17 ≤ l3.length := by omega
  have hz3c : 17 ≤ c3 := by omega
  have Hl3 := Lib.hid hl3
  have Hz3 := Lib.hid hz3
  clear hl3 hz3
  go_wp2_with fail
  have hbw3 : Below w.heap.size w w3 := ((hb0.trans hb1).trans hb2).trans hb3
  have hcut : Bs w3 (.slice (some ⟨g3, 1, none⟩) 16 (c3 - 1)) (headB gen no p) := by
    have := Bs.cut1 ho3.bs 1 17 (n := 16) (c := c3 - 1) (by omega) (by omega) (by omega) rfl rfl
    rw [Nat.zero_add] at this
    rwa [Hl3.out, Hl2.out, Hl1.out, seal_head] at this
  have ha3 := (Below.refl w3.heap.size w3).alloc (Nat.le_refl _) (.cells #[.slice (some ⟨g3, 1, none⟩) 16 (c3 - 1), .slice a p.length cap] 22)
  have ho3' := ho3.below ha3
  refine (Sum_any _ _ [headB gen no p, p] (Bss.mk2 (by rw [heap_at, if_pos rfl]) (hcut.mono ha3) ((h.mono hbw3).mono ha3))).mono ?_
  rintro e w4 ⟨rfl, hb4⟩
  rw [List.flatten_cons, List.flatten_singleton]
  have ho4 := ho3'.below hb4
  obtain ⟨c, hc⟩ : ∃ c, c = crc (headB gen no p ++ p) := ⟨_, rfl⟩
  have hclt : c < 4294967296 := by rw [hc]; exact crc_lt _
  rw [← hc]
  have Hc := Lib.hid hc
  clear hc hcut ha3
  go_wp2_with fail
  have hbw4 : Below w.heap.size w w4 := hbw3.next hb4.un
  have hs4 := hbw4.size
  refine (put_any _ w.heap.size _ l3 c 4 (by omega) ho4 hs4 (by omega)).mono ?_
  rintro e w5 ⟨v5, rfl, ho5, hb5⟩
  obtain ⟨l5, hl5⟩ : ∃ l5, l5 = l3 ++ be 4 c := ⟨_, rfl⟩
  rw [← hl5] at ho5
  have hz5 : l5.length = 21 := by rw [hl5, List.length_append, Hz3.out, be_length]
  obtain ⟨g5, c5, rfl, hc5, hm5, _, hgl5⟩ := ho5.form (by omega)
  have hz5a : l5.length ≤ 21 := by omega
  have Hl5 := Lib.hid hl5
  have Hz5 := Lib.hid hz5
  clear hl5 hz5
  have hbw5 : Below w.heap.size w w5 := hbw4.trans hb5
  have hs5 := hbw5.size
  go_wp2_with (at_builtin; refine wpList_append_sl rfl (.tmp 47) (.tmp 48) 22 rfl elem_u8 rfl rfl ho5 (h.mono hbw5) (bs_oneCell _) (by unfold maxLen; omega) (by omega) hs5 ?_; intro a6 cap6 w6 hown6 hg6 hb6)
  go_ret2
  refine ⟨_, rfl, ?_, hbw5.trans hb6⟩
  have hall : l5 ++ p = sealB gen no p := by rw [Hl5.out, Hl3.out, Hl2.out, Hl1.out, Hc.out, seal_whole]
  have hx := OwnB.app hown6
  rw [hall] at hx
  exact hx

set_option maxHeartbeats 800000 in
theorem Seal_no (w : World) (v : Value) (gen no : Int) (p : List UInt8) (h : Bs w v p) (hm : mayE gen no p.length ≠ 0) :
    Calls Try.prog 60 #[.int .i64 gen, .int .i64 no, v] w fun e w' => e = .returned (.tuple #[.slice none 0 0, .int .i64 (mayE gen no p.length)]) ∧ w = w' := by
  obtain ⟨a, cap, rfl, hcap, hm63⟩ := h.shape
  have Hm := Lib.hid hm
  clear hm
  by_cases h1 : gen < 0
  · go_enter Try.func60, Try.ntmps60
    go_wp2
    go_ret2
    exact ⟨by simp [mayE, *], rfl⟩
  · by_cases h2 : 1099511627776 < gen
    · go_enter Try.func60, Try.ntmps60
      go_wp2
      go_ret2
      exact ⟨by simp [mayE, *], rfl⟩
    · by_cases h3 : no < 0
      · go_enter Try.func60, Try.ntmps60
        go_wp2
        go_ret2
        exact ⟨by simp [mayE, *], rfl⟩
      · by_cases h4 : 2147483647 < no
        · go_enter Try.func60, Try.ntmps60
          go_wp2
          go_ret2
          exact ⟨by simp [mayE, *], rfl⟩
        · by_cases h5 : 65536 < (p.length : Int)
          · go_enter Try.func60, Try.ntmps60
            go_wp2
            go_ret2
            exact ⟨by simp only [mayE]; rw [if_neg (by omega), if_pos (by omega)]; rfl, rfl⟩
          · refine absurd ?_ Hm.out
            simp only [mayE]
            rw [if_neg (by omega), if_neg (by omega)]

end Cam
