import Derived.Test.YtlnclfiiplpaiaaProg
import Derived.Test.YtlnclfiiplpaiaaMem
import Derived.Test.YtlnclfiiplpaiaaBez
import Derived.WalkLawsBesides
import Derived.WalkSpells
import Derived.Lib.Hide
import Derived.Deep.QuietTactic
import Derived.BigQuiet
import Derived.Lib.SmallJoins
import Derived.Test.YtlnclfiiplpaiaaFrSum
/- Several small texts in one: Keep, FrPut, FrSeal, FrGet. No condition. -/
namespace Cam
open Go Go.RowKit Go.Proofs
theorem elem_u8 : Elem Try.prog 22 5 1 1 := Elem.mk' (z := .int .u8 0) Try.underlying22 (by kernel_rfl) rfl (by decide)
set_option maxHeartbeats 400000 in
theorem Bytes_any (w : World) (va vb : Value) (la lb : List UInt8) (ha : Bs w va la) (hb : Bs w vb lb) :
  Calls Try.prog 23 #[va, vb] w fun e w' => e = .returned (.bool (decide (la = lb))) ∧ Below w.heap.size w w' := by
 obtain ⟨aa, capa, rfl, hcapa, hma⟩ := ha.shape
 obtain ⟨ab, capb, rfl, hcapb, hmb⟩ := hb.shape
 by_cases hl : la.length = lb.length
 ·
  have hl' : ((la.length : Int) != (lb.length : Int)) = false := by rw [hl]; simp
  have Hl := Lib.hid hl
  have hlle : la.length ≤ lb.length := by omega
  clear hl
  go_enter Try.func23, Try.ntmps23
  go_wp2
  go_loopw [5] (fun i wr => ∃ k : Nat, k ≤ la.length ∧ i = .int .i64 k ∧ la.take k = lb.take k ∧ Below w.heap.size w wr) (fun i _ => la.length - (intOf i).toNat)
  case atStart => exact ⟨0, Nat.zero_le _, rfl, rfl, Below.refl _ _⟩
  case round =>
   obtain ⟨k, hk, rfl, heq, hbel⟩ := hrel
   have Heq := Lib.hid heq
   clear heq
   by_cases hlt : k < la.length
   ·
    obtain ⟨ba, offa, rfl, _, hca⟩ := (ha.mono hbel).at (by omega)
    obtain ⟨bb, offb, rfl, _, hcb⟩ := (hb.mono hbel).at (by omega)
    have hcka := hca k hlt
    have hckb := hcb k (by omega)
    clear hca hcb
    have hk0 : (0 : Int) ≤ k := by omega
    have hk1 : (k : Int) < la.length := by omega
    have hk2 : (k : Int) < lb.length := by omega
    go_wp2
    go_quiet (fail)
    have hbq := below_drewN' hbel nq
    by_cases hne : la[k] = lb[k]
    ·
     have hne' : ((la[k].toNat : Int) != (lb[k].toNat : Int)) = false := by rw [hne]; simp
     have Hne := Lib.hid hne
     clear hne
     go_wp2
     go_roundw
     case rel => exact ⟨k + 1, by omega, by go_num, by rw [take_snoc _ _ hlt, take_snoc _ _ (by omega), Heq.out, Hne.out], hbq⟩
     case measure => simp [intOf]; omega
    ·
     have hne' : ((la[k].toNat : Int) != (lb[k].toNat : Int)) = true := by
      rw [bne_iff_ne]
      intro e
      exact hne (UInt8.toNat_inj.1 (by omega))
     have Hne := Lib.hid hne
     clear hne
     go_wp2
     go_ret
     exact ⟨by rw [decide_eq_false (fun e => Hne.out (by simp [e]))]; rfl, hbq⟩
   ·
    have hall : la = lb := by
     have := Heq.out
     rwa [List.take_of_length_le (by omega), List.take_of_length_le (by rw [← Hl.out]; omega)] at this
    have Hall := Lib.hid hall
    clear hall
    go_wp2
    go_ret
    exact ⟨by rw [decide_eq_true Hall.out]; rfl, hbel⟩
 ·
  have hl' : ((la.length : Int) != (lb.length : Int)) = true := by rw [bne_iff_ne]; omega
  have hne : la ≠ lb := fun e => hl (by rw [e])
  go_enter Try.func23, Try.ntmps23
  go_wp2
  go_ret
  exact ⟨by rw [decide_eq_false hne]; rfl, Below.refl _ _⟩
set_option maxHeartbeats 400000 in
theorem Twin_any (w : World) (v : Value) (l : List UInt8) (h : Bs w v l) (hl : l.length ≤ 140737488351232) :
  Calls Try.prog 29 #[v] w (RetB 5 w l) := by
 obtain ⟨a, cap, rfl, hcap, hm⟩ := h.shape
 go_enter Try.func29, Try.ntmps29
 go_wp2_with (at_builtin; refine wpList_append_sl rfl (.tmp 4) (.tmp 5) 22 rfl elem_u8 rfl rfl (World.ownsRow_nil _ w.heap.size _ _) h (bs_oneCell _) (by unfold maxLen; omega) (by omega) (Nat.le_refl _) ?_; intro a2 cap2 w2 hown2 hg2 hb2)
 go_ret
 refine ⟨_, rfl, ?_, hb2⟩
 unfold OwnB
 simpa using hown2
end Cam
namespace Cam
open Go Go.RowKit Go.Proofs
theorem byte_at (n k : Nat) : ((n : Int) / 2 ^ (8 * k) % 256) = ((UInt8.ofNat (n / 256 ^ k)).toNat : Int) := by
 rw [UInt8.toNat_ofNat', show (256 : Nat) ^ k = 2 ^ (8 * k) by rw [Nat.pow_mul]]
 simp
set_option maxHeartbeats 400000 in
theorem put_any (w : World) (base : Nat) (v : Value) (l : List UInt8) (n m : Nat) (hm : m ≤ 8) (h : OwnB 5 w base v l) (hb : base ≤ w.heap.size) (hl : l.length ≤ 1099511627776) :
  Calls Try.prog 72 #[v, .int .u64 n, .int .i64 m] w (RetOnto 5 base w (l ++ be m n)) := by
 obtain ⟨a, cap, rfl⟩ := h.shape
 go_enter Try.func72, Try.ntmps72
 go_wp2
 go_loopw [0, 7] (fun s i wr => ∃ (k : Nat) (l' : List UInt8), k ≤ m ∧ i = .int .i64 ((k : Int) - 1) ∧ l'.length + k = l.length + m ∧ OwnB 5 wr base s l' ∧ Below base w wr ∧ l' ++ be k n = l ++ be m n) (fun _ i _ => (intOf i + 1).toNat)
 case atStart => exact ⟨m, l, Nat.le_refl _, rfl, rfl, h, Below.refl _ _, rfl⟩
 case round =>
  obtain ⟨k, l', hk, rfl, hlen, hown, hbel, heq⟩ := hrel
  obtain ⟨a', cap', rfl⟩ := hown.shape
  have hsz := hbel.size
  rcases Nat.eq_zero_or_pos k with hk0 | hk0
  ·
   have h0 : ¬ (1 : Int) ≤ k := by omega
   go_wp2
   go_ret
   refine ⟨_, rfl, ?_, hbel⟩
   subst hk0
   simp only [be, List.append_nil] at heq
   rw [← heq]
   exact hown
  ·
   have h1 : (1 : Int) ≤ k := by omega
   go_wp2_with (at_builtin; refine wpList_append_sl rfl (.tmp 14) (.tmp 20) 22 rfl elem_u8 rfl rfl (hown.alloc _) (Sl.one _ _ _) (by simp [Value.oneCell']) (by unfold maxLen; omega) (by omega) (by simp; omega) ?_; intro a2 cap2 w2 hown2 hg2 hb2)
   go_roundw
   case rel =>
    obtain ⟨j, rfl⟩ : ∃ j, k = j + 1 := ⟨k - 1, by omega⟩
    refine ⟨j, l' ++ [UInt8.ofNat (n / 256 ^ j)], by omega, by go_num, by simp; omega, OwnB.snoc _ hown2 (byte_at n j), (hbel.alloc (by omega) _).trans hb2, ?_⟩
    rw [← heq, be, List.append_assoc]
    rfl
   case measure => simp [intOf]; omega
set_option maxHeartbeats 400000 in
theorem High_any (w : World) (n m : Nat) (hm : m ≤ 8) :
  Calls Try.prog 47 #[.int .u64 n, .int .i64 m] w (RetB 5 w (be m n)) := by
 go_enter Try.func47, Try.ntmps47
 go_wp2
 go_loopw [5, 6] (fun s i wr => ∃ (k : Nat) (l' : List UInt8), k ≤ m ∧ i = .int .i64 ((k : Int) - 1) ∧ l'.length + k = m ∧ OwnB 5 wr w.heap.size s l' ∧ Below w.heap.size w wr ∧ l' ++ be k n = be m n) (fun _ i _ => (intOf i + 1).toNat)
 case atStart => exact ⟨m, [], Nat.le_refl _, rfl, by simp, World.ownsRow_nil _ _ _ _, Below.refl _ _, rfl⟩
 case round =>
  obtain ⟨k, l', hk, rfl, hlen, hown, hbel, heq⟩ := hrel
  obtain ⟨a', cap', rfl⟩ := hown.shape
  have hsz := hbel.size
  rcases Nat.eq_zero_or_pos k with hk0 | hk0
  ·
   have h0 : ¬ (1 : Int) ≤ k := by omega
   go_wp2
   go_ret
   refine ⟨_, rfl, ?_, hbel⟩
   subst hk0
   simp only [be, List.append_nil] at heq
   rw [← heq]
   exact hown
  ·
   have h1 : (1 : Int) ≤ k := by omega
   go_wp2_with (at_builtin; refine wpList_append_sl rfl (.tmp 13) (.tmp 19) 22 rfl elem_u8 rfl rfl (hown.alloc _) (Sl.one _ _ _) (by simp [Value.oneCell']) (by unfold maxLen; omega) (by omega) (by simp; omega) ?_; intro a2 cap2 w2 hown2 hg2 hb2)
   go_roundw
   case rel =>
    obtain ⟨j, rfl⟩ : ∃ j, k = j + 1 := ⟨k - 1, by omega⟩
    refine ⟨j, l' ++ [UInt8.ofNat (n / 256 ^ j)], by omega, by go_num, by simp; omega, OwnB.snoc _ hown2 (byte_at n j), (hbel.alloc (by omega) _).trans hb2, ?_⟩
    rw [← heq, be, List.append_assoc]
    rfl
   case measure => simp [intOf]; omega
end Cam
namespace Cam
open Go Go.RowKit Go.Proofs
def headB (gen no : Nat) (p : List UInt8) : List UInt8 := be 8 gen ++ be 4 no ++ be 4 p.length
def sealB (gen no : Nat) (p : List UInt8) : List UInt8 := [195] ++ headB gen no p ++ be 4 (crc (headB gen no p ++ p)) ++ p
theorem headB_length (gen no : Nat) (p : List UInt8) : (headB gen no p).length = 16 := by simp [headB, be_length]
theorem sealB_length (gen no : Nat) (p : List UInt8) : (sealB gen no p).length = p.length + 21 := by simp [sealB, headB_length, be_length]; omega
theorem seal_head (gen no : Nat) (p : List UInt8) : (([195] ++ be 8 gen ++ be 4 no ++ be 4 p.length).drop 1).take (17 - 1) = headB gen no p := by
 have e : ([195] ++ be 8 gen ++ be 4 no ++ be 4 p.length) = 195 :: headB gen no p := by simp [headB]
 rw [e, List.drop_one, List.tail_cons, List.take_of_length_le (by rw [headB_length]; omega)]
theorem seal_whole (gen no : Nat) (p : List UInt8) : [195] ++ be 8 gen ++ be 4 no ++ be 4 p.length ++ be 4 (crc (headB gen no p ++ p)) ++ p = sealB gen no p := by
 simp [sealB, headB]
theorem lit_own (w : World) : OwnB 5 (w.alloc (.cells #[.int .u8 195] 5)) w.heap.size (.slice (some ⟨w.heap.size, 0, none⟩) 1 1) [195] :=
 ⟨by simp, .inr ⟨w.heap.size, 1, _, rfl, Nat.le_refl _, heap_alloc_new _ _, Nat.le_refl _, by simp [maxLen], by simp, by simp⟩⟩
set_option maxHeartbeats 800000 in
theorem Seal_ok (w : World) (v : Value) (gen no : Nat) (p : List UInt8) (h : Bs w v p) (hg : gen ≤ 1099511627776) (hn : no ≤ 2147483647) (hp : p.length ≤ 65536) :
  Calls Try.prog 60 #[.int .i64 gen, .int .i64 no, v] w fun e w' => ∃ v', e = .returned (.tuple #[v', .int .i64 0]) ∧ OwnB 5 w' w.heap.size v' (sealB gen no p) ∧ Below w.heap.size w w' := by
 obtain ⟨a, cap, rfl, hcap, hm⟩ := h.shape
 have h1 : ¬ (gen : Int) < 0 := by omega
 have h2 : ¬ (1099511627776 : Int) < gen := by omega
 have h3 : ¬ (no : Int) < 0 := by omega
 have h4 : ¬ (2147483647 : Int) < no := by omega
 have h5 : ¬ (65536 : Int) < p.length := by omega
 go_enter Try.func60, Try.ntmps60
 go_wp2_with fail
 have hb0 : Below w.heap.size w (w.alloc (.cells #[.int .u8 195] 5)) := (Below.refl _ _).alloc (Nat.le_refl _) _
 refine (put_any _ w.heap.size _ [195] gen 8 (by omega) (lit_own w) (by simp) (by simp)).mono ?_
 rintro e w1 ⟨v1, rfl, ho1, hb1⟩
 obtain ⟨l1, hl1⟩ : ∃ l1, l1 = [195] ++ be 8 gen := ⟨_, rfl⟩
 rw [← hl1] at ho1
 have hz1 : l1.length = 9 := by rw [hl1]; simp [be_length]
 obtain ⟨g1, c1, rfl, hc1, hm1, _, _⟩ := ho1.form (by omega)
 have hz1a : l1.length ≤ 9 := by omega
 have Hl1 := Lib.hid hl1
 have Hz1 := Lib.hid hz1
 clear hl1 hz1
 go_wp2_with fail
 have hs1 := (hb0.trans hb1).size
 refine (put_any _ w.heap.size _ l1 no 4 (by omega) ho1 hs1 (by omega)).mono ?_
 rintro e w2 ⟨v2, rfl, ho2, hb2⟩
 obtain ⟨l2, hl2⟩ : ∃ l2, l2 = l1 ++ be 4 no := ⟨_, rfl⟩
 rw [← hl2] at ho2
 have hz2 : l2.length = 13 := by rw [hl2, List.length_append, Hz1.out, be_length]
 obtain ⟨g2, c2, rfl, hc2, hm2, _, _⟩ := ho2.form (by omega)
 have hz2a : l2.length ≤ 13 := by omega
 have Hl2 := Lib.hid hl2
 have Hz2 := Lib.hid hz2
 clear hl2 hz2
 go_wp2_with fail
 have hs2 := ((hb0.trans hb1).trans hb2).size
 refine (put_any _ w.heap.size _ l2 p.length 4 (by omega) ho2 hs2 (by omega)).mono ?_
 rintro e w3 ⟨v3, rfl, ho3, hb3⟩
 obtain ⟨l3, hl3⟩ : ∃ l3, l3 = l2 ++ be 4 p.length := ⟨_, rfl⟩
 rw [← hl3] at ho3
 have hz3 : l3.length = 17 := by rw [hl3, List.length_append, Hz2.out, be_length]
 obtain ⟨g3, c3, rfl, hc3, hm3, _, hgl3⟩ := ho3.form (by omega)
 have hz3a : l3.length ≤ 17 := by omega
 have hz3b : 17 ≤ l3.length := by omega
 have hz3c : 17 ≤ c3 := by omega
 have Hl3 := Lib.hid hl3
 have Hz3 := Lib.hid hz3
 clear hl3 hz3
 go_wp2_with fail
 have hbw3 : Below w.heap.size w w3 := ((hb0.trans hb1).trans hb2).trans hb3
 have hcut : Bs w3 (.slice (some ⟨g3, 1, none⟩) 16 (c3 - 1)) (headB gen no p) := by
  have := Bs.cut1 ho3.bs 1 17 (n := 16) (c := c3 - 1) (by omega) (by omega) (by omega) rfl rfl
  rw [Nat.zero_add] at this
  rwa [Hl3.out, Hl2.out, Hl1.out, seal_head] at this
 have ha3 := (Below.refl w3.heap.size w3).alloc (Nat.le_refl _) (.cells #[.slice (some ⟨g3, 1, none⟩) 16 (c3 - 1), .slice a p.length cap] 22)
 have ho3' := ho3.below ha3
 refine (Sum_any _ _ [headB gen no p, p] (Bss.mk2 (by rw [heap_at, if_pos rfl]) (hcut.mono ha3) ((h.mono hbw3).mono ha3))).mono ?_
 rintro e w4 ⟨rfl, hb4⟩
 rw [List.flatten_cons, List.flatten_singleton]
 have ho4 := ho3'.below hb4
 obtain ⟨c, hc⟩ : ∃ c, c = crc (headB gen no p ++ p) := ⟨_, rfl⟩
 have hclt : c < 4294967296 := by rw [hc]; exact crc_lt _
 rw [← hc]
 have Hc := Lib.hid hc
 clear hc hcut ha3
 go_wp2_with fail
 have hbw4 : Below w.heap.size w w4 := hbw3.next hb4.un
 have hs4 := hbw4.size
 refine (put_any _ w.heap.size _ l3 c 4 (by omega) ho4 hs4 (by omega)).mono ?_
 rintro e w5 ⟨v5, rfl, ho5, hb5⟩
 obtain ⟨l5, hl5⟩ : ∃ l5, l5 = l3 ++ be 4 c := ⟨_, rfl⟩
 rw [← hl5] at ho5
 have hz5 : l5.length = 21 := by rw [hl5, List.length_append, Hz3.out, be_length]
 obtain ⟨g5, c5, rfl, hc5, hm5, _, hgl5⟩ := ho5.form (by omega)
 have hz5a : l5.length ≤ 21 := by omega
 have Hl5 := Lib.hid hl5
 have Hz5 := Lib.hid hz5
 clear hl5 hz5
 have hbw5 : Below w.heap.size w w5 := hbw4.trans hb5
 have hs5 := hbw5.size
 go_wp2_with (at_builtin; refine wpList_append_sl rfl (.tmp 47) (.tmp 48) 22 rfl elem_u8 rfl rfl ho5 (h.mono hbw5) (bs_oneCell _) (by unfold maxLen; omega) (by omega) hs5 ?_; intro a6 cap6 w6 hown6 hg6 hb6)
 go_ret2
 refine ⟨_, rfl, ?_, hbw5.trans hb6⟩
 have hall : l5 ++ p = sealB gen no p := by rw [Hl5.out, Hl3.out, Hl2.out, Hl1.out, Hc.out, seal_whole]
 have hx := OwnB.app hown6
 rw [hall] at hx
 exact hx
end Cam
namespace Cam
open Go Go.RowKit Go.Proofs
set_option maxHeartbeats 400000 in
theorem get_any (w : World) (v : Value) (l : List UInt8) (h : Bs w v l) (h8 : l.length ≤ 8) :
  Calls Try.prog 76 #[v] w fun e w' => e = .returned (.int .u64 (unbe l)) ∧ w = w' := by
 obtain ⟨a, cap, rfl, hcap, hm⟩ := h.shape
 go_enter Try.func76, Try.ntmps76
 go_wp2
 go_loop [3, 8] (fun n i => ∃ k : Nat, k ≤ l.length ∧ i = .int .i64 k ∧ n = .int .u64 (unbe (l.take k))) (fun _ i => l.length - (intOf i).toNat)
 case atStart => exact ⟨0, Nat.zero_le _, rfl, rfl⟩
 case round =>
  obtain ⟨k, hk, rfl, rfl⟩ := hrel
  by_cases hlt : k < l.length
  ·
   have hb := unbe_lt (l.take k)
   rw [List.length_take, Nat.min_eq_left hk] at hb
   have hb' : unbe (l.take k) < 72057594037927936 := Nat.lt_of_lt_of_le hb (pow256_le (by omega))
   clear hb
   obtain ⟨b, off, rfl, _, hc⟩ := h.at (by omega)
   have hck := hc k hlt
   have hu := l[k].toNat_lt
   clear hc
   go_wp2
   go_round
   case rel => exact ⟨k + 1, by omega, by go_num, by rw [or_byte _ _ hb' (by simpa using hu), ← unbe_snoc, ← take_snoc]⟩
   case measure => simp [intOf]; omega
  ·
   go_wp2
   go_ret
   exact ⟨by rw [List.take_of_length_le (by omega)]; rfl, rfl⟩
set_option maxHeartbeats 400000 in
theorem number_any (w : World) (v : Value) (l : List UInt8) (h : Bs w v l) (h8 : l.length ≤ 8) :
  Calls Try.prog 80 #[v] w fun e w' => e = .returned (.int .u64 (unbe l)) ∧ w = w' := by
 obtain ⟨a, cap, rfl, hcap, hm⟩ := h.shape
 go_enter Try.func80, Try.ntmps80
 go_wp2
 go_loop [3, 4] (fun n i => ∃ k : Nat, k ≤ l.length ∧ i = .int .i64 k ∧ n = .int .u64 (unbe (l.take k))) (fun _ i => l.length - (intOf i).toNat)
 case atStart => exact ⟨0, Nat.zero_le _, rfl, rfl⟩
 case round =>
  obtain ⟨k, hk, rfl, rfl⟩ := hrel
  by_cases hlt : k < l.length
  ·
   have hb := unbe_lt (l.take k)
   rw [List.length_take, Nat.min_eq_left hk] at hb
   have hb' : unbe (l.take k) < 72057594037927936 := Nat.lt_of_lt_of_le hb (pow256_le (by omega))
   clear hb
   obtain ⟨b, off, rfl, _, hc⟩ := h.at (by omega)
   have hck := hc k hlt
   have hu := l[k].toNat_lt
   clear hc
   go_wp2
   go_round
   case rel => exact ⟨k + 1, by omega, by go_num, by rw [or_byte _ _ hb' (by simpa using hu), ← unbe_snoc, ← take_snoc]⟩
   case measure => simp [intOf]; omega
  ·
   go_wp2
   go_ret
   exact ⟨by rw [List.take_of_length_le (by omega)]; rfl, rfl⟩
end Cam
