import Derived.Test.YtlnclfiiplpaiaaFrSeal
/- the reference's Seal. -/
namespace Cam
open Go Go.RowKit Go.Proofs

set_option maxHeartbeats 1600000 in
theorem refSeal_any (w : World) (v : Value) (gen no : Nat) (p : List UInt8) (h : Bs w v p) (hg : gen ≤ 1099511627776) (hn : no ≤ 2147483647) (hp : p.length ≤ 65536) :
    Calls Try.prog 22 #[.int .i64 gen, .int .i64 no, v] w (RetB 5 w (sealB gen no p)) := by
  obtain ⟨a, cap, rfl, hcap, hm⟩ := h.shape
  have h1 : (0 : Int) ≤ gen := by omega
  have h3 : (0 : Int) ≤ no := by omega
  go_enter Try.func22, Try.ntmps22
  go_wp2_with fail
  refine (High_any _ gen 8 (by omega)).mono ?_
  rintro e w1 ⟨v1, rfl, ho1, hb1⟩
  obtain ⟨a1, n1, c1, rfl, Hn1, ho1⟩ := ho1.named
  go_wp2_with fail
  refine (High_any _ no 4 (by omega)).mono ?_
  rintro e w2 ⟨v2, rfl, ho2, hb2⟩
  obtain ⟨a2, n2, c2, rfl, Hn2, ho2⟩ := ho2.named
  have hs1 := hb1.size
  have hs2 := hb2.size
  have hbw2 := hb1.next hb2
  go_wp2_with (at_builtin; refine wpList_append_bytes rfl (.tmp 12) (.tmp 15) 22 rfl elem_u8 rfl rfl (ho1.below hb2) ho2.bs (by simp [be_length]) (by omega) ?_; intro a3 n3 c3 w3 Hn3 ho3 hb3 _)
  refine (High_any _ p.length 4 (by omega)).mono ?_
  rintro e w4 ⟨v4, rfl, ho4, hb4⟩
  obtain ⟨a4, n4, c4, rfl, Hn4, ho4⟩ := ho4.named
  have hbw4 := (hbw2.trans hb3).next hb4
  have hs4 := hbw4.size
  go_wp2_with (first
    | (at_builtin; refine wpList_append_bytes rfl (.tmp 16) (.tmp 20) 22 rfl elem_u8 rfl rfl (ho3.below hb4) ho4.bs (by simp [be_length]) (by omega) ?_; intro a5 n5 c5 w5 Hn5 ho5 hb5 _; have hbw5 := hbw4.trans hb5)
    | (at_builtin; refine wpList_append_bytes rfl (.tmp 22) (.tmp 23) 22 rfl elem_u8 rfl rfl (OwnB.empty _ _ w5.heap.size) ho5.bs (by simp [be_length]) (by omega) ?_; intro a6 n6 c6 w6 Hn6 ho6 hb6 _; have hbw6 := hbw5.next hb6)
    | (at_builtin; refine wpList_append_bytes rfl (.tmp 24) (.tmp 25) 22 rfl elem_u8 rfl rfl ho6 (h.mono hbw6) (by simp [be_length]; omega) hb6.size ?_; intro a7 n7 c7 w7 Hn7 ho7 hb7 _; have hbw7 := hbw6.trans (hb7.mono hbw5.size); have hb57 := hb6.trans hb7)
    | (at_builtin; refine wpList_append_bytes rfl (.tmp 27) (.tmp 28) 22 rfl elem_u8 rfl rfl (lit_own w7) ((ho5.below hb57).bs.alloc _) (by simp [be_length]) (by simp) ?_; intro a9 n9 c9 w9 Hn9 ho9 hb9 _; have hb79 := ((Below.refl w7.heap.size w7).alloc (Nat.le_refl _) _).trans hb9; have hbw9 := hbw7.next hb79))
  refine (refSum_any _ _ _ ((ho7.below hb79).bs)).mono ?_
  rintro e w10 ⟨rfl, rfl⟩
  obtain ⟨c, hc⟩ : ∃ c, c = crc (headB gen no p ++ p) := ⟨_, rfl⟩
  have hclt : c < 4294967296 := by rw [hc]; exact crc_lt _
  have hc' : crc ([] ++ (be 8 gen ++ be 4 no ++ be 4 p.length) ++ p) = c := by rw [hc]; rfl
  rw [hc']
  have Hc := Lib.hid hc
  clear hc hc'
  go_wp2_with fail
  refine (High_any _ c 4 (by omega)).mono ?_
  rintro e w11 ⟨v11, rfl, ho11, hb11⟩
  obtain ⟨a11, n11, c11, rfl, Hn11, ho11⟩ := ho11.named
  have hbw11 := hbw9.next hb11
  go_wp2_with (first
    | (at_builtin; refine wpList_append_bytes rfl (.tmp 30) (.tmp 34) 22 rfl elem_u8 rfl rfl (ho9.below hb11) ho11.bs (by simp [be_length]) (Nat.le_trans hb79.size hb11.size) ?_; intro a12 n12 c12 w12 Hn12 ho12 hb12 _; have hbw12 := hbw11.trans (hb12.mono hbw7.size))
    | (at_builtin; refine wpList_append_bytes rfl (.tmp 36) (.tmp 37) 22 rfl elem_u8 rfl rfl ho12 (h.mono hbw12) (by simp [be_length]; omega) (Nat.le_trans (Nat.le_trans hb79.size hb11.size) hb12.size) ?_; intro a13 n13 c13 w13 Hn13 ho13 hb13 _; have hbw13 := hbw12.trans (hb13.mono hbw7.size)))
  go_ret
  refine ⟨_, rfl, ?_, hbw13⟩
  have hall : [195] ++ (be 8 gen ++ be 4 no ++ be 4 p.length) ++ be 4 c ++ p = sealB gen no p := by rw [Hc.out]; rfl
  rw [← hall]
  exact ho13.base hbw7.size

end Cam
