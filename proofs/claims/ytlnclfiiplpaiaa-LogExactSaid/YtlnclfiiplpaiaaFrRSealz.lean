import Derived.Test.YtlnclfiiplpaiaaFrGetz
import Derived.Deep.RegionWith
import Derived.Deep.DeepCutAuto
/- Several small texts in one: FrFirst, FrRSeal. No condition. -/
namespace Cam
open Go Go.RowKit Go.Proofs
def fGen (b : List UInt8) : Nat := unbe ((b.drop 1).take 8)
def fNo (b : List UInt8) : Nat := unbe ((b.drop 9).take 4)
def fSize (b : List UInt8) : Nat := unbe ((b.drop 13).take 4)
def fSumB (b : List UInt8) : List UInt8 := (b.drop 17).take 4
def fSum (b : List UInt8) : Nat := unbe (fSumB b)
def fHead (b : List UInt8) : List UInt8 := (b.drop 1).take 16
def fBody (b : List UInt8) : List UInt8 := (b.drop 21).take (fSize b)
def frLen (b : List UInt8) : Nat := fSize b + 21
def isFrame (b : List UInt8) : Prop :=
 21 ≤ b.length ∧ b[0]? = some 195 ∧ fGen b ≤ 1099511627776 ∧ fNo b ≤ 2147483647 ∧ fSize b ≤ 65536 ∧ fSize b ≤ b.length - 21 ∧ crc (fHead b ++ fBody b) = fSum b
def packBad : Value := .tuple #[.int .i64 0, .int .i64 0, .slice none 0 0, .int .i64 0, .int .i64 4]
def FirstPost (t : TypeId) (w : World) (b : List UInt8) (e : Ending) (w' : World) : Prop :=
 (isFrame b ∧ ∃ v', e = .returned (.tuple #[.int .i64 (fGen b), .int .i64 (fNo b), v', .int .i64 (frLen b : Nat), .int .i64 0]) ∧ OwnB t w' w.heap.size v' (fBody b) ∧ Below w.heap.size w w') ∨
 (¬ isFrame b ∧ e = .returned packBad ∧ Below w.heap.size w w')
theorem FirstPost.no {t : TypeId} {w w' : World} {b : List UInt8} (h : ¬ isFrame b) (hb : Below w.heap.size w w') : FirstPost t w b (.returned packBad) w' := Or.inr ⟨h, rfl, hb⟩
def sumBad (b : List UInt8) : Bool := !decide (crc (fHead b ++ fBody b) = fSum b)
theorem cmp_nat (x y : Nat) : ((x : Int) != (y : Int)) = !decide (x = y) := by
 by_cases h : x = y
 ·
  subst h; simp
 ·
  have : ¬ (x : Int) = y := by omega
  rw [decide_eq_false h]
  exact bne_iff_ne.2 this
theorem cmp_wrap (x y : Nat) (hx : x < 4294967296) : (IntKind.u64.wrap (x : Int) != (y : Int)) = !decide (x = y) := by
 rw [show IntKind.u64.wrap (x : Int) = x by simp [IntKind.wrap, IntKind.bits, IntKind.signed]; omega]
 exact cmp_nat x y
set_option maxHeartbeats 1600000 in
theorem First_any (w : World) (v : Value) (b : List UInt8) (h : Bs w v b) :
  Calls Try.prog 71 #[v] w (FirstPost 5 w b) := by
 obtain ⟨a, cap, rfl, hcap, hm⟩ := h.shape
 by_cases h21 : b.length < 21
 ·
  have Hno : Hid (¬ isFrame b) := fun hf => by have := hf.1; omega
  go_enter Try.func71, Try.ntmps71
  go_wp2
  refine bodyPost_ret (v := packBad) (by simp [results, packBad, Try.results71, go_sem]) rfl (FirstPost.no Hno.out (Below.refl _ _))
 ·
  obtain ⟨g, off, rfl, _, hc⟩ := h.at (by omega)
  have hc0 := hc 0 (by omega)
  rw [Nat.add_zero] at hc0
  have hb0 : b[0]? = some b[0] := List.getElem?_eq_getElem (by omega)
  by_cases hmark : b[0] = 195
  ·
   have hmark' : ((b[0].toNat : Int) != 195) = false := by rw [hmark]; rfl
   have H1 := Bs.cut1 h 1 9 (n := 8) (c := cap - 1) (by omega) (by omega) (by omega) rfl rfl
   have H2 := Bs.cut1 h 9 13 (n := 4) (c := cap - 9) (by omega) (by omega) (by omega) rfl rfl
   have H3 := Bs.cut1 h 13 17 (n := 4) (c := cap - 13) (by omega) (by omega) (by omega) rfl rfl
   have G1 := Lib.hid H1
   have G2 := Lib.hid H2
   have G3 := Lib.hid H3
   have Gb0 := Lib.hid hb0
   have Gmark := Lib.hid hmark
   clear H1 H2 H3 hb0 hmark hc
   have hc21 : (21 : Int) ≤ b.length := by omega
   have hcc : (17 : Int) ≤ cap := by omega
   go_enter Try.func71, Try.ntmps71
   go_wp2
   go_quiet ((first | exact quiet_left (get_any _ _ _ (Bs.drewN G1.out _) (by simp; omega)) | exact quiet_left (get_any _ _ _ (Bs.drewN G2.out _) (by simp; omega)) | exact quiet_left (get_any _ _ _ (Bs.drewN G3.out _) (by simp; omega))))
   have e1 : unbe ((b.drop 1).take (9 - 1)) = fGen b := rfl
   have e2 : unbe ((b.drop 9).take (13 - 9)) = fNo b := rfl
   have e3 : unbe ((b.drop 13).take (17 - 13)) = fSize b := rfl
   rw [e1, e2, e3]
   clear e1 e2 e3
   obtain ⟨gen, hgen⟩ : ∃ x, x = fGen b := ⟨_, rfl⟩
   obtain ⟨no, hno⟩ : ∃ x, x = fNo b := ⟨_, rfl⟩
   obtain ⟨size, hsize⟩ : ∃ x, x = fSize b := ⟨_, rfl⟩
   rw [← hgen, ← hno, ← hsize]
   have hgl : gen < 18446744073709551616 := by
    rw [hgen]
    refine Nat.lt_of_lt_of_le (unbe_lt _) ?_
    rw [List.length_take, List.length_drop, show min 8 (b.length - 1) = 8 by omega]
    decide
   have hnl : no < 4294967296 := by
    rw [hno]
    refine Nat.lt_of_lt_of_le (unbe_lt _) ?_
    rw [List.length_take, List.length_drop, show min 4 (b.length - 9) = 4 by omega]
    decide
   have hsl : size < 4294967296 := by
    rw [hsize]
    refine Nat.lt_of_lt_of_le (unbe_lt _) ?_
    rw [List.length_take, List.length_drop, show min 4 (b.length - 13) = 4 by omega]
    decide
   have Hgen := Lib.hid hgen
   have Hno' := Lib.hid hno
   have Hsize := Lib.hid hsize
   clear hgen hno hsize
   have hbq : Below w.heap.size w (w.drewN nq) := below_drewN' (Below.refl _ _) nq
   by_cases c1 : (1099511627776 : Int) < gen
   ·
    have Hno : Hid (¬ isFrame b) := fun hf => by have := hf.2.2.1; rw [← Hgen.out] at this; omega
    go_wp2
    refine bodyPost_ret (v := packBad) (by simp [results, packBad, Try.results71, go_sem]) rfl (FirstPost.no Hno.out hbq)
   by_cases c2 : (2147483647 : Int) < no
   ·
    have Hno : Hid (¬ isFrame b) := fun hf => by have := hf.2.2.2.1; rw [← Hno'.out] at this; omega
    go_wp2
    refine bodyPost_ret (v := packBad) (by simp [results, packBad, Try.results71, go_sem]) rfl (FirstPost.no Hno.out hbq)
   by_cases c3 : (65536 : Int) < size
   ·
    have Hno : Hid (¬ isFrame b) := fun hf => by have := hf.2.2.2.2.1; rw [← Hsize.out] at this; omega
    go_wp2
    refine bodyPost_ret (v := packBad) (by simp [results, packBad, Try.results71, go_sem]) rfl (FirstPost.no Hno.out hbq)
   by_cases c4 : (b.length : Int) - 21 < size
   ·
    have Hno : Hid (¬ isFrame b) := fun hf => by have := hf.2.2.2.2.2.1; rw [← Hsize.out] at this; omega
    go_wp2
    refine bodyPost_ret (v := packBad) (by simp [results, packBad, Try.results71, go_sem]) rfl (FirstPost.no Hno.out hbq)
   go_wp2
   have H4 : Bs w (.slice (some ⟨g, off + 1, none⟩) 16 (cap - 1)) (fHead b) := Bs.cut1 h 1 17 (by omega) (by omega) (by omega) rfl rfl
   have H6 : Bs w (.slice (some ⟨g, off + 17, none⟩) 4 (cap - 17)) (fSumB b) := Bs.cut1 h 17 21 (by omega) (by omega) (by omega) rfl rfl
   have h6l : (fSumB b).length ≤ 8 := by unfold fSumB; rw [List.length_take]; omega
   obtain ⟨A5, hA5, H5⟩ : ∃ A5 : Option Addr, (if cap = 21 then (some ⟨g, off, none⟩ : Option Addr) else some ⟨g, off + 21, none⟩) = A5 ∧ Bs w (.slice A5 size (cap - 21)) (fBody b) := by
    refine ⟨_, rfl, ?_⟩
    have := h.cut 21 (21 + size) (by omega) (by omega)
    rw [show 21 + size - 21 = size by omega] at this
    unfold fBody
    rw [← Hsize.out]
    simpa [add_none] using this
   have hbl : (fBody b).length = size := by
    unfold fBody
    rw [← Hsize.out, List.length_take, List.length_drop]
    omega
   have Hbl := Lib.hid hbl
   have G4 := Lib.hid H4
   have G5 := Lib.hid H5
   have G6 := Lib.hid H6
   clear H4 H5 H6 hbl
   have hclt := crc_lt (fHead b ++ fBody b)
   go_cut [60] (fun s60 wx => s60 = .bool (sumBad b) ∧ Below w.heap.size w wx)
   case first =>
    go_region_with (first
     | (go_at_call 73; refine (Sum_any _ _ [fHead b, fBody b] ?_).mono ?_; (refine Bss.mk2 (heap_new rfl) ?_ ?_; (repeat (first | with_reducible exact G4.out | with_reducible refine Bs.alloc ?_ _ | with_reducible refine Bs.drewN ?_ _ | with_reducible refine Bs.drew ?_)); (repeat (first | with_reducible exact G5.out | with_reducible refine Bs.alloc ?_ _ | with_reducible refine Bs.drewN ?_ _ | with_reducible refine Bs.drew ?_))); rintro e w4 ⟨rfl, hb4⟩; rw [List.flatten_cons, List.flatten_singleton])
     | (go_at_call 76; refine (get_any _ _ (fSumB b) ?_ h6l).mono ?_; (repeat (first | with_reducible exact G6.out | with_reducible refine Bs.alloc ?_ _ | with_reducible refine Bs.drewN ?_ _ | with_reducible refine Bs.drew ?_ | with_reducible refine Bs.mono ?_ hb4)); rintro e w' ⟨rfl, rfl⟩))
    all_goals (go_wp2_with fail; go_meet)
    all_goals exact ⟨congrArg Value.bool (by first | exact cmp_nat _ _ | exact cmp_wrap _ _ hclt), below_of_drewN hb4.un⟩
   case rest =>
    obtain ⟨rfl, hbx⟩ := hcut
    by_cases hsum : crc (fHead b ++ fBody b) = fSum b
    ·
     have hs1 : sumBad b = false := by simp [sumBad, hsum]
     rw [hs1]
     clear hs1
     have Hsum := Lib.hid hsum
     clear hsum
     have hsx := hbx.size
     have hbody : Sl wc (.slice A5 (21 + size - 21) (cap - 21)) 1 size (bvs (fBody b)) := by
      have := (G5.out).mono hbx
      unfold Bs at this
      rw [Hbl.out] at this
      rw [show 21 + size - 21 = size by omega]
      exact this
     have hown0 := World.ownsRow_made (e := 5) (size := 1) (base := w.heap.size) wc #[] 0 hsx (by simp [maxLen]) rfl
     go_wp2_with (at_builtin; refine wpList_append_sl (n := 0) (m := size) rfl (.tmp 65) (.tmp 68) 22 rfl elem_u8 rfl rfl hown0 (hbody.mono ((Below.refl _ _).alloc (Nat.le_refl _) _)) (bs_oneCell _) (by unfold maxLen; omega) (by omega) (by simp; omega) ?_; intro a2 cap2 w2 hown2 hg2 hb2)
     have hf : isFrame b := ⟨by omega, by rw [Gb0.out, Gmark.out], by rw [← Hgen.out]; omega, by rw [← Hno'.out]; omega, by rw [← Hsize.out]; omega, by rw [← Hsize.out]; omega, Hsum.out⟩
     have Hf := Lib.hid hf
     clear hf
     have hbw2 : Below w.heap.size w w2 := (hbx.alloc hsx _).trans hb2
     have hown3 : OwnB 5 w2 w.heap.size (.slice a2 (0 + size) cap2) (fBody b) := by
      unfold OwnB
      rw [Hbl.out]
      simpa using hown2
     refine bodyPost_ret (v := .tuple #[.int .i64 gen, .int .i64 no, .slice a2 (0 + size) cap2, .int .i64 (21 + (size : Int)), .int .i64 0]) (by simp [results, Try.results71, go_sem]) rfl (Or.inl ⟨Hf.out, _, ?_, hown3, hbw2⟩)
     have hfl : ((frLen b : Nat) : Int) = 21 + (size : Int) := by unfold frLen; rw [← Hsize.out]; omega
     rw [← Hgen.out, ← Hno'.out, hfl]
    ·
     have hs1 : sumBad b = true := by simp [sumBad, hsum]
     rw [hs1]
     clear hs1
     have Hno : Hid (¬ isFrame b) := fun hf => hsum hf.2.2.2.2.2.2
     clear hsum
     go_wp2
     refine bodyPost_ret (v := packBad) (by simp [results, packBad, Try.results71, go_sem]) rfl (FirstPost.no Hno.out hbx)
  ·
   have Hno : Hid (¬ isFrame b) := fun hf => by
    have := hf.2.1
    rw [hb0] at this
    exact hmark (Option.some.inj this)
   have hmark' : ((b[0].toNat : Int) != 195) = true := by
    rw [bne_iff_ne]
    intro e
    exact hmark (UInt8.toNat_inj.1 (by have : b[0].toNat = 195 := (by omega); rw [this]; rfl))
   clear hmark hc hb0
   go_enter Try.func71, Try.ntmps71
   go_wp2
   refine bodyPost_ret (v := packBad) (by simp [results, packBad, Try.results71, go_sem]) rfl (FirstPost.no Hno.out (Below.refl _ _))
end Cam
namespace Cam
open Go Go.RowKit Go.Proofs
set_option maxHeartbeats 1600000 in
theorem refSeal_any (w : World) (v : Value) (gen no : Nat) (p : List UInt8) (h : Bs w v p) (hg : gen ≤ 1099511627776) (hn : no ≤ 2147483647) (hp : p.length ≤ 65536) :
  Calls Try.prog 22 #[.int .i64 gen, .int .i64 no, v] w (RetB 5 w (sealB gen no p)) := by
 obtain ⟨a, cap, rfl, hcap, hm⟩ := h.shape
 have h1 : (0 : Int) ≤ gen := by omega
 have h3 : (0 : Int) ≤ no := by omega
 go_enter Try.func22, Try.ntmps22
 go_wp2_with fail
 refine (High_any _ gen 8 (by omega)).mono ?_
 rintro e w1 ⟨v1, rfl, ho1, hb1⟩
 obtain ⟨a1, n1, c1, rfl, Hn1, ho1⟩ := ho1.named
 go_wp2_with fail
 refine (High_any _ no 4 (by omega)).mono ?_
 rintro e w2 ⟨v2, rfl, ho2, hb2⟩
 obtain ⟨a2, n2, c2, rfl, Hn2, ho2⟩ := ho2.named
 have hs1 := hb1.size
 have hs2 := hb2.size
 have hbw2 := hb1.next hb2
 go_wp2_with (at_builtin; refine wpList_append_bytes rfl (.tmp 12) (.tmp 15) 22 rfl elem_u8 rfl rfl (ho1.below hb2) ho2.bs (by simp [be_length]) (by omega) ?_; intro a3 n3 c3 w3 Hn3 ho3 hb3 _)
 refine (High_any _ p.length 4 (by omega)).mono ?_
 rintro e w4 ⟨v4, rfl, ho4, hb4⟩
 obtain ⟨a4, n4, c4, rfl, Hn4, ho4⟩ := ho4.named
 have hbw4 := (hbw2.trans hb3).next hb4
 have hs4 := hbw4.size
 go_wp2_with (first
  | (at_builtin; refine wpList_append_bytes rfl (.tmp 16) (.tmp 20) 22 rfl elem_u8 rfl rfl (ho3.below hb4) ho4.bs (by simp [be_length]) (by omega) ?_; intro a5 n5 c5 w5 Hn5 ho5 hb5 _; have hbw5 := hbw4.trans hb5)
  | (at_builtin; refine wpList_append_bytes rfl (.tmp 22) (.tmp 23) 22 rfl elem_u8 rfl rfl (OwnB.empty _ _ w5.heap.size) ho5.bs (by simp [be_length]) (by omega) ?_; intro a6 n6 c6 w6 Hn6 ho6 hb6 _; have hbw6 := hbw5.next hb6)
  | (at_builtin; refine wpList_append_bytes rfl (.tmp 24) (.tmp 25) 22 rfl elem_u8 rfl rfl ho6 (h.mono hbw6) (by simp [be_length]; omega) hb6.size ?_; intro a7 n7 c7 w7 Hn7 ho7 hb7 _; have hbw7 := hbw6.trans (hb7.mono hbw5.size); have hb57 := hb6.trans hb7)
  | (at_builtin; refine wpList_append_bytes rfl (.tmp 27) (.tmp 28) 22 rfl elem_u8 rfl rfl (lit_own w7) ((ho5.below hb57).bs.alloc _) (by simp [be_length]) (by simp) ?_; intro a9 n9 c9 w9 Hn9 ho9 hb9 _; have hb79 := ((Below.refl w7.heap.size w7).alloc (Nat.le_refl _) _).trans hb9; have hbw9 := hbw7.next hb79))
 refine (refSum_any _ _ _ ((ho7.below hb79).bs)).mono ?_
 rintro e w10 ⟨rfl, rfl⟩
 obtain ⟨c, hc⟩ : ∃ c, c = crc (headB gen no p ++ p) := ⟨_, rfl⟩
 have hclt : c < 4294967296 := by rw [hc]; exact crc_lt _
 have hc' : crc ([] ++ (be 8 gen ++ be 4 no ++ be 4 p.length) ++ p) = c := by rw [hc]; rfl
 rw [hc']
 have Hc := Lib.hid hc
 clear hc hc'
 go_wp2_with fail
 refine (High_any _ c 4 (by omega)).mono ?_
 rintro e w11 ⟨v11, rfl, ho11, hb11⟩
 obtain ⟨a11, n11, c11, rfl, Hn11, ho11⟩ := ho11.named
 have hbw11 := hbw9.next hb11
 go_wp2_with (first
  | (at_builtin; refine wpList_append_bytes rfl (.tmp 30) (.tmp 34) 22 rfl elem_u8 rfl rfl (ho9.below hb11) ho11.bs (by simp [be_length]) (Nat.le_trans hb79.size hb11.size) ?_; intro a12 n12 c12 w12 Hn12 ho12 hb12 _; have hbw12 := hbw11.trans (hb12.mono hbw7.size))
  | (at_builtin; refine wpList_append_bytes rfl (.tmp 36) (.tmp 37) 22 rfl elem_u8 rfl rfl ho12 (h.mono hbw12) (by simp [be_length]; omega) (Nat.le_trans (Nat.le_trans hb79.size hb11.size) hb12.size) ?_; intro a13 n13 c13 w13 Hn13 ho13 hb13 _; have hbw13 := hbw12.trans (hb13.mono hbw7.size)))
 go_ret
 refine ⟨_, rfl, ?_, hbw13⟩
 have hall : [195] ++ (be 8 gen ++ be 4 no ++ be 4 p.length) ++ be 4 c ++ p = sealB gen no p := by rw [Hc.out]; rfl
 rw [← hall]
 exact ho13.base hbw7.size
end Cam
