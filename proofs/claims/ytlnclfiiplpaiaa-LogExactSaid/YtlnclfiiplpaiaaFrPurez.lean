import Derived.Test.YtlnclfiiplpaiaaFrRFirst
import Derived.Test.YtlnclfiiplpaiaaFrRSealz
/- Several small texts in one: PgH, FrPure. No condition. -/
namespace Cam
open Go Go.RowKit Go.Proofs
def headBad : Value := .tuple #[.int .i64 0, .int .i64 0, .int .i64 0, .bool false]
def isHead (b : List UInt8) : Prop := 21 ≤ b.length ∧ b[0]? = some 195 ∧ fGen b ≤ 1099511627776 ∧ fNo b ≤ 2147483647 ∧ fSize b ≤ 65536
def HeadPost (w : World) (b : List UInt8) (e : Ending) (w' : World) : Prop :=
 (isHead b ∧ e = .returned (.tuple #[.int .i64 (fGen b : Int), .int .i64 (fNo b : Int), .int .i64 (fSize b : Int), .bool true]) ∧ Below w.heap.size w w') ∨ (¬ isHead b ∧ e = .returned headBad ∧ Below w.heap.size w w')
theorem HeadPost.no {w w' : World} {b : List UInt8} (h : ¬ isHead b) (hb : Below w.heap.size w w') : HeadPost w b (.returned headBad) w' := Or.inr ⟨h, rfl, hb⟩
set_option maxHeartbeats 1600000 in
theorem refHead_any (w : World) (v : Value) (b : List UInt8) (h : Bs w v b) :
  Calls Try.prog 78 #[v] w (HeadPost w b) := by
 obtain ⟨a, cap, rfl, hcap, hm⟩ := h.shape
 by_cases h21 : b.length < 21
 ·
  have Hno : Hid (¬ isHead b) := fun hf => by have := hf.1; omega
  go_enter Try.func78, Try.ntmps78
  go_wp2
  refine bodyPost_ret (v := headBad) (by simp [results, headBad, Try.results78, go_sem]) rfl (HeadPost.no Hno.out (Below.refl _ _))
 ·
  obtain ⟨g, off, rfl, _, hc⟩ := h.at (by omega)
  have hc0 := hc 0 (by omega)
  rw [Nat.add_zero] at hc0
  have hb0 : b[0]? = some b[0] := List.getElem?_eq_getElem (by omega)
  by_cases hmark : b[0] = 195
  ·
   have hmark' : ((b[0].toNat : Int) != 195) = false := by rw [hmark]; rfl
   have H1 := Bs.cut1 h 1 9 (n := 8) (c := cap - 1) (by omega) (by omega) (by omega) rfl rfl
   have H2 := Bs.cut1 h 9 13 (n := 4) (c := cap - 9) (by omega) (by omega) (by omega) rfl rfl
   have H3 := Bs.cut1 h 13 17 (n := 4) (c := cap - 13) (by omega) (by omega) (by omega) rfl rfl
   have G1 := Lib.hid H1
   have G2 := Lib.hid H2
   have G3 := Lib.hid H3
   have Gb0 := Lib.hid hb0
   have Gmark := Lib.hid hmark
   clear H1 H2 H3 hb0 hmark hc
   have hc21 : (21 : Int) ≤ b.length := by omega
   have hcc : (17 : Int) ≤ cap := by omega
   go_enter Try.func78, Try.ntmps78
   go_wp2
   go_quiet ((first | exact quiet_left (number_any _ _ _ (Bs.drewN G1.out _) (by simp; omega)) | exact quiet_left (number_any _ _ _ (Bs.drewN G2.out _) (by simp; omega)) | exact quiet_left (number_any _ _ _ (Bs.drewN G3.out _) (by simp; omega))))
   have e1 : unbe ((b.drop 1).take (9 - 1)) = fGen b := rfl
   have e2 : unbe ((b.drop 9).take (13 - 9)) = fNo b := rfl
   have e3 : unbe ((b.drop 13).take (17 - 13)) = fSize b := rfl
   rw [e1, e2, e3]
   clear e1 e2 e3
   obtain ⟨gen, hgen⟩ : ∃ x, x = fGen b := ⟨_, rfl⟩
   obtain ⟨no, hno⟩ : ∃ x, x = fNo b := ⟨_, rfl⟩
   obtain ⟨size, hsize⟩ : ∃ x, x = fSize b := ⟨_, rfl⟩
   rw [← hgen, ← hno, ← hsize]
   have hgl : gen < 18446744073709551616 := by
    rw [hgen]
    refine Nat.lt_of_lt_of_le (unbe_lt _) ?_
    rw [List.length_take, List.length_drop, show min 8 (b.length - 1) = 8 by omega]
    decide
   have hnl : no < 4294967296 := by
    rw [hno]
    refine Nat.lt_of_lt_of_le (unbe_lt _) ?_
    rw [List.length_take, List.length_drop, show min 4 (b.length - 9) = 4 by omega]
    decide
   have hsl : size < 4294967296 := by
    rw [hsize]
    refine Nat.lt_of_lt_of_le (unbe_lt _) ?_
    rw [List.length_take, List.length_drop, show min 4 (b.length - 13) = 4 by omega]
    decide
   have Hgen := Lib.hid hgen
   have Hno' := Lib.hid hno
   have Hsize := Lib.hid hsize
   clear hgen hno hsize
   have hbq : Below w.heap.size w (w.drewN nq) := below_drewN' (Below.refl _ _) nq
   by_cases c1 : (1099511627776 : Int) < gen
   ·
    have Hno : Hid (¬ isHead b) := fun hf => by have := hf.2.2.1; rw [← Hgen.out] at this; omega
    go_wp2
    refine bodyPost_ret (v := headBad) (by simp [results, headBad, Try.results78, go_sem]) rfl (HeadPost.no Hno.out hbq)
   by_cases c2 : (2147483647 : Int) < no
   ·
    have Hno : Hid (¬ isHead b) := fun hf => by have := hf.2.2.2.1; rw [← Hno'.out] at this; omega
    go_wp2
    refine bodyPost_ret (v := headBad) (by simp [results, headBad, Try.results78, go_sem]) rfl (HeadPost.no Hno.out hbq)
   by_cases c3 : (65536 : Int) < size
   ·
    have Hno : Hid (¬ isHead b) := fun hf => by have := hf.2.2.2.2; rw [← Hsize.out] at this; omega
    go_wp2
    refine bodyPost_ret (v := headBad) (by simp [results, headBad, Try.results78, go_sem]) rfl (HeadPost.no Hno.out hbq)
   have Hyes : Hid (isHead b) := ⟨by omega, by rw [Gb0.out, Gmark.out], by rw [← Hgen.out]; omega, by rw [← Hno'.out]; omega, by rw [← Hsize.out]; omega⟩
   have hg1 : IntKind.i64.wrap (gen : Int) = (gen : Int) := by rw [IntKind.wrap_i64]; omega
   have hs1 : IntKind.i64.wrap (size : Int) = (size : Int) := by rw [IntKind.wrap_i64]; omega
   have hn1 : IntKind.i64.wrap (no : Int) = (no : Int) := by rw [IntKind.wrap_i64]; omega
   go_wp2
   refine bodyPost_ret (v := .tuple #[.int .i64 (gen : Int), .int .i64 (no : Int), .int .i64 (size : Int), .bool true]) (by simp [results, Try.results78, go_sem]) rfl (Or.inl ⟨Hyes.out, by rw [Hgen.out, Hno'.out, Hsize.out], hbq⟩)
  ·
   have Hno : Hid (¬ isHead b) := fun hf => by
    have := hf.2.1
    rw [hb0] at this
    exact hmark (Option.some.inj this)
   have hmark' : ((b[0].toNat : Int) != 195) = true := by
    rw [bne_iff_ne]
    intro e
    exact hmark (UInt8.toNat_inj.1 (by have : b[0].toNat = 195 := (by omega); rw [this]; rfl))
   clear hmark hc hb0
   go_enter Try.func78, Try.ntmps78
   go_wp2
   refine bodyPost_ret (v := headBad) (by simp [results, headBad, Try.results78, go_sem]) rfl (HeadPost.no Hno.out (Below.refl _ _))
end Cam
namespace Cam
open Go Go.RowKit Go.Proofs
theorem seal_cons (g k : Nat) (p more : List UInt8) : sealB g k p ++ more = 195 :: (be 8 g ++ (be 4 k ++ (be 4 p.length ++ (be 4 (crc (headB g k p ++ p)) ++ (p ++ more))))) := by
 simp [sealB, headB]
theorem drop_be (n x m : Nat) (r : List UInt8) (h : n ≤ m) : (be n x ++ r).drop m = r.drop (m - n) := by
 rw [List.drop_append, be_length, List.drop_of_length_le (by rw [be_length]; exact h), List.nil_append]
theorem take_be (n x : Nat) (r : List UInt8) : (be n x ++ r).take n = be n x := by
 rw [List.take_append_of_le_length (by rw [be_length]; exact Nat.le_refl _), List.take_of_length_le (by rw [be_length]; exact Nat.le_refl _)]
theorem fGen_seal {g k : Nat} {p : List UInt8} (more : List UInt8) (hg : g ≤ 1099511627776) : fGen (sealB g k p ++ more) = g := by
 unfold fGen
 rw [seal_cons, List.drop_succ_cons, List.drop_zero, take_be, unbe_be_of_lt (by omega)]
theorem fNo_seal {g k : Nat} {p : List UInt8} (more : List UInt8) (hk : k ≤ 2147483647) : fNo (sealB g k p ++ more) = k := by
 unfold fNo
 rw [seal_cons, List.drop_succ_cons, drop_be _ _ _ _ (by omega)]
 simp only [Nat.sub_self, List.drop_zero]
 rw [take_be, unbe_be_of_lt (by omega)]
theorem fSize_seal {g k : Nat} {p : List UInt8} (more : List UInt8) (hp : p.length ≤ 65536) : fSize (sealB g k p ++ more) = p.length := by
 unfold fSize
 rw [seal_cons, List.drop_succ_cons, drop_be _ _ _ _ (by omega), drop_be _ _ _ _ (by omega)]
 simp only [Nat.reduceSub, List.drop_zero]
 rw [take_be, unbe_be_of_lt (by omega)]
theorem fSum_seal {g k : Nat} {p : List UInt8} (more : List UInt8) : fSum (sealB g k p ++ more) = crc (headB g k p ++ p) := by
 unfold fSum fSumB
 rw [seal_cons, List.drop_succ_cons, drop_be _ _ _ _ (by omega), drop_be _ _ _ _ (by omega), drop_be _ _ _ _ (by omega)]
 simp only [Nat.reduceSub, List.drop_zero]
 rw [take_be, unbe_be_of_lt (by have := crc_lt (headB g k p ++ p); omega)]
theorem fBody_seal {g k : Nat} {p : List UInt8} (more : List UInt8) (hp : p.length ≤ 65536) : fBody (sealB g k p ++ more) = p := by
 unfold fBody
 rw [fSize_seal more hp, seal_cons, List.drop_succ_cons, drop_be _ _ _ _ (by omega), drop_be _ _ _ _ (by omega), drop_be _ _ _ _ (by omega), drop_be _ _ _ _ (by omega)]
 simp only [Nat.reduceSub, List.drop_zero]
 rw [List.take_append_of_le_length (Nat.le_refl _), List.take_of_length_le (Nat.le_refl _)]
theorem fHead_seal {g k : Nat} {p : List UInt8} (more : List UInt8) : fHead (sealB g k p ++ more) = headB g k p := by
 unfold fHead
 have e : sealB g k p ++ more = 195 :: (headB g k p ++ (be 4 (crc (headB g k p ++ p)) ++ (p ++ more))) := by simp [sealB]
 rw [e, List.drop_succ_cons, List.drop_zero, List.take_append_of_le_length (by rw [headB_length]; omega), List.take_of_length_le (by rw [headB_length]; omega)]
theorem isFrame_seal {g k : Nat} {p : List UInt8} (more : List UInt8) (hg : g ≤ 1099511627776) (hk : k ≤ 2147483647) (hp : p.length ≤ 65536) : isFrame (sealB g k p ++ more) := by
 refine ⟨by rw [List.length_append, sealB_length]; omega, by rw [seal_cons]; rfl, by rw [fGen_seal more hg]; exact hg, by rw [fNo_seal more hk]; exact hk, by rw [fSize_seal more hp]; exact hp, ?_, ?_⟩
 ·
  rw [fSize_seal more hp, List.length_append, sealB_length]; omega
 ·
  rw [fHead_seal, fBody_seal more hp, fSum_seal]
end Cam
