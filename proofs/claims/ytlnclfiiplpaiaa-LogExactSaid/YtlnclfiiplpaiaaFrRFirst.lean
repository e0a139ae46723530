import Derived.Test.YtlnclfiiplpaiaaFrRSealz
/- the reference's First. -/
namespace Cam
open Go Go.RowKit Go.Proofs
def refBad : Value := .tuple #[.int .i64 0, .int .i64 0, .slice none 0 0, .int .i64 0, .bool false]
def RFirstPost (t : TypeId) (w : World) (b : List UInt8) (e : Ending) (w' : World) : Prop :=
 (isFrame b ∧ ∃ v', e = .returned (.tuple #[.int .i64 (fGen b), .int .i64 (fNo b), v', .int .i64 (frLen b : Nat), .bool true]) ∧ OwnB t w' w.heap.size v' (fBody b) ∧ Below w.heap.size w w') ∨
 (¬ isFrame b ∧ e = .returned refBad ∧ Below w.heap.size w w')
theorem RFirstPost.no {t : TypeId} {w w' : World} {b : List UInt8} (h : ¬ isFrame b) (hb : Below w.heap.size w w') : RFirstPost t w b (.returned refBad) w' := Or.inr ⟨h, rfl, hb⟩
set_option maxHeartbeats 1600000 in
theorem refFirst_any (w : World) (v : Value) (b : List UInt8) (h : Bs w v b) :
  Calls Try.prog 79 #[v] w (RFirstPost 5 w b) := by
 obtain ⟨a, cap, rfl, hcap, hm⟩ := h.shape
 by_cases h21 : b.length < 21
 ·
  have Hno : Hid (¬ isFrame b) := fun hf => by have := hf.1; omega
  go_enter Try.func79, Try.ntmps79
  go_wp2
  refine bodyPost_ret (v := refBad) (by simp [results, refBad, Try.results79, go_sem]) rfl (RFirstPost.no Hno.out (Below.refl _ _))
 ·
  obtain ⟨g, off, rfl, _, hc⟩ := h.at (by omega)
  have hc0 := hc 0 (by omega)
  rw [Nat.add_zero] at hc0
  have hb0 : b[0]? = some b[0] := List.getElem?_eq_getElem (by omega)
  by_cases hmark : b[0] = 195
  ·
   have hmark' : ((b[0].toNat : Int) != 195) = false := by rw [hmark]; rfl
   have H1 := Bs.cut1 h 1 9 (n := 8) (c := cap - 1) (by omega) (by omega) (by omega) rfl rfl
   have H2 := Bs.cut1 h 9 13 (n := 4) (c := cap - 9) (by omega) (by omega) (by omega) rfl rfl
   have H3 := Bs.cut1 h 13 17 (n := 4) (c := cap - 13) (by omega) (by omega) (by omega) rfl rfl
   have G1 := Lib.hid H1
   have G2 := Lib.hid H2
   have G3 := Lib.hid H3
   have Gb0 := Lib.hid hb0
   have Gmark := Lib.hid hmark
   clear H1 H2 H3 hb0 hmark hc
   have hc21 : (21 : Int) ≤ b.length := by omega
   have hcc : (17 : Int) ≤ cap := by omega
   go_enter Try.func79, Try.ntmps79
   go_wp2
   go_quiet ((first | exact quiet_left (number_any _ _ _ (Bs.drewN G1.out _) (by simp; omega)) | exact quiet_left (number_any _ _ _ (Bs.drewN G2.out _) (by simp; omega)) | exact quiet_left (number_any _ _ _ (Bs.drewN G3.out _) (by simp; omega))))
   have e1 : unbe ((b.drop 1).take (9 - 1)) = fGen b := rfl
   have e2 : unbe ((b.drop 9).take (13 - 9)) = fNo b := rfl
   have e3 : unbe ((b.drop 13).take (17 - 13)) = fSize b := rfl
   rw [e1, e2, e3]
   clear e1 e2 e3
   obtain ⟨gen, hgen⟩ : ∃ x, x = fGen b := ⟨_, rfl⟩
   obtain ⟨no, hno⟩ : ∃ x, x = fNo b := ⟨_, rfl⟩
   obtain ⟨size, hsize⟩ : ∃ x, x = fSize b := ⟨_, rfl⟩
   rw [← hgen, ← hno, ← hsize]
   have hgl : gen < 18446744073709551616 := by
    rw [hgen]
    refine Nat.lt_of_lt_of_le (unbe_lt _) ?_
    rw [List.length_take, List.length_drop, show min 8 (b.length - 1) = 8 by omega]
    decide
   have hnl : no < 4294967296 := by
    rw [hno]
    refine Nat.lt_of_lt_of_le (unbe_lt _) ?_
    rw [List.length_take, List.length_drop, show min 4 (b.length - 9) = 4 by omega]
    decide
   have hsl : size < 4294967296 := by
    rw [hsize]
    refine Nat.lt_of_lt_of_le (unbe_lt _) ?_
    rw [List.length_take, List.length_drop, show min 4 (b.length - 13) = 4 by omega]
    decide
   have Hgen := Lib.hid hgen
   have Hno' := Lib.hid hno
   have Hsize := Lib.hid hsize
   clear hgen hno hsize
   have hbq : Below w.heap.size w (w.drewN nq) := below_drewN' (Below.refl _ _) nq
   by_cases c1 : (1099511627776 : Int) < gen
   ·
    have Hno : Hid (¬ isFrame b) := fun hf => by have := hf.2.2.1; rw [← Hgen.out] at this; omega
    go_wp2
    refine bodyPost_ret (v := refBad) (by simp [results, refBad, Try.results79, go_sem]) rfl (RFirstPost.no Hno.out hbq)
   by_cases c2 : (2147483647 : Int) < no
   ·
    have Hno : Hid (¬ isFrame b) := fun hf => by have := hf.2.2.2.1; rw [← Hno'.out] at this; omega
    go_wp2
    refine bodyPost_ret (v := refBad) (by simp [results, refBad, Try.results79, go_sem]) rfl (RFirstPost.no Hno.out hbq)
   by_cases c3 : (65536 : Int) < size
   ·
    have Hno : Hid (¬ isFrame b) := fun hf => by have := hf.2.2.2.2.1; rw [← Hsize.out] at this; omega
    go_wp2
    refine bodyPost_ret (v := refBad) (by simp [results, refBad, Try.results79, go_sem]) rfl (RFirstPost.no Hno.out hbq)
   by_cases c4 : (b.length : Int) - 21 < size
   ·
    have Hno : Hid (¬ isFrame b) := fun hf => by have := hf.2.2.2.2.2.1; rw [← Hsize.out] at this; omega
    go_wp2
    refine bodyPost_ret (v := refBad) (by simp [results, refBad, Try.results79, go_sem]) rfl (RFirstPost.no Hno.out hbq)
   go_wp2
   have H4 : Bs w (.slice (some ⟨g, off + 1, none⟩) 16 (cap - 1)) (fHead b) := Bs.cut1 h 1 17 (by omega) (by omega) (by omega) rfl rfl
   have H6 : Bs w (.slice (some ⟨g, off + 17, none⟩) 4 (cap - 17)) (fSumB b) := Bs.cut1 h 17 21 (by omega) (by omega) (by omega) rfl rfl
   have h6l : (fSumB b).length ≤ 8 := by unfold fSumB; rw [List.length_take]; omega
   obtain ⟨A5, hA5, H5⟩ : ∃ A5 : Option Addr, (if cap = 21 then (some ⟨g, off, none⟩ : Option Addr) else some ⟨g, off + 21, none⟩) = A5 ∧ Bs w (.slice A5 size (cap - 21)) (fBody b) := by
    refine ⟨_, rfl, ?_⟩
    have := h.cut 21 (21 + size) (by omega) (by omega)
    rw [show 21 + size - 21 = size by omega] at this
    unfold fBody
    rw [← Hsize.out]
    simpa [add_none] using this
   have hbl : (fBody b).length = size := by
    unfold fBody
    rw [← Hsize.out, List.length_take, List.length_drop]
    omega
   have Hbl := Lib.hid hbl
   have G4 := Lib.hid H4
   have G5 := Lib.hid H5
   have G6 := Lib.hid H6
   clear H4 H5 H6 hbl
   have hclt := crc_lt (fHead b ++ fBody b)
   have hlen1 : ([] : List UInt8).length + (fHead b).length ≤ 140737488355328 := by unfold fHead; rw [List.length_take]; simp only [List.length_nil]; omega
   have hlen2 : ([] ++ fHead b).length + (fBody b).length ≤ 140737488355328 := by rw [Hbl.out, List.nil_append]; unfold fHead; rw [List.length_take]; omega
   have G4' : Hid (Bs w (.slice (if cap = 1 then some ⟨g, off, none⟩ else some ⟨g, off + 1, none⟩) 16 (cap - 1)) (fHead b)) := by
    show Bs _ _ _
    rw [if_neg (by omega)]
    exact G4.out
   have hq1 : (0 : Int) ≤ (size : Int) + 21 ∧ (size : Int) + 21 ≤ cap := by omega
   have hq2 : (21 : Int) ≤ max ((size : Int) + 21) 0 := by omega
   have hcap1 : ¬ cap = 1 := by omega
   have hq4 : (21 : Int) ≤ (size : Int) + 21 := by omega
   have hq3 : ((size : Int) + 21).toNat = size + 21 := by omega
   go_cut [11] (fun s11 wx => ∃ a' n' cap', s11 = .slice a' n' cap' ∧ OwnB 5 wx w.heap.size (.slice a' n' cap') (fHead b ++ fBody b) ∧ Below w.heap.size w wx)
   case first =>
    go_region_law (first
     | (refine step_append_bytes (l := []) (m := fHead b) (vx := .slice (some ⟨g, off + 1, none⟩) 16 (cap - 1)) (v := .slice none 0 0) (base := w.heap.size) rfl (.tmp 52) (.tmp 54) 22 rfl elem_u8 (by simp [Act.eval, Act.put]) (by simp [Act.eval, Act.put]) (OwnB.empty _ _ _) ?_ ?_ ?_ ?_; (repeat (first | with_reducible exact G4.out | with_reducible refine Bs.alloc ?_ _ | with_reducible refine Bs.drewN ?_ _ | with_reducible refine Bs.drew ?_)); (exact hlen1); (exact Nat.le_refl _); intro a3 n3 c3 w3 Hn3 ho3 hb3 _; have hg5 := Bs.monoB (Bs.drewN G5.out (nq + 1)) hb3 (Nat.le_refl _))
     | (have ho3' := ho3; refine step_append_bytes (l := [] ++ fHead b) (m := fBody b) (vx := .slice A5 size (cap - 21)) (v := .slice a3 n3 c3) (base := w.heap.size) rfl (.tmp 55) (.tmp 58) 22 rfl elem_u8 (by simp [Act.eval]) (by simp [Act.eval]) ho3 ?_ ?_ ?_ ?_; (exact hg5); (exact hlen2); (exact hb3.size); intro a4 n4 c4 w4 Hn4 ho4 hb4 _))
    go_wp2_with fail
    go_meet
    have hb34 := hb3.trans hb4
    exact ⟨a4, n4, c4, rfl, ho4, ⟨hb34.os, hb34.tape, hb34.output, hb34.size, hb34.block⟩⟩
   case rest =>
    obtain ⟨a', n', cap', rfl, hox, hbx⟩ := hcut
    have Gx := Lib.hid hox.bs
    have G6x := Lib.hid (G6.out.mono hbx)
    obtain ⟨c, hcd⟩ : ∃ c, c = crc (fHead b ++ fBody b) := ⟨_, rfl⟩
    obtain ⟨sm, hsm⟩ : ∃ sm, sm = unbe (fSumB b) := ⟨_, rfl⟩
    have hsx := hbx.size
    rw [← hcd] at hclt
    have hbody : Sl wc (.slice A5 size (cap - 21)) 1 size (bvs (fBody b)) := by
     have := (G5.out).mono hbx
     unfold Bs at this
     rw [Hbl.out] at this
     exact this
    by_cases hsum : c = sm
    ·
     have hf : isFrame b := ⟨by omega, by rw [Gb0.out, Gmark.out], by rw [← Hgen.out]; omega, by rw [← Hno'.out]; omega, by rw [← Hsize.out]; omega, by rw [← Hsize.out]; omega, by rw [← hcd, hsum, hsm]; rfl⟩
     have hc1 : ((c : Int) != (sm : Int)) = false := by rw [cmp_nat]; simp [hsum]
     have hc2 : (IntKind.u64.wrap (c : Int) != (sm : Int)) = false := by rw [cmp_wrap _ _ hclt]; simp [hsum]
     have Hf := Lib.hid hf
     have Hcd := Lib.hid hcd
     have Hsm := Lib.hid hsm
     clear hf hcd hsm hsum
     have HS : Hid (∀ n, Calls Try.prog 48 #[.slice a' n' cap'] (wc.drewN n) fun e w' => e = .returned (.int .u32 c) ∧ wc.drewN n = w') := fun n => by
      rw [Hcd.out]
      exact refSum_any _ _ _ (Bs.drewN Gx.out n)
     have HN : Hid (∀ n, Calls Try.prog 80 #[.slice (some ⟨g, off + 17, none⟩) 4 (cap - 17)] (wc.drewN n) fun e w' => e = .returned (.int .u64 sm) ∧ wc.drewN n = w') := fun n => by
      rw [Hsm.out]
      exact number_any _ _ _ (Bs.drewN G6x.out n) h6l
     go_wp2_with fail
     go_quiet ((first | (go_at_call 48; exact quiet_left (HS.out _)) | (go_at_call 80; exact quiet_left (HN.out _))))
     have hbody' : Sl (wc.drewN nq) (.slice A5 (size + 21 - 21) (cap - 21)) 1 size (bvs (fBody b)) := by
      rw [Nat.add_sub_cancel]
      exact hbody.mono (below_drewN' (Below.refl _ _) nq)
     have hbxq := below_drewN' hbx nq
     have hsxq : w.heap.size ≤ (wc.drewN nq).heap.size := hsx
     go_wp2_with (at_builtin; refine wpList_append_sl (n := 0) (m := size) rfl (.tmp 71) (.tmp 74) 22 rfl elem_u8 rfl rfl (World.ownsRow_nil _ w.heap.size _ _) hbody' (bs_oneCell _) (by unfold maxLen; omega) (by omega) hsxq ?_; intro a2 cap2 w2 hown2 hg2 hb2)
     have hown3 : OwnB 5 w2 w.heap.size (.slice a2 (0 + size) cap2) (fBody b) := by
      unfold OwnB
      rw [Hbl.out]
      simpa using hown2
     refine bodyPost_ret (v := .tuple #[.int .i64 gen, .int .i64 no, .slice a2 (0 + size) cap2, .int .i64 ((size : Int) + 21), .bool true]) (by simp [results, Try.results79, go_sem]) rfl (Or.inl ⟨Hf.out, _, ?_, hown3, hbxq.trans hb2⟩)
     have hfl : ((frLen b : Nat) : Int) = (size : Int) + 21 := by unfold frLen; rw [← Hsize.out]; omega
     rw [← Hgen.out, ← Hno'.out, hfl]
    ·
     have Hno : Hid (¬ isFrame b) := fun hf => hsum (by rw [hcd, hf.2.2.2.2.2.2, hsm]; rfl)
     have hc1 : ((c : Int) != (sm : Int)) = true := by rw [cmp_nat]; simp [hsum]
     have hc2 : (IntKind.u64.wrap (c : Int) != (sm : Int)) = true := by rw [cmp_wrap _ _ hclt]; simp [hsum]
     have Hcd := Lib.hid hcd
     have Hsm := Lib.hid hsm
     clear hcd hsm hsum
     have HS : Hid (∀ n, Calls Try.prog 48 #[.slice a' n' cap'] (wc.drewN n) fun e w' => e = .returned (.int .u32 c) ∧ wc.drewN n = w') := fun n => by
      rw [Hcd.out]
      exact refSum_any _ _ _ (Bs.drewN Gx.out n)
     have HN : Hid (∀ n, Calls Try.prog 80 #[.slice (some ⟨g, off + 17, none⟩) 4 (cap - 17)] (wc.drewN n) fun e w' => e = .returned (.int .u64 sm) ∧ wc.drewN n = w') := fun n => by
      rw [Hsm.out]
      exact number_any _ _ _ (Bs.drewN G6x.out n) h6l
     go_wp2_with fail
     go_quiet ((first | (go_at_call 48; exact quiet_left (HS.out _)) | (go_at_call 80; exact quiet_left (HN.out _))))
     go_wp2
     refine bodyPost_ret (v := refBad) (by simp [results, refBad, Try.results79, go_sem]) rfl (RFirstPost.no Hno.out (below_drewN' hbx _))
  ·
   have Hno : Hid (¬ isFrame b) := fun hf => by
    have := hf.2.1
    rw [hb0] at this
    exact hmark (Option.some.inj this)
   have hmark' : ((b[0].toNat : Int) != 195) = true := by
    rw [bne_iff_ne]
    intro e
    exact hmark (UInt8.toNat_inj.1 (by have : b[0].toNat = 195 := (by omega); rw [this]; rfl))
   clear hmark hc hb0
   go_enter Try.func79, Try.ntmps79
   go_wp2
   refine bodyPost_ret (v := refBad) (by simp [results, refBad, Try.results79, go_sem]) rfl (RFirstPost.no Hno.out (Below.refl _ _))
end Cam
