import Derived.Test.YtlnclfiiplpaiaaPdY
import Derived.Test.YtlnclfiiplpaiaaDkCz
/- the page's disk: Crash. -/
namespace Cam
open Go Go.RowKit Go.Proofs
theorem flatW_byte {L : List (List UInt8)} (hL : ∀ b ∈ L, b.length = 64) {k : Nat} (hk : k < L.length) {j : Nat} (hj : j < 64) (c : UInt8) : (flatW bvs L).set (k * 64 + j) (.int .u8 (c.toNat : Int)) = flatW bvs (L.set k (L[k].set j c)) := by
 have hW : ∀ a ∈ L, (bvs a).length = 64 := fun a ha => by rw [bvs_length]; exact hL a ha
 have h64 : L[k].length = 64 := hL _ (List.getElem_mem hk)
 have hlen : (flatW bvs L).length = L.length * 64 := flatW_length hW
 have hkk : k * 64 + 64 ≤ L.length * 64 := by have := Nat.mul_le_mul_right 64 hk; rw [Nat.succ_mul] at this; exact this
 rw [← flatW_set hW hk (L[k].set j c) (by rw [bvs_length, List.length_set, h64])]
 apply List.ext_getElem?
 intro i
 have hat : ∀ q, q < 64 → (flatW bvs L)[k * 64 + q]? = (bvs L[k])[q]? := fun q hq => by
  have hq2 : q < (bvs L[k]).length := by rw [bvs_length, h64]; exact hq
  rw [List.getElem?_eq_getElem hq2]
  exact flatW_at hW hk q _ (List.getElem?_eq_getElem hq2)
 have hr : (bvs (L[k].set j c)).length = 64 := by rw [bvs_length, List.length_set, h64]
 have hR : (splice (flatW bvs L) (k * 64) (bvs (L[k].set j c)))[i]? = if i < k * 64 then (flatW bvs L)[i]? else if i - k * 64 < 64 then (bvs (L[k].set j c))[i - k * 64]? else (flatW bvs L)[i]? := by
  unfold splice
  rw [List.getElem?_append, List.getElem?_append, List.length_take, hlen, hr, Nat.min_eq_left (by omega), List.getElem?_take, List.getElem?_drop]
  by_cases h1 : i < k * 64
  ·
   simp only [h1, if_true]
  ·
   simp only [h1, if_false]
   by_cases h2 : i - k * 64 < 64
   ·
    simp only [h2, if_true]
   ·
    simp only [h2, if_false]
    congr 1
    omega
 rw [hR, List.getElem?_set, hlen]
 by_cases h1 : i < k * 64
 ·
  rw [if_pos h1, if_neg (by omega)]
 ·
  rw [if_neg h1]
  by_cases h2 : i - k * 64 < 64
  ·
   rw [if_pos h2]
   obtain ⟨q, rfl⟩ : ∃ q, i = k * 64 + q := ⟨i - k * 64, by omega⟩
   rw [show k * 64 + q - k * 64 = q by omega] at h2 ⊢
   have e : (bvs (L[k].set j c))[q]? = if j = q then some (.int .u8 (c.toNat : Int)) else (bvs L[k])[q]? := by
    unfold bvs
    rw [List.getElem?_map, List.getElem?_set, List.getElem?_map]
    by_cases h3 : j = q
    ·
     subst h3
     rw [if_pos rfl, if_pos rfl, if_pos (by omega)]
     rfl
    ·
     rw [if_neg h3, if_neg h3]
   rw [e]
   by_cases h3 : j = q
   ·
    subst h3
    rw [if_pos rfl, if_pos rfl, if_pos (by omega)]
   ·
    rw [if_neg h3, if_neg (by omega), hat q h2]
  ·
   rw [if_neg h2, if_neg (by omega)]
theorem mixB_step {j : Nat} {old new : List UInt8} (h1 : old.length = 64) (h2 : new.length = 64) (hj : j < 64) : (mixB j old new).set j (new.getD j 0) = mixB (j + 1) old new := by
 apply List.ext_getElem?
 intro i
 unfold mixB
 rw [List.getElem?_set, List.getElem?_append, List.getElem?_append]
 simp only [List.length_append, List.length_take, List.length_drop, h1, h2]
 by_cases h3 : j = i
 ·
  subst h3
  rw [if_pos rfl, if_pos (by omega), if_pos (by omega), List.getElem?_take_of_lt (by omega), List.getD_eq_getElem?_getD, List.getElem?_eq_getElem (by omega)]
  rfl
 ·
  rw [if_neg h3]
  by_cases h4 : i < j
  ·
   rw [if_pos (by omega), if_pos (by omega), List.getElem?_take_of_lt h4, List.getElem?_take_of_lt (by omega)]
  ·
   rw [if_neg (by omega), if_neg (by omega), List.getElem?_drop, List.getElem?_drop]
   congr 1
   omega
theorem PMem.byte {w : World} {g gs : Nat} {vo : Value} {n : Nat} {D : DK} (h : PMem w g gs vo n D) {k : Nat} (hk : k < n) {j : Nat} (hj : j < 64) (c : UInt8) :
  PMem (w.setCell ⟨gs, k * 64 + j, none⟩ (.int .u8 (c.toNat : Int))) g gs vo n { D with syn := D.syn.set k ((D.syn.getD k []).set j c) } := by
 have hkn : k < D.syn.length := by rw [h.ok.syn.1]; exact hk
 have hkk := keptG w gs (k * 64 + j) (.int .u8 (c.toNat : Int))
 have e : D.syn.getD k [] = D.syn[k] := by rw [List.getD_eq_getElem?_getD, List.getElem?_eq_getElem hkn]; rfl
 rw [e]
 refine ⟨h.hd.keptJ hkk h.ne, ?_, h.ho.keptJ hkk (fun z hz => (h.own hz).2.1), ⟨h.ok.n1, ⟨by simp [h.ok.syn.1], fun x hx => ?_⟩, h.ok.now, h.ok.op, h.ok.few, h.ok.arm⟩⟩
 ·
  have := h.hs.put (k * 64 + j) (.int .u8 (c.toNat : Int))
  rw [flatW_byte h.ok.syn.2 hkn hj c] at this
  exact this
 ·
  rcases List.mem_or_eq_of_mem_set hx with e | rfl
  ·
   exact h.ok.syn.2 x e
  ·
   rw [List.length_set]
   exact h.ok.syn.2 _ (List.getElem_mem hkn)
theorem pick_of {p : Int} {p1 : Int} (h : p1 = if p.tmod 66 < 0 then p.tmod 66 + 66 else p.tmod 66) : (0 ≤ p1 ∧ p1 ≤ 65) ∧ (min (max (((p.tmod 66) + 66).tmod 66 - 1) 0) 64).toNat = (if p1 < 65 then (max (p1 - 1) 0).toNat else 64) := by
 have hb1 := Int.tmod_lt_of_pos p (by omega : (0 : Int) < 66)
 have hb2 : -66 < p.tmod 66 := by
  rw [Int.tmod_eq_emod]
  split <;> omega
 obtain ⟨r, hr⟩ : ∃ r, p.tmod 66 = r := ⟨_, rfl⟩
 rw [hr] at hb1 hb2 h ⊢
 have hb3 := Int.tmod_lt_of_pos (r + 66) (by omega : (0 : Int) < 66)
 have hb4 := Int.tmod_nonneg 66 (by omega : (0 : Int) ≤ r + 66)
 rw [Int.tmod_eq_emod_of_nonneg (by omega)] at hb3 hb4 ⊢
 subst h
 split <;> split <;> refine ⟨by omega, by omega⟩
set_option maxHeartbeats 6400000 in
set_option maxRecDepth 100000 in
theorem pcrash_any (w : World) (g gs : Nat) (vo : Value) (n : Nat) (D : DK) (h : PMem w g gs vo n D) (vp : Value) (picks : List Int) (hp : ∀ w', Kept (PS g gs vo) w w' → Is w' vp picks) :
  Calls Try.prog 35 #[.pointer (some ⟨g, 0, none⟩), vp] w fun e w' => e = .returned (.tuple #[]) ∧ PPost w g gs vo n (dCrash D picks) w' := by
 obtain ⟨a, q, c, rfl, _⟩ := h.ho.named
 obtain ⟨hq, _⟩ := h.opAt
 obtain ⟨ap, cp, rfl, hcp, hmp⟩ := (hp w (Kept.refl _ _)).shape
 obtain ⟨m, hm⟩ : ∃ z, z = picks.length := ⟨_, rfl⟩
 rw [← hm] at hp hcp ⊢
 have HP := Lib.hid hp
 have HM := Lib.hid hm
 have HQ := Lib.hid hq
 have hfz := h.hd.frozen
 obtain ⟨_, _, _, hc3, hc4, hc5⟩ := h.cells
 have h3 : PMem (w.setCell ⟨g, 3, none⟩ (.bool true)) g gs (.slice a q c) n { D with off := true } := h.put rfl rfl rfl rfl h.ok.arm
 have h5 : PMem ((w.setCell ⟨g, 3, none⟩ (.bool true)).setCell ⟨g, 5, none⟩ (.bool false)) g gs (.slice a q c) n { D with off := true, torn := false } := h3.put rfl rfl rfl rfl h.ok.arm
 have h4 : PMem (((w.setCell ⟨g, 3, none⟩ (.bool true)).setCell ⟨g, 5, none⟩ (.bool false)).setCell ⟨g, 4, none⟩ (.int .i64 0)) g gs (.slice a q c) n { D with off := true, torn := false, arm := 0 } := h5.put rfl rfl rfl rfl ⟨by show (0 : Int) ≤ 0; decide, by show (0 : Int) ≤ _; decide⟩
 obtain ⟨w0, hw0⟩ : ∃ z, z = ((w.setCell ⟨g, 3, none⟩ (.bool true)).setCell ⟨g, 5, none⟩ (.bool false)).setCell ⟨g, 4, none⟩ (.int .i64 0) := ⟨_, rfl⟩
 have hk0 : Kept (PS g gs (.slice a q c)) w w0 := by
  rw [hw0]
  exact (((keptG _ _ _ _).trans (keptG _ _ _ _) (fun _ _ e => e)).trans (keptG _ _ _ _) (fun _ _ e => e)).weaken (fun _ e => .inl e)
 rw [← hw0] at h4
 have HP4 := Lib.hid h4
 have HK0 := Lib.hid hk0
 have hD : dCrash D picks = { syn := crashTo D.op picks D.syn q, now := crashTo D.op picks D.syn q, op := [], off := true, arm := 0, torn := false } := by unfold dCrash; rw [hq]
 have HD := Lib.hid hD
 have HLE : Hid (q ≤ 1000000) := by show _ ≤ _; rw [hq]; exact h.ok.few
 have HN1 : Hid (n ≤ 65536) := h.ok.n1
 clear h h3 h5 h4 hk0 hD hm hq hp
 go_enter Try.func35, Try.ntmps35
 go_wp2_with fail
 rw [← hw0]
 clear hw0 hc3 hc4 hc5 hfz
 go_loopw [4] (fun x wr => ∃ i : Nat, i ≤ q ∧ x = .int .i64 i ∧ PMem wr g gs (.slice a q c) n { D with off := true, torn := false, arm := 0, syn := crashTo D.op picks D.syn i } ∧ Kept (PS g gs (.slice a q c)) w wr) (fun x _ => q - (intOf x).toNat)
 case atStart => exact ⟨0, Nat.zero_le _, rfl, HP4.out, HK0.out⟩
 case round =>
  obtain ⟨i, hi, rfl, hpr, hkr⟩ := hrel
  have HKO := Lib.hid hkr
  have HPO := Lib.hid hpr
  have hc2 := hpr.cells.2.2.1
  have hlq := HLE.out
  by_cases hlt : i < q
  ·
   obtain ⟨hq2, hop2⟩ := hpr.opAt
   have hil : i < D.op.length := by have := HQ.out; omega
   obtain ⟨bo, rfl, k1, k2, k3, hel⟩ := hop2 (by show 0 < D.op.length; omega)
   obtain ⟨k4, k5, k6, k7⟩ := hel i hil
   obtain ⟨x, hx⟩ : ∃ z, z = D.op[i] := ⟨_, rfl⟩
   obtain ⟨xk, xb⟩ := x
   have hxk : D.op[i].1 = xk := by rw [← hx]
   have hxb : D.op[i].2 = xb := by rw [← hx]
   obtain ⟨SJ, hSJ⟩ : ∃ z, z = crashTo D.op picks D.syn i := ⟨_, rfl⟩
   obtain ⟨ob, hob⟩ : ∃ z, z = SJ.getD xk [] := ⟨_, rfl⟩
   have k4' : xk < n := by rw [← hxk]; exact k4
   have k5' : xb.length = 64 := by rw [← hxb]; exact k5
   have hsl : SJ.length = n ∧ ∀ b ∈ SJ, b.length = 64 := by rw [hSJ]; exact hpr.ok.syn
   have hob2 : ob = SJ[xk]'(by omega) := by rw [hob, List.getD_eq_getElem?_getD, List.getElem?_eq_getElem (by omega)]; rfl
   have ho64 : ob.length = 64 := by rw [hob2]; exact hsl.2 _ (List.getElem_mem _)
   have hnx : crashTo D.op picks D.syn (i + 1) = SJ.set xk (mixB (pickN picks i) ob xb) := by
    rw [crashTo, List.getElem?_eq_getElem hil, ← hx, ← hSJ, hob]
   have k6' : ∀ w', Below wr.heap.size wr w' → w'.cell? ⟨bo, i * 65, none⟩ = some (.int .i64 (xk : Int)) := fun w' hb => by
    rw [← hxk]
    exact (Below.cell (p := ⟨bo, i * 65, none⟩) hb k3).trans k6
   have H4 := Lib.hid k4'
   have H5 := Lib.hid k5'
   have HNX := Lib.hid hnx
   have HSL := Lib.hid hsl
   have HOB : Hid (SJ.getD xk [] = ob) := hob.symm
   have HO64 := Lib.hid ho64
   have HXE : Hid (D.op[i]'hil = (xk, xb)) := hx.symm
   have HSJ := Lib.hid hSJ
   have hi0 : (0 : Int) ≤ i ∧ (i : Int) < q ∧ (q : Int) ≤ 1000000 := by omega
   rw [← hSJ] at hpr
   have HPS := Lib.hid hpr
   clear hop2 hq2 k1 k2 k3 hel k4 k5 k6 k7 hx hxk hxb hSJ hob hob2 k4' k5' hsl ho64 hnx k6' hpr hkr HPO
   by_cases him : i < m
   ·
    have him0 : (i : Int) < m := by omega
    obtain ⟨bp, op, rfl, hltp, hcell⟩ := (HP.out wr HKO.out).at (by have := HM.out; omega)
    have hcp2 := hcell i (by have := HM.out; omega)
    obtain ⟨p9, hp9⟩ : ∃ z, z = picks[i]'(by have := HM.out; omega) := ⟨_, rfl⟩
    rw [← hp9] at hcp2
    have hpk : pickN picks i = (min (max (((p9.tmod 66) + 66).tmod 66 - 1) 0) 64).toNat := by unfold pickN; rw [List.getElem?_eq_getElem (by have := HM.out; omega), hp9]
    obtain ⟨p1, hp1⟩ : ∃ z, z = if p9.tmod 66 < 0 then p9.tmod 66 + 66 else p9.tmod 66 := ⟨_, rfl⟩
    obtain ⟨hpb, hpv⟩ := pick_of hp1
    rw [hpv] at hpk
    obtain ⟨r, hr⟩ : ∃ r, p9.tmod 66 = r := ⟨_, rfl⟩
    have hrb : -66 < r ∧ r < 66 := by
     rw [← hr]
     refine ⟨?_, Int.tmod_lt_of_pos p9 (by omega)⟩
     rw [Int.tmod_eq_emod]
     split <;> omega
    rw [hr] at hp1
    clear hcell hpv hp9 hltp
    by_cases hneg : r < 0
    ·
     rw [if_pos hneg] at hp1
     by_cases h65 : p1 < 65
     ·
      obtain ⟨N, hN⟩ : ∃ N : Nat, max (p1 - 1) 0 = (N : Int) := ⟨(max (p1 - 1) 0).toNat, by omega⟩
      have HNN : Hid (N = pickN picks i) := by show N = _; rw [hpk, if_pos h65, hN]; simp
      have h65' : r + 66 < 65 := by omega
      have hN' : max (r + 66 - 1) 0 = (N : Int) := by rw [← hp1]; exact hN
      clear hpk hpb hp1 h65 hN
      go_wp2_with fail
      clear hc2
      have e0 : SJ.set xk (mixB 0 ob xb) = SJ := by
       have e1 : mixB 0 ob xb = ob := by simp [mixB]
       rw [e1, ← HOB.out, List.getD_eq_getElem?_getD, List.getElem?_eq_getElem (by rw [HSL.out.1]; exact H4.out)]
       simp
      have HE0 := Lib.hid e0
      clear e0
      go_loopw [7] (fun y wr => ∃ j : Nat, j ≤ N ∧ y = .int .i64 j ∧ PMem wr g gs (.slice (some ⟨bo, 0, none⟩) q c) n { D with off := true, torn := false, arm := 0, syn := SJ.set xk (mixB j ob xb) } ∧ Kept (PS g gs (.slice (some ⟨bo, 0, none⟩) q c)) w wr) (fun y _ => N - (intOf y).toNat)
      case atStart => exact ⟨0, Nat.zero_le _, rfl, by rw [HE0.out]; exact HPS.out, HKO.out⟩
      case round =>
       obtain ⟨j, hj, rfl, hpr, hkr⟩ := hrel
       have HPR := Lib.hid hpr
       have HKR := Lib.hid hkr
       have HN64 : Hid (N ≤ 64) := by show _ ≤ _; have := HNN.out; have := pickN_le picks i; omega
       by_cases hjl : j < N
       ·
        have hj64 : j < 64 := by have := HN64.out; omega
        obtain ⟨hq3, hop2⟩ := hpr.opAt
        clear hq3
        have hil : i < D.op.length := by have := HQ.out; omega
        obtain ⟨bo2, hbo2, k1, k2, k3, hel⟩ := hop2 (by show 0 < D.op.length; omega)
        obtain ⟨k4, k5, k6, k7⟩ := hel i hil
        simp only [Option.some.injEq, Addr.mk.injEq, and_true] at hbo2
        subst hbo2
        obtain ⟨cc, hcc⟩ : ∃ z, z = xb.getD j 0 := ⟨_, rfl⟩
        have k6' : wr.cell? ⟨bo, i * 65, none⟩ = some (.int .i64 (xk : Int)) := by have h8 := k6; simp only [HXE.out] at h8; exact h8
        have k7' : wr.cell? ⟨bo, i * 65 + 1 + j, none⟩ = some (.int .u8 (cc.toNat : Int)) := by
         have h8 := k7
         simp only [HXE.out] at h8
         refine h8 j _ ?_
         have hjb : j < xb.length := by rw [H5.out]; exact hj64
         rw [hcc, List.getD_eq_getElem?_getD, List.getElem?_eq_getElem hjb]
         simp [bvs, hjb]
        have HC1 := Lib.hid hpr.cells.2.1
        have HC2 := Lib.hid hpr.cells.2.2.1
        have HCA := Lib.hid k6'
        have HCC := Lib.hid k7'
        have HXN : Hid (xk < n) := H4.out
        have HJ64 : Hid (j < 64) := hj64
        have hml : ∀ y, y ≤ 64 → (mixB y ob xb).length = 64 := fun y hy => mixB_length HO64.out H5.out hy
        have HIX : Hid (xk * 64 + j < (flatW bvs (SJ.set xk (mixB j ob xb))).length) := by
         show _ < _
         rw [flatW_length (W := 64) (fun a ha => by rw [bvs_length]; exact hpr.ok.syn.2 a ha), List.length_set, HSL.out.1]
         have := Nat.mul_le_mul_right 64 (show xk + 1 ≤ n from H4.out)
         rw [Nat.succ_mul] at this
         omega
        have HSTEP : Hid ((SJ.set xk (mixB j ob xb)).set xk (((SJ.set xk (mixB j ob xb)).getD xk []).set j cc) = SJ.set xk (mixB (j + 1) ob xb)) := by
         show _ = _
         have hx2 : xk < SJ.length := by rw [HSL.out.1]; exact H4.out
         rw [List.getD_eq_getElem?_getD, List.getElem?_set_self hx2]
         show (SJ.set xk (mixB j ob xb)).set xk ((mixB j ob xb).set j cc) = _
         rw [List.set_set, hcc, mixB_step HO64.out H5.out hj64]
        have hj0 : (0 : Int) ≤ j ∧ (j : Int) < N ∧ (j : Int) < 64 := by omega
        have hx0 : (0 : Int) ≤ xk ∧ (xk : Int) < n := by have := H4.out; omega
        have hi1 : (0 : Int) ≤ i ∧ (i : Int) < q := by omega
        clear hpr hkr hop2 k1 k2 k3 k4 k5 k6 k7 hel k6' k7' hml hcc
        go_wp2_with fail
        refine wp_region_bl 25 (by kernel_rfl) ?_
        refine wpAnyU_take (i := 0) (oi := { dst := some 49, op := Op.move (Operand.tmp 0), type := 67, pos := "ref.go:111", after := #[], guard := none }) (v := (.pointer (some ⟨g, 0, none⟩))) rfl (by kernel_rfl) (by kernel_rfl) (by kernel_rfl) (by kernel_rfl) (by kernel_rfl) (fun _ _ _ h => h) (BL.cls wr) ?_ ?_
        ·
         refine Or.inl ⟨rfl, fun w hSw => ?_⟩
         exact EffR.same (by go_simp)
        try simp only [Act.put, zA, zB, zC]
        refine wpAnyU_take (i := 1) (oi := { dst := some 50, op := Op.nilCheck (Operand.tmp 49), type := 0, pos := "ref.go:111", after := #[{ on := 0, ground := Ground.data }], guard := none }) (v := (.pointer (some ⟨g, 0, none⟩))) rfl (by kernel_rfl) (by kernel_rfl) (by kernel_rfl) (by kernel_rfl) (by kernel_rfl) (fun _ _ _ h => h) (BL.cls wr) ?_ ?_
        ·
         refine Or.inl ⟨rfl, fun w hSw => ?_⟩
         exact EffR.same (by go_simp)
        try simp only [Act.put, zA, zB, zC]
        refine wpAnyU_take (i := 2) (oi := { dst := some 51, op := Op.fieldAddr 78 (Operand.tmp 50) 1, type := 0, pos := "ref.go:111", after := #[{ on := 1, ground := Ground.data }], guard := none }) (v := (.pointer (some ⟨g, 1, none⟩))) rfl (by kernel_rfl) (by kernel_rfl) (by kernel_rfl) (by kernel_rfl) (by kernel_rfl) (fun _ _ _ h => h) (BL.cls wr) ?_ ?_
        ·
         refine Or.inl ⟨rfl, fun w hSw => ?_⟩
         exact EffR.same (by go_simp)
        try simp only [Act.put, zA, zB, zC]
        refine wpAnyU_take (i := 3) (oi := { dst := some 52, op := Op.load 75 (Operand.tmp 51), type := 75, pos := "ref.go:111", after := #[{ on := 2, ground := Ground.data }], guard := none }) (v := (.slice (some ⟨gs, 0, none⟩) n n)) rfl (by kernel_rfl) (by kernel_rfl) (by kernel_rfl) (by kernel_rfl) (by kernel_rfl) (fun _ _ _ h => h) (BL.cls wr) ?_ ?_
        ·
         refine Or.inl ⟨rfl, fun w hSw => ?_⟩
         have e0 := BL.cell hSw HC1.out
         exact EffR.same (by go_simp)
        try simp only [Act.put, zA, zB, zC]
        refine wpAnyU_take (i := 4) (oi := { dst := some 53, op := Op.move (Operand.tmp 0), type := 67, pos := "ref.go:111", after := #[], guard := none }) (v := (.pointer (some ⟨g, 0, none⟩))) rfl (by kernel_rfl) (by kernel_rfl) (by kernel_rfl) (by kernel_rfl) (by kernel_rfl) (fun _ _ _ h => h) (BL.cls wr) ?_ ?_
        ·
         refine Or.inl ⟨rfl, fun w hSw => ?_⟩
         exact EffR.same (by go_simp)
        try simp only [Act.put, zA, zB, zC]
        refine wpAnyU_take (i := 5) (oi := { dst := some 54, op := Op.nilCheck (Operand.tmp 53), type := 0, pos := "ref.go:111", after := #[{ on := 4, ground := Ground.data }], guard := none }) (v := (.pointer (some ⟨g, 0, none⟩))) rfl (by kernel_rfl) (by kernel_rfl) (by kernel_rfl) (by kernel_rfl) (by kernel_rfl) (fun _ _ _ h => h) (BL.cls wr) ?_ ?_
        ·
         refine Or.inl ⟨rfl, fun w hSw => ?_⟩
         exact EffR.same (by go_simp)
        try simp only [Act.put, zA, zB, zC]
        refine wpAnyU_take (i := 6) (oi := { dst := some 55, op := Op.fieldAddr 78 (Operand.tmp 54) 2, type := 0, pos := "ref.go:111", after := #[{ on := 5, ground := Ground.data }], guard := none }) (v := (.pointer (some ⟨g, 2, none⟩))) rfl (by kernel_rfl) (by kernel_rfl) (by kernel_rfl) (by kernel_rfl) (by kernel_rfl) (fun _ _ _ h => h) (BL.cls wr) ?_ ?_
        ·
         refine Or.inl ⟨rfl, fun w hSw => ?_⟩
         exact EffR.same (by go_simp)
        try simp only [Act.put, zA, zB, zC]
        refine wpAnyU_take (i := 7) (oi := { dst := some 56, op := Op.load 76 (Operand.tmp 55), type := 76, pos := "ref.go:111", after := #[{ on := 6, ground := Ground.data }], guard := none }) (v := (.slice (some ⟨bo, 0, none⟩) q c)) rfl (by kernel_rfl) (by kernel_rfl) (by kernel_rfl) (by kernel_rfl) (by kernel_rfl) (fun _ _ _ h => h) (BL.cls wr) ?_ ?_
        ·
         refine Or.inl ⟨rfl, fun w hSw => ?_⟩
         have e0 := BL.cell hSw HC2.out
         exact EffR.same (by go_simp)
        try simp only [Act.put, zA, zB, zC]
        refine wpAnyU_take (i := 8) (oi := { dst := some 57, op := Op.move (Operand.tmp 4), type := 3, pos := "ref.go:111", after := #[], guard := none }) (v := (.int .i64 (i : Int))) rfl (by kernel_rfl) (by kernel_rfl) (by kernel_rfl) (by kernel_rfl) (by kernel_rfl) (fun _ _ _ h => h) (BL.cls wr) ?_ ?_
        ·
         refine Or.inl ⟨rfl, fun w hSw => ?_⟩
         exact EffR.same (by go_simp)
        try simp only [Act.put, zA, zB, zC]
        refine wpAnyU_take (i := 9) (oi := { dst := some 58, op := Op.indexAddr 76 (Operand.tmp 56) (Operand.tmp 57), type := 0, pos := "ref.go:111", after := #[{ on := 7, ground := Ground.data }, { on := 8, ground := Ground.data }], guard := none }) (v := (.pointer (some ⟨bo, i * 65, none⟩))) rfl (by kernel_rfl) (by kernel_rfl) (by kernel_rfl) (by kernel_rfl) (by kernel_rfl) (fun _ _ _ h => h) (BL.cls wr) ?_ ?_
        ·
         refine Or.inl ⟨rfl, fun w hSw => ?_⟩
         have hq : ¬ q ≤ i := (by omega)
         exact EffR.same (by go_simp)
        try simp only [Act.put, zA, zB, zC]
        refine wpAnyU_take (i := 10) (oi := { dst := some 59, op := Op.fieldAddr 100 (Operand.tmp 58) 0, type := 0, pos := "ref.go:111", after := #[{ on := 9, ground := Ground.data }], guard := none }) (v := (.pointer (some ⟨bo, i * 65, none⟩))) rfl (by kernel_rfl) (by kernel_rfl) (by kernel_rfl) (by kernel_rfl) (by kernel_rfl) (fun _ _ _ h => h) (BL.cls wr) ?_ ?_
        ·
         refine Or.inl ⟨rfl, fun w hSw => ?_⟩
         exact EffR.same (by go_simp)
        try simp only [Act.put, zA, zB, zC]
        refine wpAnyU_take (i := 11) (oi := { dst := some 60, op := Op.load 3 (Operand.tmp 59), type := 3, pos := "ref.go:111", after := #[{ on := 10, ground := Ground.data }], guard := none }) (v := (.int .i64 (xk : Int))) rfl (by kernel_rfl) (by kernel_rfl) (by kernel_rfl) (by kernel_rfl) (by kernel_rfl) (fun _ _ _ h => h) (BL.cls wr) ?_ ?_
        ·
         refine Or.inl ⟨rfl, fun w hSw => ?_⟩
         have e0 := BL.cell hSw HCA.out
         exact EffR.same (by go_simp)
        try simp only [Act.put, zA, zB, zC]
        refine wpAnyU_take (i := 12) (oi := { dst := some 61, op := Op.move (Operand.tmp 7), type := 3, pos := "ref.go:111", after := #[], guard := none }) (v := (.int .i64 (j : Int))) rfl (by kernel_rfl) (by kernel_rfl) (by kernel_rfl) (by kernel_rfl) (by kernel_rfl) (fun _ _ _ h => h) (BL.cls wr) ?_ ?_
        ·
         refine Or.inl ⟨rfl, fun w hSw => ?_⟩
         exact EffR.same (by go_simp)
        try simp only [Act.put, zA, zB, zC]
        refine wpAnyU_take (i := 13) (oi := { dst := some 62, op := Op.move (Operand.tmp 0), type := 67, pos := "ref.go:111", after := #[], guard := none }) (v := (.pointer (some ⟨g, 0, none⟩))) rfl (by kernel_rfl) (by kernel_rfl) (by kernel_rfl) (by kernel_rfl) (by kernel_rfl) (fun _ _ _ h => h) (BL.cls wr) ?_ ?_
        ·
         refine Or.inl ⟨rfl, fun w hSw => ?_⟩
         exact EffR.same (by go_simp)
        try simp only [Act.put, zA, zB, zC]
        refine wpAnyU_take (i := 14) (oi := { dst := some 63, op := Op.nilCheck (Operand.tmp 62), type := 0, pos := "ref.go:111", after := #[{ on := 13, ground := Ground.data }], guard := none }) (v := (.pointer (some ⟨g, 0, none⟩))) rfl (by kernel_rfl) (by kernel_rfl) (by kernel_rfl) (by kernel_rfl) (by kernel_rfl) (fun _ _ _ h => h) (BL.cls wr) ?_ ?_
        ·
         refine Or.inl ⟨rfl, fun w hSw => ?_⟩
         exact EffR.same (by go_simp)
        try simp only [Act.put, zA, zB, zC]
        refine wpAnyU_take (i := 15) (oi := { dst := some 64, op := Op.fieldAddr 78 (Operand.tmp 63) 2, type := 0, pos := "ref.go:111", after := #[{ on := 14, ground := Ground.data }], guard := none }) (v := (.pointer (some ⟨g, 2, none⟩))) rfl (by kernel_rfl) (by kernel_rfl) (by kernel_rfl) (by kernel_rfl) (by kernel_rfl) (fun _ _ _ h => h) (BL.cls wr) ?_ ?_
        ·
         refine Or.inl ⟨rfl, fun w hSw => ?_⟩
         exact EffR.same (by go_simp)
        try simp only [Act.put, zA, zB, zC]
        refine wpAnyU_take (i := 16) (oi := { dst := some 65, op := Op.load 76 (Operand.tmp 64), type := 76, pos := "ref.go:111", after := #[{ on := 15, ground := Ground.data }], guard := none }) (v := (.slice (some ⟨bo, 0, none⟩) q c)) rfl (by kernel_rfl) (by kernel_rfl) (by kernel_rfl) (by kernel_rfl) (by kernel_rfl) (fun _ _ _ h => h) (BL.cls wr) ?_ ?_
        ·
         refine Or.inl ⟨rfl, fun w hSw => ?_⟩
         have e0 := BL.cell hSw HC2.out
         exact EffR.same (by go_simp)
        try simp only [Act.put, zA, zB, zC]
        refine wpAnyU_take (i := 17) (oi := { dst := some 66, op := Op.move (Operand.tmp 4), type := 3, pos := "ref.go:111", after := #[], guard := none }) (v := (.int .i64 (i : Int))) rfl (by kernel_rfl) (by kernel_rfl) (by kernel_rfl) (by kernel_rfl) (by kernel_rfl) (fun _ _ _ h => h) (BL.cls wr) ?_ ?_
        ·
         refine Or.inl ⟨rfl, fun w hSw => ?_⟩
         exact EffR.same (by go_simp)
        try simp only [Act.put, zA, zB, zC]
        refine wpAnyU_take (i := 18) (oi := { dst := some 67, op := Op.move (Operand.tmp 7), type := 3, pos := "ref.go:111", after := #[], guard := none }) (v := (.int .i64 (j : Int))) rfl (by kernel_rfl) (by kernel_rfl) (by kernel_rfl) (by kernel_rfl) (by kernel_rfl) (fun _ _ _ h => h) (BL.cls wr) ?_ ?_
        ·
         refine Or.inl ⟨rfl, fun w hSw => ?_⟩
         exact EffR.same (by go_simp)
        try simp only [Act.put, zA, zB, zC]
        refine wpAnyU_take (i := 19) (oi := { dst := some 68, op := Op.indexAddr 76 (Operand.tmp 65) (Operand.tmp 66), type := 0, pos := "ref.go:111", after := #[{ on := 16, ground := Ground.data }, { on := 17, ground := Ground.data }], guard := none }) (v := (.pointer (some ⟨bo, i * 65, none⟩))) rfl (by kernel_rfl) (by kernel_rfl) (by kernel_rfl) (by kernel_rfl) (by kernel_rfl) (fun _ _ _ h => h) (BL.cls wr) ?_ ?_
        ·
         refine Or.inl ⟨rfl, fun w hSw => ?_⟩
         have hq : ¬ q ≤ i := (by omega)
         exact EffR.same (by go_simp)
        try simp only [Act.put, zA, zB, zC]
        refine wpAnyU_take (i := 20) (oi := { dst := some 69, op := Op.fieldAddr 100 (Operand.tmp 68) 1, type := 0, pos := "ref.go:111", after := #[{ on := 19, ground := Ground.data }], guard := none }) (v := (.pointer (some ⟨bo, i * 65 + 1, none⟩))) rfl (by kernel_rfl) (by kernel_rfl) (by kernel_rfl) (by kernel_rfl) (by kernel_rfl) (fun _ _ _ h => h) (BL.cls wr) ?_ ?_
        ·
         refine Or.inl ⟨rfl, fun w hSw => ?_⟩
         exact EffR.same (by go_simp)
        try simp only [Act.put, zA, zB, zC]
        refine wpAnyU_take (i := 21) (oi := { dst := some 70, op := Op.indexAddr 36 (Operand.tmp 69) (Operand.tmp 67), type := 0, pos := "ref.go:111", after := #[{ on := 20, ground := Ground.data }, { on := 18, ground := Ground.data }], guard := none }) (v := (.pointer (some ⟨bo, i * 65 + 1 + j, none⟩))) rfl (by kernel_rfl) (by kernel_rfl) (by kernel_rfl) (by kernel_rfl) (by kernel_rfl) (fun _ _ _ h => h) (BL.cls wr) ?_ ?_
        ·
         refine Or.inl ⟨rfl, fun w hSw => ?_⟩
         have hq : ¬ 64 ≤ j := (by omega)
         exact EffR.same (by go_simp)
        try simp only [Act.put, zA, zB, zC]
        refine wpAnyU_take (i := 22) (oi := { dst := some 71, op := Op.load 5 (Operand.tmp 70), type := 5, pos := "ref.go:111", after := #[{ on := 21, ground := Ground.data }], guard := none }) (v := (.int .u8 (cc.toNat : Int))) rfl (by kernel_rfl) (by kernel_rfl) (by kernel_rfl) (by kernel_rfl) (by kernel_rfl) (fun _ _ _ h => h) (BL.cls wr) ?_ ?_
        ·
         refine Or.inl ⟨rfl, fun w hSw => ?_⟩
         have e0 := BL.cell hSw HCC.out
         exact EffR.same (by go_simp)
        try simp only [Act.put, zA, zB, zC]
        refine wpAnyU_take (i := 23) (oi := { dst := some 72, op := Op.indexAddr 75 (Operand.tmp 52) (Operand.tmp 60), type := 0, pos := "ref.go:111", after := #[{ on := 3, ground := Ground.data }, { on := 11, ground := Ground.data }], guard := none }) (v := (.pointer (some ⟨gs, xk * 64, none⟩))) rfl (by kernel_rfl) (by kernel_rfl) (by kernel_rfl) (by kernel_rfl) (by kernel_rfl) (fun _ _ _ h => h) (BL.cls wr) ?_ ?_
        ·
         refine Or.inl ⟨rfl, fun w hSw => ?_⟩
         have hq : ¬ n ≤ xk := (by omega)
         exact EffR.same (by go_simp)
        try simp only [Act.put, zA, zB, zC]
        refine wpAnyU_take (i := 24) (oi := { dst := some 73, op := Op.indexAddr 36 (Operand.tmp 72) (Operand.tmp 61), type := 0, pos := "ref.go:111", after := #[{ on := 23, ground := Ground.data }, { on := 12, ground := Ground.data }, { on := 0, ground := Ground.phase }, { on := 1, ground := Ground.phase }, { on := 2, ground := Ground.phase }, { on := 3, ground := Ground.phase }, { on := 4, ground := Ground.phase }, { on := 5, ground := Ground.phase }, { on := 6, ground := Ground.phase }, { on := 7, ground := Ground.phase }, { on := 8, ground := Ground.phase }, { on := 9, ground := Ground.phase }, { on := 10, ground := Ground.phase }, { on := 11, ground := Ground.phase }, { on := 12, ground := Ground.phase }, { on := 13, ground := Ground.phase }, { on := 14, ground := Ground.phase }, { on := 15, ground := Ground.phase }, { on := 16, ground := Ground.phase }, { on := 17, ground := Ground.phase }, { on := 18, ground := Ground.phase }, { on := 19, ground := Ground.phase }, { on := 20, ground := Ground.phase }, { on := 21, ground := Ground.phase }, { on := 22, ground := Ground.phase }], guard := none }) (v := (.pointer (some ⟨gs, xk * 64 + j, none⟩))) rfl (by kernel_rfl) (by kernel_rfl) (by kernel_rfl) (by kernel_rfl) (by kernel_rfl) (fun _ _ _ h => h) (BL.cls wr) ?_ ?_
        ·
         refine Or.inl ⟨rfl, fun w hSw => ?_⟩
         have hq : ¬ 64 ≤ j := (by omega)
         exact EffR.same (by go_simp)
        try simp only [Act.put, zA, zB, zC]
        refine wpAnyU_last (o := { dst := none, op := Op.store 5 (Operand.tmp 73) (Operand.tmp 71), type := 0, pos := "ref.go:111", after := #[{ on := 24, ground := Ground.data }, { on := 22, ground := Ground.data }, { on := 0, ground := Ground.phase }, { on := 1, ground := Ground.phase }, { on := 2, ground := Ground.phase }, { on := 3, ground := Ground.phase }, { on := 4, ground := Ground.phase }, { on := 5, ground := Ground.phase }, { on := 6, ground := Ground.phase }, { on := 7, ground := Ground.phase }, { on := 8, ground := Ground.phase }, { on := 9, ground := Ground.phase }, { on := 10, ground := Ground.phase }, { on := 11, ground := Ground.phase }, { on := 12, ground := Ground.phase }, { on := 13, ground := Ground.phase }, { on := 14, ground := Ground.phase }, { on := 15, ground := Ground.phase }, { on := 16, ground := Ground.phase }, { on := 17, ground := Ground.phase }, { on := 18, ground := Ground.phase }, { on := 19, ground := Ground.phase }, { on := 20, ground := Ground.phase }, { on := 21, ground := Ground.phase }, { on := 22, ground := Ground.phase }], guard := none }) (by kernel_rfl) (by kernel_rfl) rfl (fun w1x hb1 K hK => ?_)
        have hp9 := HPR.out.below hb1
        have hkj : xk * 64 + j < (flatW bvs (SJ.set xk (mixB j ob xb))).length := HIX.out
        have c9 : w1x.cell? ⟨gs, xk * 64 + j, none⟩ = some ((flatW bvs (SJ.set xk (mixB j ob xb)))[xk * 64 + j]) := hp9.hs.cell (List.getElem?_eq_getElem hkj)
        have f9 := hp9.hs.frozen (xk * 64 + j)
        have HPF := Lib.hid (hp9.byte HXN.out HJ64.out cc)
        have HKF := Lib.hid ((HKR.out.next hb1).trans (keptG w1x gs (xk * 64 + j) (.int .u8 (cc.toNat : Int))) (fun _ _ e => .inr (.inl e)))
        clear hp9
        go_simp
        refine hK.out _ _ ?_
        clear hK K
        try simp only [Act.put]
        clear c9 f9 hkj
        obtain ⟨wF, hwF⟩ : ∃ z, z = w1x.setCell ⟨gs, xk * 64 + j, none⟩ (.int .u8 (cc.toNat : Int)) := ⟨_, rfl⟩
        rw [← hwF] at HPF HKF ⊢
        clear hwF hb1
        go_wp2_with fail
        refine ⟨⟨j + 1, by omega, by push_cast; rfl, ?_, HKF.out⟩, by simp [intOf]; omega⟩
        have h9 := HPF.out
        rw [HSTEP.out] at h9
        exact h9
       ·
        obtain hje : j = N := by omega
        have hnj : decide ((j : Int) < N) = false := by simp; omega
        subst hje
        clear hpr hkr
        go_wp2_with fail
        refine ⟨⟨i + 1, by omega, by push_cast; rfl, ?_, HKR.out⟩, by simp [intOf]; omega⟩
        rw [HNX.out, ← HNN.out]
        exact HPR.out
     ·
      have HNN : Hid (64 = pickN picks i) := by show 64 = _; rw [hpk, if_neg h65]
      have h65' : decide (r + 66 < 65) = false := by simp; omega
      clear hpk hpb hp1 h65
      go_wp2_with fail
      clear hc2
      have e0 : SJ.set xk (mixB 0 ob xb) = SJ := by
       have e1 : mixB 0 ob xb = ob := by simp [mixB]
       rw [e1, ← HOB.out, List.getD_eq_getElem?_getD, List.getElem?_eq_getElem (by rw [HSL.out.1]; exact H4.out)]
       simp
      have HE0 := Lib.hid e0
      clear e0
      go_loopw [7] (fun y wr => ∃ j : Nat, j ≤ 64 ∧ y = .int .i64 j ∧ PMem wr g gs (.slice (some ⟨bo, 0, none⟩) q c) n { D with off := true, torn := false, arm := 0, syn := SJ.set xk (mixB j ob xb) } ∧ Kept (PS g gs (.slice (some ⟨bo, 0, none⟩) q c)) w wr) (fun y _ => 64 - (intOf y).toNat)
      case atStart => exact ⟨0, Nat.zero_le _, rfl, by rw [HE0.out]; exact HPS.out, HKO.out⟩
      case round =>
       obtain ⟨j, hj, rfl, hpr, hkr⟩ := hrel
       have HPR := Lib.hid hpr
       have HKR := Lib.hid hkr
       have HN64 : Hid (64 ≤ 64) := by show _ ≤ _; have := HNN.out; have := pickN_le picks i; omega
       by_cases hjl : j < 64
       ·
        have hj64 : j < 64 := by have := HN64.out; omega
        obtain ⟨hq3, hop2⟩ := hpr.opAt
        clear hq3
        have hil : i < D.op.length := by have := HQ.out; omega
        obtain ⟨bo2, hbo2, k1, k2, k3, hel⟩ := hop2 (by show 0 < D.op.length; omega)
        obtain ⟨k4, k5, k6, k7⟩ := hel i hil
        simp only [Option.some.injEq, Addr.mk.injEq, and_true] at hbo2
        subst hbo2
        obtain ⟨cc, hcc⟩ : ∃ z, z = xb.getD j 0 := ⟨_, rfl⟩
        have k6' : wr.cell? ⟨bo, i * 65, none⟩ = some (.int .i64 (xk : Int)) := by have h8 := k6; simp only [HXE.out] at h8; exact h8
        have k7' : wr.cell? ⟨bo, i * 65 + 1 + j, none⟩ = some (.int .u8 (cc.toNat : Int)) := by
         have h8 := k7
         simp only [HXE.out] at h8
         refine h8 j _ ?_
         have hjb : j < xb.length := by rw [H5.out]; exact hj64
         rw [hcc, List.getD_eq_getElem?_getD, List.getElem?_eq_getElem hjb]
         simp [bvs, hjb]
        have HC1 := Lib.hid hpr.cells.2.1
        have HC2 := Lib.hid hpr.cells.2.2.1
        have HCA := Lib.hid k6'
        have HCC := Lib.hid k7'
        have HXN : Hid (xk < n) := H4.out
        have HJ64 : Hid (j < 64) := hj64
        have hml : ∀ y, y ≤ 64 → (mixB y ob xb).length = 64 := fun y hy => mixB_length HO64.out H5.out hy
        have HIX : Hid (xk * 64 + j < (flatW bvs (SJ.set xk (mixB j ob xb))).length) := by
         show _ < _
         rw [flatW_length (W := 64) (fun a ha => by rw [bvs_length]; exact hpr.ok.syn.2 a ha), List.length_set, HSL.out.1]
         have := Nat.mul_le_mul_right 64 (show xk + 1 ≤ n from H4.out)
         rw [Nat.succ_mul] at this
         omega
        have HSTEP : Hid ((SJ.set xk (mixB j ob xb)).set xk (((SJ.set xk (mixB j ob xb)).getD xk []).set j cc) = SJ.set xk (mixB (j + 1) ob xb)) := by
         show _ = _
         have hx2 : xk < SJ.length := by rw [HSL.out.1]; exact H4.out
         rw [List.getD_eq_getElem?_getD, List.getElem?_set_self hx2]
         show (SJ.set xk (mixB j ob xb)).set xk ((mixB j ob xb).set j cc) = _
         rw [List.set_set, hcc, mixB_step HO64.out H5.out hj64]
        have hj0 : (0 : Int) ≤ j ∧ (j : Int) < 64 ∧ (j : Int) < 64 := by omega
        have hx0 : (0 : Int) ≤ xk ∧ (xk : Int) < n := by have := H4.out; omega
        have hi1 : (0 : Int) ≤ i ∧ (i : Int) < q := by omega
        clear hpr hkr hop2 k1 k2 k3 k4 k5 k6 k7 hel k6' k7' hml hcc
        go_wp2_with fail
        refine wp_region_bl 25 (by kernel_rfl) ?_
        refine wpAnyU_take (i := 0) (oi := { dst := some 49, op := Op.move (Operand.tmp 0), type := 67, pos := "ref.go:111", after := #[], guard := none }) (v := (.pointer (some ⟨g, 0, none⟩))) rfl (by kernel_rfl) (by kernel_rfl) (by kernel_rfl) (by kernel_rfl) (by kernel_rfl) (fun _ _ _ h => h) (BL.cls wr) ?_ ?_
        ·
         refine Or.inl ⟨rfl, fun w hSw => ?_⟩
         exact EffR.same (by go_simp)
        try simp only [Act.put, zA, zB, zC]
        refine wpAnyU_take (i := 1) (oi := { dst := some 50, op := Op.nilCheck (Operand.tmp 49), type := 0, pos := "ref.go:111", after := #[{ on := 0, ground := Ground.data }], guard := none }) (v := (.pointer (some ⟨g, 0, none⟩))) rfl (by kernel_rfl) (by kernel_rfl) (by kernel_rfl) (by kernel_rfl) (by kernel_rfl) (fun _ _ _ h => h) (BL.cls wr) ?_ ?_
        ·
         refine Or.inl ⟨rfl, fun w hSw => ?_⟩
         exact EffR.same (by go_simp)
        try simp only [Act.put, zA, zB, zC]
        refine wpAnyU_take (i := 2) (oi := { dst := some 51, op := Op.fieldAddr 78 (Operand.tmp 50) 1, type := 0, pos := "ref.go:111", after := #[{ on := 1, ground := Ground.data }], guard := none }) (v := (.pointer (some ⟨g, 1, none⟩))) rfl (by kernel_rfl) (by kernel_rfl) (by kernel_rfl) (by kernel_rfl) (by kernel_rfl) (fun _ _ _ h => h) (BL.cls wr) ?_ ?_
        ·
         refine Or.inl ⟨rfl, fun w hSw => ?_⟩
         exact EffR.same (by go_simp)
        try simp only [Act.put, zA, zB, zC]
        refine wpAnyU_take (i := 3) (oi := { dst := some 52, op := Op.load 75 (Operand.tmp 51), type := 75, pos := "ref.go:111", after := #[{ on := 2, ground := Ground.data }], guard := none }) (v := (.slice (some ⟨gs, 0, none⟩) n n)) rfl (by kernel_rfl) (by kernel_rfl) (by kernel_rfl) (by kernel_rfl) (by kernel_rfl) (fun _ _ _ h => h) (BL.cls wr) ?_ ?_
        ·
         refine Or.inl ⟨rfl, fun w hSw => ?_⟩
         have e0 := BL.cell hSw HC1.out
         exact EffR.same (by go_simp)
        try simp only [Act.put, zA, zB, zC]
        refine wpAnyU_take (i := 4) (oi := { dst := some 53, op := Op.move (Operand.tmp 0), type := 67, pos := "ref.go:111", after := #[], guard := none }) (v := (.pointer (some ⟨g, 0, none⟩))) rfl (by kernel_rfl) (by kernel_rfl) (by kernel_rfl) (by kernel_rfl) (by kernel_rfl) (fun _ _ _ h => h) (BL.cls wr) ?_ ?_
        ·
         refine Or.inl ⟨rfl, fun w hSw => ?_⟩
         exact EffR.same (by go_simp)
        try simp only [Act.put, zA, zB, zC]
        refine wpAnyU_take (i := 5) (oi := { dst := some 54, op := Op.nilCheck (Operand.tmp 53), type := 0, pos := "ref.go:111", after := #[{ on := 4, ground := Ground.data }], guard := none }) (v := (.pointer (some ⟨g, 0, none⟩))) rfl (by kernel_rfl) (by kernel_rfl) (by kernel_rfl) (by kernel_rfl) (by kernel_rfl) (fun _ _ _ h => h) (BL.cls wr) ?_ ?_
        ·
         refine Or.inl ⟨rfl, fun w hSw => ?_⟩
         exact EffR.same (by go_simp)
        try simp only [Act.put, zA, zB, zC]
        refine wpAnyU_take (i := 6) (oi := { dst := some 55, op := Op.fieldAddr 78 (Operand.tmp 54) 2, type := 0, pos := "ref.go:111", after := #[{ on := 5, ground := Ground.data }], guard := none }) (v := (.pointer (some ⟨g, 2, none⟩))) rfl (by kernel_rfl) (by kernel_rfl) (by kernel_rfl) (by kernel_rfl) (by kernel_rfl) (fun _ _ _ h => h) (BL.cls wr) ?_ ?_
        ·
         refine Or.inl ⟨rfl, fun w hSw => ?_⟩
         exact EffR.same (by go_simp)
        try simp only [Act.put, zA, zB, zC]
        refine wpAnyU_take (i := 7) (oi := { dst := some 56, op := Op.load 76 (Operand.tmp 55), type := 76, pos := "ref.go:111", after := #[{ on := 6, ground := Ground.data }], guard := none }) (v := (.slice (some ⟨bo, 0, none⟩) q c)) rfl (by kernel_rfl) (by kernel_rfl) (by kernel_rfl) (by kernel_rfl) (by kernel_rfl) (fun _ _ _ h => h) (BL.cls wr) ?_ ?_
        ·
         refine Or.inl ⟨rfl, fun w hSw => ?_⟩
         have e0 := BL.cell hSw HC2.out
         exact EffR.same (by go_simp)
        try simp only [Act.put, zA, zB, zC]
        refine wpAnyU_take (i := 8) (oi := { dst := some 57, op := Op.move (Operand.tmp 4), type := 3, pos := "ref.go:111", after := #[], guard := none }) (v := (.int .i64 (i : Int))) rfl (by kernel_rfl) (by kernel_rfl) (by kernel_rfl) (by kernel_rfl) (by kernel_rfl) (fun _ _ _ h => h) (BL.cls wr) ?_ ?_
        ·
         refine Or.inl ⟨rfl, fun w hSw => ?_⟩
         exact EffR.same (by go_simp)
        try simp only [Act.put, zA, zB, zC]
        refine wpAnyU_take (i := 9) (oi := { dst := some 58, op := Op.indexAddr 76 (Operand.tmp 56) (Operand.tmp 57), type := 0, pos := "ref.go:111", after := #[{ on := 7, ground := Ground.data }, { on := 8, ground := Ground.data }], guard := none }) (v := (.pointer (some ⟨bo, i * 65, none⟩))) rfl (by kernel_rfl) (by kernel_rfl) (by kernel_rfl) (by kernel_rfl) (by kernel_rfl) (fun _ _ _ h => h) (BL.cls wr) ?_ ?_
        ·
         refine Or.inl ⟨rfl, fun w hSw => ?_⟩
         have hq : ¬ q ≤ i := (by omega)
         exact EffR.same (by go_simp)
        try simp only [Act.put, zA, zB, zC]
        refine wpAnyU_take (i := 10) (oi := { dst := some 59, op := Op.fieldAddr 100 (Operand.tmp 58) 0, type := 0, pos := "ref.go:111", after := #[{ on := 9, ground := Ground.data }], guard := none }) (v := (.pointer (some ⟨bo, i * 65, none⟩))) rfl (by kernel_rfl) (by kernel_rfl) (by kernel_rfl) (by kernel_rfl) (by kernel_rfl) (fun _ _ _ h => h) (BL.cls wr) ?_ ?_
        ·
         refine Or.inl ⟨rfl, fun w hSw => ?_⟩
         exact EffR.same (by go_simp)
        try simp only [Act.put, zA, zB, zC]
        refine wpAnyU_take (i := 11) (oi := { dst := some 60, op := Op.load 3 (Operand.tmp 59), type := 3, pos := "ref.go:111", after := #[{ on := 10, ground := Ground.data }], guard := none }) (v := (.int .i64 (xk : Int))) rfl (by kernel_rfl) (by kernel_rfl) (by kernel_rfl) (by kernel_rfl) (by kernel_rfl) (fun _ _ _ h => h) (BL.cls wr) ?_ ?_
        ·
         refine Or.inl ⟨rfl, fun w hSw => ?_⟩
         have e0 := BL.cell hSw HCA.out
         exact EffR.same (by go_simp)
        try simp only [Act.put, zA, zB, zC]
        refine wpAnyU_take (i := 12) (oi := { dst := some 61, op := Op.move (Operand.tmp 7), type := 3, pos := "ref.go:111", after := #[], guard := none }) (v := (.int .i64 (j : Int))) rfl (by kernel_rfl) (by kernel_rfl) (by kernel_rfl) (by kernel_rfl) (by kernel_rfl) (fun _ _ _ h => h) (BL.cls wr) ?_ ?_
        ·
         refine Or.inl ⟨rfl, fun w hSw => ?_⟩
         exact EffR.same (by go_simp)
        try simp only [Act.put, zA, zB, zC]
        refine wpAnyU_take (i := 13) (oi := { dst := some 62, op := Op.move (Operand.tmp 0), type := 67, pos := "ref.go:111", after := #[], guard := none }) (v := (.pointer (some ⟨g, 0, none⟩))) rfl (by kernel_rfl) (by kernel_rfl) (by kernel_rfl) (by kernel_rfl) (by kernel_rfl) (fun _ _ _ h => h) (BL.cls wr) ?_ ?_
        ·
         refine Or.inl ⟨rfl, fun w hSw => ?_⟩
         exact EffR.same (by go_simp)
        try simp only [Act.put, zA, zB, zC]
        refine wpAnyU_take (i := 14) (oi := { dst := some 63, op := Op.nilCheck (Operand.tmp 62), type := 0, pos := "ref.go:111", after := #[{ on := 13, ground := Ground.data }], guard := none }) (v := (.pointer (some ⟨g, 0, none⟩))) rfl (by kernel_rfl) (by kernel_rfl) (by kernel_rfl) (by kernel_rfl) (by kernel_rfl) (fun _ _ _ h => h) (BL.cls wr) ?_ ?_
        ·
         refine Or.inl ⟨rfl, fun w hSw => ?_⟩
         exact EffR.same (by go_simp)
        try simp only [Act.put, zA, zB, zC]
        refine wpAnyU_take (i := 15) (oi := { dst := some 64, op := Op.fieldAddr 78 (Operand.tmp 63) 2, type := 0, pos := "ref.go:111", after := #[{ on := 14, ground := Ground.data }], guard := none }) (v := (.pointer (some ⟨g, 2, none⟩))) rfl (by kernel_rfl) (by kernel_rfl) (by kernel_rfl) (by kernel_rfl) (by kernel_rfl) (fun _ _ _ h => h) (BL.cls wr) ?_ ?_
        ·
         refine Or.inl ⟨rfl, fun w hSw => ?_⟩
         exact EffR.same (by go_simp)
        try simp only [Act.put, zA, zB, zC]
        refine wpAnyU_take (i := 16) (oi := { dst := some 65, op := Op.load 76 (Operand.tmp 64), type := 76, pos := "ref.go:111", after := #[{ on := 15, ground := Ground.data }], guard := none }) (v := (.slice (some ⟨bo, 0, none⟩) q c)) rfl (by kernel_rfl) (by kernel_rfl) (by kernel_rfl) (by kernel_rfl) (by kernel_rfl) (fun _ _ _ h => h) (BL.cls wr) ?_ ?_
        ·
         refine Or.inl ⟨rfl, fun w hSw => ?_⟩
         have e0 := BL.cell hSw HC2.out
         exact EffR.same (by go_simp)
        try simp only [Act.put, zA, zB, zC]
        refine wpAnyU_take (i := 17) (oi := { dst := some 66, op := Op.move (Operand.tmp 4), type := 3, pos := "ref.go:111", after := #[], guard := none }) (v := (.int .i64 (i : Int))) rfl (by kernel_rfl) (by kernel_rfl) (by kernel_rfl) (by kernel_rfl) (by kernel_rfl) (fun _ _ _ h => h) (BL.cls wr) ?_ ?_
        ·
         refine Or.inl ⟨rfl, fun w hSw => ?_⟩
         exact EffR.same (by go_simp)
        try simp only [Act.put, zA, zB, zC]
        refine wpAnyU_take (i := 18) (oi := { dst := some 67, op := Op.move (Operand.tmp 7), type := 3, pos := "ref.go:111", after := #[], guard := none }) (v := (.int .i64 (j : Int))) rfl (by kernel_rfl) (by kernel_rfl) (by kernel_rfl) (by kernel_rfl) (by kernel_rfl) (fun _ _ _ h => h) (BL.cls wr) ?_ ?_
        ·
         refine Or.inl ⟨rfl, fun w hSw => ?_⟩
         exact EffR.same (by go_simp)
        try simp only [Act.put, zA, zB, zC]
        refine wpAnyU_take (i := 19) (oi := { dst := some 68, op := Op.indexAddr 76 (Operand.tmp 65) (Operand.tmp 66), type := 0, pos := "ref.go:111", after := #[{ on := 16, ground := Ground.data }, { on := 17, ground := Ground.data }], guard := none }) (v := (.pointer (some ⟨bo, i * 65, none⟩))) rfl (by kernel_rfl) (by kernel_rfl) (by kernel_rfl) (by kernel_rfl) (by kernel_rfl) (fun _ _ _ h => h) (BL.cls wr) ?_ ?_
        ·
         refine Or.inl ⟨rfl, fun w hSw => ?_⟩
         have hq : ¬ q ≤ i := (by omega)
         exact EffR.same (by go_simp)
        try simp only [Act.put, zA, zB, zC]
        refine wpAnyU_take (i := 20) (oi := { dst := some 69, op := Op.fieldAddr 100 (Operand.tmp 68) 1, type := 0, pos := "ref.go:111", after := #[{ on := 19, ground := Ground.data }], guard := none }) (v := (.pointer (some ⟨bo, i * 65 + 1, none⟩))) rfl (by kernel_rfl) (by kernel_rfl) (by kernel_rfl) (by kernel_rfl) (by kernel_rfl) (fun _ _ _ h => h) (BL.cls wr) ?_ ?_
        ·
         refine Or.inl ⟨rfl, fun w hSw => ?_⟩
         exact EffR.same (by go_simp)
        try simp only [Act.put, zA, zB, zC]
        refine wpAnyU_take (i := 21) (oi := { dst := some 70, op := Op.indexAddr 36 (Operand.tmp 69) (Operand.tmp 67), type := 0, pos := "ref.go:111", after := #[{ on := 20, ground := Ground.data }, { on := 18, ground := Ground.data }], guard := none }) (v := (.pointer (some ⟨bo, i * 65 + 1 + j, none⟩))) rfl (by kernel_rfl) (by kernel_rfl) (by kernel_rfl) (by kernel_rfl) (by kernel_rfl) (fun _ _ _ h => h) (BL.cls wr) ?_ ?_
        ·
         refine Or.inl ⟨rfl, fun w hSw => ?_⟩
         have hq : ¬ 64 ≤ j := (by omega)
         exact EffR.same (by go_simp)
        try simp only [Act.put, zA, zB, zC]
        refine wpAnyU_take (i := 22) (oi := { dst := some 71, op := Op.load 5 (Operand.tmp 70), type := 5, pos := "ref.go:111", after := #[{ on := 21, ground := Ground.data }], guard := none }) (v := (.int .u8 (cc.toNat : Int))) rfl (by kernel_rfl) (by kernel_rfl) (by kernel_rfl) (by kernel_rfl) (by kernel_rfl) (fun _ _ _ h => h) (BL.cls wr) ?_ ?_
        ·
         refine Or.inl ⟨rfl, fun w hSw => ?_⟩
         have e0 := BL.cell hSw HCC.out
         exact EffR.same (by go_simp)
        try simp only [Act.put, zA, zB, zC]
        refine wpAnyU_take (i := 23) (oi := { dst := some 72, op := Op.indexAddr 75 (Operand.tmp 52) (Operand.tmp 60), type := 0, pos := "ref.go:111", after := #[{ on := 3, ground := Ground.data }, { on := 11, ground := Ground.data }], guard := none }) (v := (.pointer (some ⟨gs, xk * 64, none⟩))) rfl (by kernel_rfl) (by kernel_rfl) (by kernel_rfl) (by kernel_rfl) (by kernel_rfl) (fun _ _ _ h => h) (BL.cls wr) ?_ ?_
        ·
         refine Or.inl ⟨rfl, fun w hSw => ?_⟩
         have hq : ¬ n ≤ xk := (by omega)
         exact EffR.same (by go_simp)
        try simp only [Act.put, zA, zB, zC]
        refine wpAnyU_take (i := 24) (oi := { dst := some 73, op := Op.indexAddr 36 (Operand.tmp 72) (Operand.tmp 61), type := 0, pos := "ref.go:111", after := #[{ on := 23, ground := Ground.data }, { on := 12, ground := Ground.data }, { on := 0, ground := Ground.phase }, { on := 1, ground := Ground.phase }, { on := 2, ground := Ground.phase }, { on := 3, ground := Ground.phase }, { on := 4, ground := Ground.phase }, { on := 5, ground := Ground.phase }, { on := 6, ground := Ground.phase }, { on := 7, ground := Ground.phase }, { on := 8, ground := Ground.phase }, { on := 9, ground := Ground.phase }, { on := 10, ground := Ground.phase }, { on := 11, ground := Ground.phase }, { on := 12, ground := Ground.phase }, { on := 13, ground := Ground.phase }, { on := 14, ground := Ground.phase }, { on := 15, ground := Ground.phase }, { on := 16, ground := Ground.phase }, { on := 17, ground := Ground.phase }, { on := 18, ground := Ground.phase }, { on := 19, ground := Ground.phase }, { on := 20, ground := Ground.phase }, { on := 21, ground := Ground.phase }, { on := 22, ground := Ground.phase }], guard := none }) (v := (.pointer (some ⟨gs, xk * 64 + j, none⟩))) rfl (by kernel_rfl) (by kernel_rfl) (by kernel_rfl) (by kernel_rfl) (by kernel_rfl) (fun _ _ _ h => h) (BL.cls wr) ?_ ?_
        ·
         refine Or.inl ⟨rfl, fun w hSw => ?_⟩
         have hq : ¬ 64 ≤ j := (by omega)
         exact EffR.same (by go_simp)
        try simp only [Act.put, zA, zB, zC]
        refine wpAnyU_last (o := { dst := none, op := Op.store 5 (Operand.tmp 73) (Operand.tmp 71), type := 0, pos := "ref.go:111", after := #[{ on := 24, ground := Ground.data }, { on := 22, ground := Ground.data }, { on := 0, ground := Ground.phase }, { on := 1, ground := Ground.phase }, { on := 2, ground := Ground.phase }, { on := 3, ground := Ground.phase }, { on := 4, ground := Ground.phase }, { on := 5, ground := Ground.phase }, { on := 6, ground := Ground.phase }, { on := 7, ground := Ground.phase }, { on := 8, ground := Ground.phase }, { on := 9, ground := Ground.phase }, { on := 10, ground := Ground.phase }, { on := 11, ground := Ground.phase }, { on := 12, ground := Ground.phase }, { on := 13, ground := Ground.phase }, { on := 14, ground := Ground.phase }, { on := 15, ground := Ground.phase }, { on := 16, ground := Ground.phase }, { on := 17, ground := Ground.phase }, { on := 18, ground := Ground.phase }, { on := 19, ground := Ground.phase }, { on := 20, ground := Ground.phase }, { on := 21, ground := Ground.phase }, { on := 22, ground := Ground.phase }], guard := none }) (by kernel_rfl) (by kernel_rfl) rfl (fun w1x hb1 K hK => ?_)
        have hp9 := HPR.out.below hb1
        have hkj : xk * 64 + j < (flatW bvs (SJ.set xk (mixB j ob xb))).length := HIX.out
        have c9 : w1x.cell? ⟨gs, xk * 64 + j, none⟩ = some ((flatW bvs (SJ.set xk (mixB j ob xb)))[xk * 64 + j]) := hp9.hs.cell (List.getElem?_eq_getElem hkj)
        have f9 := hp9.hs.frozen (xk * 64 + j)
        have HPF := Lib.hid (hp9.byte HXN.out HJ64.out cc)
        have HKF := Lib.hid ((HKR.out.next hb1).trans (keptG w1x gs (xk * 64 + j) (.int .u8 (cc.toNat : Int))) (fun _ _ e => .inr (.inl e)))
        clear hp9
        go_simp
        refine hK.out _ _ ?_
        clear hK K
        try simp only [Act.put]
        clear c9 f9 hkj
        obtain ⟨wF, hwF⟩ : ∃ z, z = w1x.setCell ⟨gs, xk * 64 + j, none⟩ (.int .u8 (cc.toNat : Int)) := ⟨_, rfl⟩
        rw [← hwF] at HPF HKF ⊢
        clear hwF hb1
        go_wp2_with fail
        refine ⟨⟨j + 1, by omega, by push_cast; rfl, ?_, HKF.out⟩, by simp [intOf]; omega⟩
        have h9 := HPF.out
        rw [HSTEP.out] at h9
        exact h9
       ·
        obtain hje : j = 64 := by omega
        have hnj : decide ((j : Int) < 64) = false := by simp; omega
        subst hje
        clear hpr hkr
        go_wp2_with fail
        refine ⟨⟨i + 1, by omega, by push_cast; rfl, ?_, HKR.out⟩, by simp [intOf]; omega⟩
        rw [HNX.out, ← HNN.out]
        exact HPR.out
    ·
     rw [if_neg hneg] at hp1
     have hneg' : decide (r < 0) = false := by simp; omega
     subst hp1
     by_cases h65 : p1 < 65
     ·
      by_cases hz1 : p1 = 0
      ·
       have HNN : Hid (0 = pickN picks i) := by show 0 = _; rw [hpk, if_pos h65, hz1]; rfl
       subst hz1
       clear hpk hpb
       go_wp2_with fail
       clear hc2
       have e0 : SJ.set xk (mixB 0 ob xb) = SJ := by
        have e1 : mixB 0 ob xb = ob := by simp [mixB]
        rw [e1, ← HOB.out, List.getD_eq_getElem?_getD, List.getElem?_eq_getElem (by rw [HSL.out.1]; exact H4.out)]
        simp
       have HE0 := Lib.hid e0
       clear e0
       go_loopw [7] (fun y wr => ∃ j : Nat, j ≤ 0 ∧ y = .int .i64 j ∧ PMem wr g gs (.slice (some ⟨bo, 0, none⟩) q c) n { D with off := true, torn := false, arm := 0, syn := SJ.set xk (mixB j ob xb) } ∧ Kept (PS g gs (.slice (some ⟨bo, 0, none⟩) q c)) w wr) (fun y _ => 0 - (intOf y).toNat)
       case atStart => exact ⟨0, Nat.zero_le _, rfl, by rw [HE0.out]; exact HPS.out, HKO.out⟩
       case round =>
        obtain ⟨j, hj, rfl, hpr, hkr⟩ := hrel
        have HPR := Lib.hid hpr
        have HKR := Lib.hid hkr
        have HN64 : Hid (0 ≤ 64) := by show _ ≤ _; have := HNN.out; have := pickN_le picks i; omega
        clear HN64
        obtain hje : j = 0 := by omega
        have hnj : decide ((j : Int) < 0) = false := by simp
        subst hje
        clear hpr hkr
        go_wp2_with fail
        refine ⟨⟨i + 1, by omega, by push_cast; rfl, ?_, HKR.out⟩, by simp [intOf]; omega⟩
        rw [HNX.out, ← HNN.out]
        exact HPR.out
      ·
       obtain ⟨N, hN⟩ : ∃ N : Nat, p1 - 1 = (N : Int) := ⟨(p1 - 1).toNat, by omega⟩
       have HNN : Hid (N = pickN picks i) := by show N = _; rw [hpk, if_pos h65]; omega
       have hmx : decide (p1 - 1 < 0) = false := by simp; omega
       have hp0 : 0 ≤ p1 ∧ p1 < 65 := by omega
       clear hpk hpb
       go_wp2_with fail
       clear hc2
       have e0 : SJ.set xk (mixB 0 ob xb) = SJ := by
        have e1 : mixB 0 ob xb = ob := by simp [mixB]
        rw [e1, ← HOB.out, List.getD_eq_getElem?_getD, List.getElem?_eq_getElem (by rw [HSL.out.1]; exact H4.out)]
        simp
       have HE0 := Lib.hid e0
       clear e0
       go_loopw [7] (fun y wr => ∃ j : Nat, j ≤ N ∧ y = .int .i64 j ∧ PMem wr g gs (.slice (some ⟨bo, 0, none⟩) q c) n { D with off := true, torn := false, arm := 0, syn := SJ.set xk (mixB j ob xb) } ∧ Kept (PS g gs (.slice (some ⟨bo, 0, none⟩) q c)) w wr) (fun y _ => N - (intOf y).toNat)
       case atStart => exact ⟨0, Nat.zero_le _, rfl, by rw [HE0.out]; exact HPS.out, HKO.out⟩
       case round =>
        obtain ⟨j, hj, rfl, hpr, hkr⟩ := hrel
        have HPR := Lib.hid hpr
        have HKR := Lib.hid hkr
        have HN64 : Hid (N ≤ 64) := by show _ ≤ _; have := HNN.out; have := pickN_le picks i; omega
        by_cases hjl : j < N
        ·
         have hj64 : j < 64 := by have := HN64.out; omega
         obtain ⟨hq3, hop2⟩ := hpr.opAt
         clear hq3
         have hil : i < D.op.length := by have := HQ.out; omega
         obtain ⟨bo2, hbo2, k1, k2, k3, hel⟩ := hop2 (by show 0 < D.op.length; omega)
         obtain ⟨k4, k5, k6, k7⟩ := hel i hil
         simp only [Option.some.injEq, Addr.mk.injEq, and_true] at hbo2
         subst hbo2
         obtain ⟨cc, hcc⟩ : ∃ z, z = xb.getD j 0 := ⟨_, rfl⟩
         have k6' : wr.cell? ⟨bo, i * 65, none⟩ = some (.int .i64 (xk : Int)) := by have h8 := k6; simp only [HXE.out] at h8; exact h8
         have k7' : wr.cell? ⟨bo, i * 65 + 1 + j, none⟩ = some (.int .u8 (cc.toNat : Int)) := by
          have h8 := k7
          simp only [HXE.out] at h8
          refine h8 j _ ?_
          have hjb : j < xb.length := by rw [H5.out]; exact hj64
          rw [hcc, List.getD_eq_getElem?_getD, List.getElem?_eq_getElem hjb]
          simp [bvs, hjb]
         have HC1 := Lib.hid hpr.cells.2.1
         have HC2 := Lib.hid hpr.cells.2.2.1
         have HCA := Lib.hid k6'
         have HCC := Lib.hid k7'
         have HXN : Hid (xk < n) := H4.out
         have HJ64 : Hid (j < 64) := hj64
         have hml : ∀ y, y ≤ 64 → (mixB y ob xb).length = 64 := fun y hy => mixB_length HO64.out H5.out hy
         have HIX : Hid (xk * 64 + j < (flatW bvs (SJ.set xk (mixB j ob xb))).length) := by
          show _ < _
          rw [flatW_length (W := 64) (fun a ha => by rw [bvs_length]; exact hpr.ok.syn.2 a ha), List.length_set, HSL.out.1]
          have := Nat.mul_le_mul_right 64 (show xk + 1 ≤ n from H4.out)
          rw [Nat.succ_mul] at this
          omega
         have HSTEP : Hid ((SJ.set xk (mixB j ob xb)).set xk (((SJ.set xk (mixB j ob xb)).getD xk []).set j cc) = SJ.set xk (mixB (j + 1) ob xb)) := by
          show _ = _
          have hx2 : xk < SJ.length := by rw [HSL.out.1]; exact H4.out
          rw [List.getD_eq_getElem?_getD, List.getElem?_set_self hx2]
          show (SJ.set xk (mixB j ob xb)).set xk ((mixB j ob xb).set j cc) = _
          rw [List.set_set, hcc, mixB_step HO64.out H5.out hj64]
         have hj0 : (0 : Int) ≤ j ∧ (j : Int) < N ∧ (j : Int) < 64 := by omega
         have hx0 : (0 : Int) ≤ xk ∧ (xk : Int) < n := by have := H4.out; omega
         have hi1 : (0 : Int) ≤ i ∧ (i : Int) < q := by omega
         clear hpr hkr hop2 k1 k2 k3 k4 k5 k6 k7 hel k6' k7' hml hcc
         go_wp2_with fail
         refine wp_region_bl 25 (by kernel_rfl) ?_
         refine wpAnyU_take (i := 0) (oi := { dst := some 49, op := Op.move (Operand.tmp 0), type := 67, pos := "ref.go:111", after := #[], guard := none }) (v := (.pointer (some ⟨g, 0, none⟩))) rfl (by kernel_rfl) (by kernel_rfl) (by kernel_rfl) (by kernel_rfl) (by kernel_rfl) (fun _ _ _ h => h) (BL.cls wr) ?_ ?_
         ·
          refine Or.inl ⟨rfl, fun w hSw => ?_⟩
          exact EffR.same (by go_simp)
         try simp only [Act.put, zA, zB, zC]
         refine wpAnyU_take (i := 1) (oi := { dst := some 50, op := Op.nilCheck (Operand.tmp 49), type := 0, pos := "ref.go:111", after := #[{ on := 0, ground := Ground.data }], guard := none }) (v := (.pointer (some ⟨g, 0, none⟩))) rfl (by kernel_rfl) (by kernel_rfl) (by kernel_rfl) (by kernel_rfl) (by kernel_rfl) (fun _ _ _ h => h) (BL.cls wr) ?_ ?_
         ·
          refine Or.inl ⟨rfl, fun w hSw => ?_⟩
          exact EffR.same (by go_simp)
         try simp only [Act.put, zA, zB, zC]
         refine wpAnyU_take (i := 2) (oi := { dst := some 51, op := Op.fieldAddr 78 (Operand.tmp 50) 1, type := 0, pos := "ref.go:111", after := #[{ on := 1, ground := Ground.data }], guard := none }) (v := (.pointer (some ⟨g, 1, none⟩))) rfl (by kernel_rfl) (by kernel_rfl) (by kernel_rfl) (by kernel_rfl) (by kernel_rfl) (fun _ _ _ h => h) (BL.cls wr) ?_ ?_
         ·
          refine Or.inl ⟨rfl, fun w hSw => ?_⟩
          exact EffR.same (by go_simp)
         try simp only [Act.put, zA, zB, zC]
         refine wpAnyU_take (i := 3) (oi := { dst := some 52, op := Op.load 75 (Operand.tmp 51), type := 75, pos := "ref.go:111", after := #[{ on := 2, ground := Ground.data }], guard := none }) (v := (.slice (some ⟨gs, 0, none⟩) n n)) rfl (by kernel_rfl) (by kernel_rfl) (by kernel_rfl) (by kernel_rfl) (by kernel_rfl) (fun _ _ _ h => h) (BL.cls wr) ?_ ?_
         ·
          refine Or.inl ⟨rfl, fun w hSw => ?_⟩
          have e0 := BL.cell hSw HC1.out
          exact EffR.same (by go_simp)
         try simp only [Act.put, zA, zB, zC]
         refine wpAnyU_take (i := 4) (oi := { dst := some 53, op := Op.move (Operand.tmp 0), type := 67, pos := "ref.go:111", after := #[], guard := none }) (v := (.pointer (some ⟨g, 0, none⟩))) rfl (by kernel_rfl) (by kernel_rfl) (by kernel_rfl) (by kernel_rfl) (by kernel_rfl) (fun _ _ _ h => h) (BL.cls wr) ?_ ?_
         ·
          refine Or.inl ⟨rfl, fun w hSw => ?_⟩
          exact EffR.same (by go_simp)
         try simp only [Act.put, zA, zB, zC]
         refine wpAnyU_take (i := 5) (oi := { dst := some 54, op := Op.nilCheck (Operand.tmp 53), type := 0, pos := "ref.go:111", after := #[{ on := 4, ground := Ground.data }], guard := none }) (v := (.pointer (some ⟨g, 0, none⟩))) rfl (by kernel_rfl) (by kernel_rfl) (by kernel_rfl) (by kernel_rfl) (by kernel_rfl) (fun _ _ _ h => h) (BL.cls wr) ?_ ?_
         ·
          refine Or.inl ⟨rfl, fun w hSw => ?_⟩
          exact EffR.same (by go_simp)
         try simp only [Act.put, zA, zB, zC]
         refine wpAnyU_take (i := 6) (oi := { dst := some 55, op := Op.fieldAddr 78 (Operand.tmp 54) 2, type := 0, pos := "ref.go:111", after := #[{ on := 5, ground := Ground.data }], guard := none }) (v := (.pointer (some ⟨g, 2, none⟩))) rfl (by kernel_rfl) (by kernel_rfl) (by kernel_rfl) (by kernel_rfl) (by kernel_rfl) (fun _ _ _ h => h) (BL.cls wr) ?_ ?_
         ·
          refine Or.inl ⟨rfl, fun w hSw => ?_⟩
          exact EffR.same (by go_simp)
         try simp only [Act.put, zA, zB, zC]
         refine wpAnyU_take (i := 7) (oi := { dst := some 56, op := Op.load 76 (Operand.tmp 55), type := 76, pos := "ref.go:111", after := #[{ on := 6, ground := Ground.data }], guard := none }) (v := (.slice (some ⟨bo, 0, none⟩) q c)) rfl (by kernel_rfl) (by kernel_rfl) (by kernel_rfl) (by kernel_rfl) (by kernel_rfl) (fun _ _ _ h => h) (BL.cls wr) ?_ ?_
         ·
          refine Or.inl ⟨rfl, fun w hSw => ?_⟩
          have e0 := BL.cell hSw HC2.out
          exact EffR.same (by go_simp)
         try simp only [Act.put, zA, zB, zC]
         refine wpAnyU_take (i := 8) (oi := { dst := some 57, op := Op.move (Operand.tmp 4), type := 3, pos := "ref.go:111", after := #[], guard := none }) (v := (.int .i64 (i : Int))) rfl (by kernel_rfl) (by kernel_rfl) (by kernel_rfl) (by kernel_rfl) (by kernel_rfl) (fun _ _ _ h => h) (BL.cls wr) ?_ ?_
         ·
          refine Or.inl ⟨rfl, fun w hSw => ?_⟩
          exact EffR.same (by go_simp)
         try simp only [Act.put, zA, zB, zC]
         refine wpAnyU_take (i := 9) (oi := { dst := some 58, op := Op.indexAddr 76 (Operand.tmp 56) (Operand.tmp 57), type := 0, pos := "ref.go:111", after := #[{ on := 7, ground := Ground.data }, { on := 8, ground := Ground.data }], guard := none }) (v := (.pointer (some ⟨bo, i * 65, none⟩))) rfl (by kernel_rfl) (by kernel_rfl) (by kernel_rfl) (by kernel_rfl) (by kernel_rfl) (fun _ _ _ h => h) (BL.cls wr) ?_ ?_
         ·
          refine Or.inl ⟨rfl, fun w hSw => ?_⟩
          have hq : ¬ q ≤ i := (by omega)
          exact EffR.same (by go_simp)
         try simp only [Act.put, zA, zB, zC]
         refine wpAnyU_take (i := 10) (oi := { dst := some 59, op := Op.fieldAddr 100 (Operand.tmp 58) 0, type := 0, pos := "ref.go:111", after := #[{ on := 9, ground := Ground.data }], guard := none }) (v := (.pointer (some ⟨bo, i * 65, none⟩))) rfl (by kernel_rfl) (by kernel_rfl) (by kernel_rfl) (by kernel_rfl) (by kernel_rfl) (fun _ _ _ h => h) (BL.cls wr) ?_ ?_
         ·
          refine Or.inl ⟨rfl, fun w hSw => ?_⟩
          exact EffR.same (by go_simp)
         try simp only [Act.put, zA, zB, zC]
         refine wpAnyU_take (i := 11) (oi := { dst := some 60, op := Op.load 3 (Operand.tmp 59), type := 3, pos := "ref.go:111", after := #[{ on := 10, ground := Ground.data }], guard := none }) (v := (.int .i64 (xk : Int))) rfl (by kernel_rfl) (by kernel_rfl) (by kernel_rfl) (by kernel_rfl) (by kernel_rfl) (fun _ _ _ h => h) (BL.cls wr) ?_ ?_
         ·
          refine Or.inl ⟨rfl, fun w hSw => ?_⟩
          have e0 := BL.cell hSw HCA.out
          exact EffR.same (by go_simp)
         try simp only [Act.put, zA, zB, zC]
         refine wpAnyU_take (i := 12) (oi := { dst := some 61, op := Op.move (Operand.tmp 7), type := 3, pos := "ref.go:111", after := #[], guard := none }) (v := (.int .i64 (j : Int))) rfl (by kernel_rfl) (by kernel_rfl) (by kernel_rfl) (by kernel_rfl) (by kernel_rfl) (fun _ _ _ h => h) (BL.cls wr) ?_ ?_
         ·
          refine Or.inl ⟨rfl, fun w hSw => ?_⟩
          exact EffR.same (by go_simp)
         try simp only [Act.put, zA, zB, zC]
         refine wpAnyU_take (i := 13) (oi := { dst := some 62, op := Op.move (Operand.tmp 0), type := 67, pos := "ref.go:111", after := #[], guard := none }) (v := (.pointer (some ⟨g, 0, none⟩))) rfl (by kernel_rfl) (by kernel_rfl) (by kernel_rfl) (by kernel_rfl) (by kernel_rfl) (fun _ _ _ h => h) (BL.cls wr) ?_ ?_
         ·
          refine Or.inl ⟨rfl, fun w hSw => ?_⟩
          exact EffR.same (by go_simp)
         try simp only [Act.put, zA, zB, zC]
         refine wpAnyU_take (i := 14) (oi := { dst := some 63, op := Op.nilCheck (Operand.tmp 62), type := 0, pos := "ref.go:111", after := #[{ on := 13, ground := Ground.data }], guard := none }) (v := (.pointer (some ⟨g, 0, none⟩))) rfl (by kernel_rfl) (by kernel_rfl) (by kernel_rfl) (by kernel_rfl) (by kernel_rfl) (fun _ _ _ h => h) (BL.cls wr) ?_ ?_
         ·
          refine Or.inl ⟨rfl, fun w hSw => ?_⟩
          exact EffR.same (by go_simp)
         try simp only [Act.put, zA, zB, zC]
         refine wpAnyU_take (i := 15) (oi := { dst := some 64, op := Op.fieldAddr 78 (Operand.tmp 63) 2, type := 0, pos := "ref.go:111", after := #[{ on := 14, ground := Ground.data }], guard := none }) (v := (.pointer (some ⟨g, 2, none⟩))) rfl (by kernel_rfl) (by kernel_rfl) (by kernel_rfl) (by kernel_rfl) (by kernel_rfl) (fun _ _ _ h => h) (BL.cls wr) ?_ ?_
         ·
          refine Or.inl ⟨rfl, fun w hSw => ?_⟩
          exact EffR.same (by go_simp)
         try simp only [Act.put, zA, zB, zC]
         refine wpAnyU_take (i := 16) (oi := { dst := some 65, op := Op.load 76 (Operand.tmp 64), type := 76, pos := "ref.go:111", after := #[{ on := 15, ground := Ground.data }], guard := none }) (v := (.slice (some ⟨bo, 0, none⟩) q c)) rfl (by kernel_rfl) (by kernel_rfl) (by kernel_rfl) (by kernel_rfl) (by kernel_rfl) (fun _ _ _ h => h) (BL.cls wr) ?_ ?_
         ·
          refine Or.inl ⟨rfl, fun w hSw => ?_⟩
          have e0 := BL.cell hSw HC2.out
          exact EffR.same (by go_simp)
         try simp only [Act.put, zA, zB, zC]
         refine wpAnyU_take (i := 17) (oi := { dst := some 66, op := Op.move (Operand.tmp 4), type := 3, pos := "ref.go:111", after := #[], guard := none }) (v := (.int .i64 (i : Int))) rfl (by kernel_rfl) (by kernel_rfl) (by kernel_rfl) (by kernel_rfl) (by kernel_rfl) (fun _ _ _ h => h) (BL.cls wr) ?_ ?_
         ·
          refine Or.inl ⟨rfl, fun w hSw => ?_⟩
          exact EffR.same (by go_simp)
         try simp only [Act.put, zA, zB, zC]
         refine wpAnyU_take (i := 18) (oi := { dst := some 67, op := Op.move (Operand.tmp 7), type := 3, pos := "ref.go:111", after := #[], guard := none }) (v := (.int .i64 (j : Int))) rfl (by kernel_rfl) (by kernel_rfl) (by kernel_rfl) (by kernel_rfl) (by kernel_rfl) (fun _ _ _ h => h) (BL.cls wr) ?_ ?_
         ·
          refine Or.inl ⟨rfl, fun w hSw => ?_⟩
          exact EffR.same (by go_simp)
         try simp only [Act.put, zA, zB, zC]
         refine wpAnyU_take (i := 19) (oi := { dst := some 68, op := Op.indexAddr 76 (Operand.tmp 65) (Operand.tmp 66), type := 0, pos := "ref.go:111", after := #[{ on := 16, ground := Ground.data }, { on := 17, ground := Ground.data }], guard := none }) (v := (.pointer (some ⟨bo, i * 65, none⟩))) rfl (by kernel_rfl) (by kernel_rfl) (by kernel_rfl) (by kernel_rfl) (by kernel_rfl) (fun _ _ _ h => h) (BL.cls wr) ?_ ?_
         ·
          refine Or.inl ⟨rfl, fun w hSw => ?_⟩
          have hq : ¬ q ≤ i := (by omega)
          exact EffR.same (by go_simp)
         try simp only [Act.put, zA, zB, zC]
         refine wpAnyU_take (i := 20) (oi := { dst := some 69, op := Op.fieldAddr 100 (Operand.tmp 68) 1, type := 0, pos := "ref.go:111", after := #[{ on := 19, ground := Ground.data }], guard := none }) (v := (.pointer (some ⟨bo, i * 65 + 1, none⟩))) rfl (by kernel_rfl) (by kernel_rfl) (by kernel_rfl) (by kernel_rfl) (by kernel_rfl) (fun _ _ _ h => h) (BL.cls wr) ?_ ?_
         ·
          refine Or.inl ⟨rfl, fun w hSw => ?_⟩
          exact EffR.same (by go_simp)
         try simp only [Act.put, zA, zB, zC]
         refine wpAnyU_take (i := 21) (oi := { dst := some 70, op := Op.indexAddr 36 (Operand.tmp 69) (Operand.tmp 67), type := 0, pos := "ref.go:111", after := #[{ on := 20, ground := Ground.data }, { on := 18, ground := Ground.data }], guard := none }) (v := (.pointer (some ⟨bo, i * 65 + 1 + j, none⟩))) rfl (by kernel_rfl) (by kernel_rfl) (by kernel_rfl) (by kernel_rfl) (by kernel_rfl) (fun _ _ _ h => h) (BL.cls wr) ?_ ?_
         ·
          refine Or.inl ⟨rfl, fun w hSw => ?_⟩
          have hq : ¬ 64 ≤ j := (by omega)
          exact EffR.same (by go_simp)
         try simp only [Act.put, zA, zB, zC]
         refine wpAnyU_take (i := 22) (oi := { dst := some 71, op := Op.load 5 (Operand.tmp 70), type := 5, pos := "ref.go:111", after := #[{ on := 21, ground := Ground.data }], guard := none }) (v := (.int .u8 (cc.toNat : Int))) rfl (by kernel_rfl) (by kernel_rfl) (by kernel_rfl) (by kernel_rfl) (by kernel_rfl) (fun _ _ _ h => h) (BL.cls wr) ?_ ?_
         ·
          refine Or.inl ⟨rfl, fun w hSw => ?_⟩
          have e0 := BL.cell hSw HCC.out
          exact EffR.same (by go_simp)
         try simp only [Act.put, zA, zB, zC]
         refine wpAnyU_take (i := 23) (oi := { dst := some 72, op := Op.indexAddr 75 (Operand.tmp 52) (Operand.tmp 60), type := 0, pos := "ref.go:111", after := #[{ on := 3, ground := Ground.data }, { on := 11, ground := Ground.data }], guard := none }) (v := (.pointer (some ⟨gs, xk * 64, none⟩))) rfl (by kernel_rfl) (by kernel_rfl) (by kernel_rfl) (by kernel_rfl) (by kernel_rfl) (fun _ _ _ h => h) (BL.cls wr) ?_ ?_
         ·
          refine Or.inl ⟨rfl, fun w hSw => ?_⟩
          have hq : ¬ n ≤ xk := (by omega)
          exact EffR.same (by go_simp)
         try simp only [Act.put, zA, zB, zC]
         refine wpAnyU_take (i := 24) (oi := { dst := some 73, op := Op.indexAddr 36 (Operand.tmp 72) (Operand.tmp 61), type := 0, pos := "ref.go:111", after := #[{ on := 23, ground := Ground.data }, { on := 12, ground := Ground.data }, { on := 0, ground := Ground.phase }, { on := 1, ground := Ground.phase }, { on := 2, ground := Ground.phase }, { on := 3, ground := Ground.phase }, { on := 4, ground := Ground.phase }, { on := 5, ground := Ground.phase }, { on := 6, ground := Ground.phase }, { on := 7, ground := Ground.phase }, { on := 8, ground := Ground.phase }, { on := 9, ground := Ground.phase }, { on := 10, ground := Ground.phase }, { on := 11, ground := Ground.phase }, { on := 12, ground := Ground.phase }, { on := 13, ground := Ground.phase }, { on := 14, ground := Ground.phase }, { on := 15, ground := Ground.phase }, { on := 16, ground := Ground.phase }, { on := 17, ground := Ground.phase }, { on := 18, ground := Ground.phase }, { on := 19, ground := Ground.phase }, { on := 20, ground := Ground.phase }, { on := 21, ground := Ground.phase }, { on := 22, ground := Ground.phase }], guard := none }) (v := (.pointer (some ⟨gs, xk * 64 + j, none⟩))) rfl (by kernel_rfl) (by kernel_rfl) (by kernel_rfl) (by kernel_rfl) (by kernel_rfl) (fun _ _ _ h => h) (BL.cls wr) ?_ ?_
         ·
          refine Or.inl ⟨rfl, fun w hSw => ?_⟩
          have hq : ¬ 64 ≤ j := (by omega)
          exact EffR.same (by go_simp)
         try simp only [Act.put, zA, zB, zC]
         refine wpAnyU_last (o := { dst := none, op := Op.store 5 (Operand.tmp 73) (Operand.tmp 71), type := 0, pos := "ref.go:111", after := #[{ on := 24, ground := Ground.data }, { on := 22, ground := Ground.data }, { on := 0, ground := Ground.phase }, { on := 1, ground := Ground.phase }, { on := 2, ground := Ground.phase }, { on := 3, ground := Ground.phase }, { on := 4, ground := Ground.phase }, { on := 5, ground := Ground.phase }, { on := 6, ground := Ground.phase }, { on := 7, ground := Ground.phase }, { on := 8, ground := Ground.phase }, { on := 9, ground := Ground.phase }, { on := 10, ground := Ground.phase }, { on := 11, ground := Ground.phase }, { on := 12, ground := Ground.phase }, { on := 13, ground := Ground.phase }, { on := 14, ground := Ground.phase }, { on := 15, ground := Ground.phase }, { on := 16, ground := Ground.phase }, { on := 17, ground := Ground.phase }, { on := 18, ground := Ground.phase }, { on := 19, ground := Ground.phase }, { on := 20, ground := Ground.phase }, { on := 21, ground := Ground.phase }, { on := 22, ground := Ground.phase }], guard := none }) (by kernel_rfl) (by kernel_rfl) rfl (fun w1x hb1 K hK => ?_)
         have hp9 := HPR.out.below hb1
         have hkj : xk * 64 + j < (flatW bvs (SJ.set xk (mixB j ob xb))).length := HIX.out
         have c9 : w1x.cell? ⟨gs, xk * 64 + j, none⟩ = some ((flatW bvs (SJ.set xk (mixB j ob xb)))[xk * 64 + j]) := hp9.hs.cell (List.getElem?_eq_getElem hkj)
         have f9 := hp9.hs.frozen (xk * 64 + j)
         have HPF := Lib.hid (hp9.byte HXN.out HJ64.out cc)
         have HKF := Lib.hid ((HKR.out.next hb1).trans (keptG w1x gs (xk * 64 + j) (.int .u8 (cc.toNat : Int))) (fun _ _ e => .inr (.inl e)))
         clear hp9
         go_simp
         refine hK.out _ _ ?_
         clear hK K
         try simp only [Act.put]
         clear c9 f9 hkj
         obtain ⟨wF, hwF⟩ : ∃ z, z = w1x.setCell ⟨gs, xk * 64 + j, none⟩ (.int .u8 (cc.toNat : Int)) := ⟨_, rfl⟩
         rw [← hwF] at HPF HKF ⊢
         clear hwF hb1
         go_wp2_with fail
         refine ⟨⟨j + 1, by omega, by push_cast; rfl, ?_, HKF.out⟩, by simp [intOf]; omega⟩
         have h9 := HPF.out
         rw [HSTEP.out] at h9
         exact h9
        ·
         obtain hje : j = N := by omega
         have hnj : decide ((j : Int) < N) = false := by simp; omega
         subst hje
         clear hpr hkr
         go_wp2_with fail
         refine ⟨⟨i + 1, by omega, by push_cast; rfl, ?_, HKR.out⟩, by simp [intOf]; omega⟩
         rw [HNX.out, ← HNN.out]
         exact HPR.out
     ·
      have HNN : Hid (64 = pickN picks i) := by show 64 = _; rw [hpk, if_neg h65]
      have h65' : decide (p1 < 65) = false := by simp; omega
      clear hpk hpb
      go_wp2_with fail
      clear hc2
      have e0 : SJ.set xk (mixB 0 ob xb) = SJ := by
       have e1 : mixB 0 ob xb = ob := by simp [mixB]
       rw [e1, ← HOB.out, List.getD_eq_getElem?_getD, List.getElem?_eq_getElem (by rw [HSL.out.1]; exact H4.out)]
       simp
      have HE0 := Lib.hid e0
      clear e0
      go_loopw [7] (fun y wr => ∃ j : Nat, j ≤ 64 ∧ y = .int .i64 j ∧ PMem wr g gs (.slice (some ⟨bo, 0, none⟩) q c) n { D with off := true, torn := false, arm := 0, syn := SJ.set xk (mixB j ob xb) } ∧ Kept (PS g gs (.slice (some ⟨bo, 0, none⟩) q c)) w wr) (fun y _ => 64 - (intOf y).toNat)
      case atStart => exact ⟨0, Nat.zero_le _, rfl, by rw [HE0.out]; exact HPS.out, HKO.out⟩
      case round =>
       obtain ⟨j, hj, rfl, hpr, hkr⟩ := hrel
       have HPR := Lib.hid hpr
       have HKR := Lib.hid hkr
       have HN64 : Hid (64 ≤ 64) := by show _ ≤ _; have := HNN.out; have := pickN_le picks i; omega
       by_cases hjl : j < 64
       ·
        have hj64 : j < 64 := by have := HN64.out; omega
        obtain ⟨hq3, hop2⟩ := hpr.opAt
        clear hq3
        have hil : i < D.op.length := by have := HQ.out; omega
        obtain ⟨bo2, hbo2, k1, k2, k3, hel⟩ := hop2 (by show 0 < D.op.length; omega)
        obtain ⟨k4, k5, k6, k7⟩ := hel i hil
        simp only [Option.some.injEq, Addr.mk.injEq, and_true] at hbo2
        subst hbo2
        obtain ⟨cc, hcc⟩ : ∃ z, z = xb.getD j 0 := ⟨_, rfl⟩
        have k6' : wr.cell? ⟨bo, i * 65, none⟩ = some (.int .i64 (xk : Int)) := by have h8 := k6; simp only [HXE.out] at h8; exact h8
        have k7' : wr.cell? ⟨bo, i * 65 + 1 + j, none⟩ = some (.int .u8 (cc.toNat : Int)) := by
         have h8 := k7
         simp only [HXE.out] at h8
         refine h8 j _ ?_
         have hjb : j < xb.length := by rw [H5.out]; exact hj64
         rw [hcc, List.getD_eq_getElem?_getD, List.getElem?_eq_getElem hjb]
         simp [bvs, hjb]
        have HC1 := Lib.hid hpr.cells.2.1
        have HC2 := Lib.hid hpr.cells.2.2.1
        have HCA := Lib.hid k6'
        have HCC := Lib.hid k7'
        have HXN : Hid (xk < n) := H4.out
        have HJ64 : Hid (j < 64) := hj64
        have hml : ∀ y, y ≤ 64 → (mixB y ob xb).length = 64 := fun y hy => mixB_length HO64.out H5.out hy
        have HIX : Hid (xk * 64 + j < (flatW bvs (SJ.set xk (mixB j ob xb))).length) := by
         show _ < _
         rw [flatW_length (W := 64) (fun a ha => by rw [bvs_length]; exact hpr.ok.syn.2 a ha), List.length_set, HSL.out.1]
         have := Nat.mul_le_mul_right 64 (show xk + 1 ≤ n from H4.out)
         rw [Nat.succ_mul] at this
         omega
        have HSTEP : Hid ((SJ.set xk (mixB j ob xb)).set xk (((SJ.set xk (mixB j ob xb)).getD xk []).set j cc) = SJ.set xk (mixB (j + 1) ob xb)) := by
         show _ = _
         have hx2 : xk < SJ.length := by rw [HSL.out.1]; exact H4.out
         rw [List.getD_eq_getElem?_getD, List.getElem?_set_self hx2]
         show (SJ.set xk (mixB j ob xb)).set xk ((mixB j ob xb).set j cc) = _
         rw [List.set_set, hcc, mixB_step HO64.out H5.out hj64]
        have hj0 : (0 : Int) ≤ j ∧ (j : Int) < 64 ∧ (j : Int) < 64 := by omega
        have hx0 : (0 : Int) ≤ xk ∧ (xk : Int) < n := by have := H4.out; omega
        have hi1 : (0 : Int) ≤ i ∧ (i : Int) < q := by omega
        clear hpr hkr hop2 k1 k2 k3 k4 k5 k6 k7 hel k6' k7' hml hcc
        go_wp2_with fail
        refine wp_region_bl 25 (by kernel_rfl) ?_
        refine wpAnyU_take (i := 0) (oi := { dst := some 49, op := Op.move (Operand.tmp 0), type := 67, pos := "ref.go:111", after := #[], guard := none }) (v := (.pointer (some ⟨g, 0, none⟩))) rfl (by kernel_rfl) (by kernel_rfl) (by kernel_rfl) (by kernel_rfl) (by kernel_rfl) (fun _ _ _ h => h) (BL.cls wr) ?_ ?_
        ·
         refine Or.inl ⟨rfl, fun w hSw => ?_⟩
         exact EffR.same (by go_simp)
        try simp only [Act.put, zA, zB, zC]
        refine wpAnyU_take (i := 1) (oi := { dst := some 50, op := Op.nilCheck (Operand.tmp 49), type := 0, pos := "ref.go:111", after := #[{ on := 0, ground := Ground.data }], guard := none }) (v := (.pointer (some ⟨g, 0, none⟩))) rfl (by kernel_rfl) (by kernel_rfl) (by kernel_rfl) (by kernel_rfl) (by kernel_rfl) (fun _ _ _ h => h) (BL.cls wr) ?_ ?_
        ·
         refine Or.inl ⟨rfl, fun w hSw => ?_⟩
         exact EffR.same (by go_simp)
        try simp only [Act.put, zA, zB, zC]
        refine wpAnyU_take (i := 2) (oi := { dst := some 51, op := Op.fieldAddr 78 (Operand.tmp 50) 1, type := 0, pos := "ref.go:111", after := #[{ on := 1, ground := Ground.data }], guard := none }) (v := (.pointer (some ⟨g, 1, none⟩))) rfl (by kernel_rfl) (by kernel_rfl) (by kernel_rfl) (by kernel_rfl) (by kernel_rfl) (fun _ _ _ h => h) (BL.cls wr) ?_ ?_
        ·
         refine Or.inl ⟨rfl, fun w hSw => ?_⟩
         exact EffR.same (by go_simp)
        try simp only [Act.put, zA, zB, zC]
        refine wpAnyU_take (i := 3) (oi := { dst := some 52, op := Op.load 75 (Operand.tmp 51), type := 75, pos := "ref.go:111", after := #[{ on := 2, ground := Ground.data }], guard := none }) (v := (.slice (some ⟨gs, 0, none⟩) n n)) rfl (by kernel_rfl) (by kernel_rfl) (by kernel_rfl) (by kernel_rfl) (by kernel_rfl) (fun _ _ _ h => h) (BL.cls wr) ?_ ?_
        ·
         refine Or.inl ⟨rfl, fun w hSw => ?_⟩
         have e0 := BL.cell hSw HC1.out
         exact EffR.same (by go_simp)
        try simp only [Act.put, zA, zB, zC]
        refine wpAnyU_take (i := 4) (oi := { dst := some 53, op := Op.move (Operand.tmp 0), type := 67, pos := "ref.go:111", after := #[], guard := none }) (v := (.pointer (some ⟨g, 0, none⟩))) rfl (by kernel_rfl) (by kernel_rfl) (by kernel_rfl) (by kernel_rfl) (by kernel_rfl) (fun _ _ _ h => h) (BL.cls wr) ?_ ?_
        ·
         refine Or.inl ⟨rfl, fun w hSw => ?_⟩
         exact EffR.same (by go_simp)
        try simp only [Act.put, zA, zB, zC]
        refine wpAnyU_take (i := 5) (oi := { dst := some 54, op := Op.nilCheck (Operand.tmp 53), type := 0, pos := "ref.go:111", after := #[{ on := 4, ground := Ground.data }], guard := none }) (v := (.pointer (some ⟨g, 0, none⟩))) rfl (by kernel_rfl) (by kernel_rfl) (by kernel_rfl) (by kernel_rfl) (by kernel_rfl) (fun _ _ _ h => h) (BL.cls wr) ?_ ?_
        ·
         refine Or.inl ⟨rfl, fun w hSw => ?_⟩
         exact EffR.same (by go_simp)
        try simp only [Act.put, zA, zB, zC]
        refine wpAnyU_take (i := 6) (oi := { dst := some 55, op := Op.fieldAddr 78 (Operand.tmp 54) 2, type := 0, pos := "ref.go:111", after := #[{ on := 5, ground := Ground.data }], guard := none }) (v := (.pointer (some ⟨g, 2, none⟩))) rfl (by kernel_rfl) (by kernel_rfl) (by kernel_rfl) (by kernel_rfl) (by kernel_rfl) (fun _ _ _ h => h) (BL.cls wr) ?_ ?_
        ·
         refine Or.inl ⟨rfl, fun w hSw => ?_⟩
         exact EffR.same (by go_simp)
        try simp only [Act.put, zA, zB, zC]
        refine wpAnyU_take (i := 7) (oi := { dst := some 56, op := Op.load 76 (Operand.tmp 55), type := 76, pos := "ref.go:111", after := #[{ on := 6, ground := Ground.data }], guard := none }) (v := (.slice (some ⟨bo, 0, none⟩) q c)) rfl (by kernel_rfl) (by kernel_rfl) (by kernel_rfl) (by kernel_rfl) (by kernel_rfl) (fun _ _ _ h => h) (BL.cls wr) ?_ ?_
        ·
         refine Or.inl ⟨rfl, fun w hSw => ?_⟩
         have e0 := BL.cell hSw HC2.out
         exact EffR.same (by go_simp)
        try simp only [Act.put, zA, zB, zC]
        refine wpAnyU_take (i := 8) (oi := { dst := some 57, op := Op.move (Operand.tmp 4), type := 3, pos := "ref.go:111", after := #[], guard := none }) (v := (.int .i64 (i : Int))) rfl (by kernel_rfl) (by kernel_rfl) (by kernel_rfl) (by kernel_rfl) (by kernel_rfl) (fun _ _ _ h => h) (BL.cls wr) ?_ ?_
        ·
         refine Or.inl ⟨rfl, fun w hSw => ?_⟩
         exact EffR.same (by go_simp)
        try simp only [Act.put, zA, zB, zC]
        refine wpAnyU_take (i := 9) (oi := { dst := some 58, op := Op.indexAddr 76 (Operand.tmp 56) (Operand.tmp 57), type := 0, pos := "ref.go:111", after := #[{ on := 7, ground := Ground.data }, { on := 8, ground := Ground.data }], guard := none }) (v := (.pointer (some ⟨bo, i * 65, none⟩))) rfl (by kernel_rfl) (by kernel_rfl) (by kernel_rfl) (by kernel_rfl) (by kernel_rfl) (fun _ _ _ h => h) (BL.cls wr) ?_ ?_
        ·
         refine Or.inl ⟨rfl, fun w hSw => ?_⟩
         have hq : ¬ q ≤ i := (by omega)
         exact EffR.same (by go_simp)
        try simp only [Act.put, zA, zB, zC]
        refine wpAnyU_take (i := 10) (oi := { dst := some 59, op := Op.fieldAddr 100 (Operand.tmp 58) 0, type := 0, pos := "ref.go:111", after := #[{ on := 9, ground := Ground.data }], guard := none }) (v := (.pointer (some ⟨bo, i * 65, none⟩))) rfl (by kernel_rfl) (by kernel_rfl) (by kernel_rfl) (by kernel_rfl) (by kernel_rfl) (fun _ _ _ h => h) (BL.cls wr) ?_ ?_
        ·
         refine Or.inl ⟨rfl, fun w hSw => ?_⟩
         exact EffR.same (by go_simp)
        try simp only [Act.put, zA, zB, zC]
        refine wpAnyU_take (i := 11) (oi := { dst := some 60, op := Op.load 3 (Operand.tmp 59), type := 3, pos := "ref.go:111", after := #[{ on := 10, ground := Ground.data }], guard := none }) (v := (.int .i64 (xk : Int))) rfl (by kernel_rfl) (by kernel_rfl) (by kernel_rfl) (by kernel_rfl) (by kernel_rfl) (fun _ _ _ h => h) (BL.cls wr) ?_ ?_
        ·
         refine Or.inl ⟨rfl, fun w hSw => ?_⟩
         have e0 := BL.cell hSw HCA.out
         exact EffR.same (by go_simp)
        try simp only [Act.put, zA, zB, zC]
        refine wpAnyU_take (i := 12) (oi := { dst := some 61, op := Op.move (Operand.tmp 7), type := 3, pos := "ref.go:111", after := #[], guard := none }) (v := (.int .i64 (j : Int))) rfl (by kernel_rfl) (by kernel_rfl) (by kernel_rfl) (by kernel_rfl) (by kernel_rfl) (fun _ _ _ h => h) (BL.cls wr) ?_ ?_
        ·
         refine Or.inl ⟨rfl, fun w hSw => ?_⟩
         exact EffR.same (by go_simp)
        try simp only [Act.put, zA, zB, zC]
        refine wpAnyU_take (i := 13) (oi := { dst := some 62, op := Op.move (Operand.tmp 0), type := 67, pos := "ref.go:111", after := #[], guard := none }) (v := (.pointer (some ⟨g, 0, none⟩))) rfl (by kernel_rfl) (by kernel_rfl) (by kernel_rfl) (by kernel_rfl) (by kernel_rfl) (fun _ _ _ h => h) (BL.cls wr) ?_ ?_
        ·
         refine Or.inl ⟨rfl, fun w hSw => ?_⟩
         exact EffR.same (by go_simp)
        try simp only [Act.put, zA, zB, zC]
        refine wpAnyU_take (i := 14) (oi := { dst := some 63, op := Op.nilCheck (Operand.tmp 62), type := 0, pos := "ref.go:111", after := #[{ on := 13, ground := Ground.data }], guard := none }) (v := (.pointer (some ⟨g, 0, none⟩))) rfl (by kernel_rfl) (by kernel_rfl) (by kernel_rfl) (by kernel_rfl) (by kernel_rfl) (fun _ _ _ h => h) (BL.cls wr) ?_ ?_
        ·
         refine Or.inl ⟨rfl, fun w hSw => ?_⟩
         exact EffR.same (by go_simp)
        try simp only [Act.put, zA, zB, zC]
        refine wpAnyU_take (i := 15) (oi := { dst := some 64, op := Op.fieldAddr 78 (Operand.tmp 63) 2, type := 0, pos := "ref.go:111", after := #[{ on := 14, ground := Ground.data }], guard := none }) (v := (.pointer (some ⟨g, 2, none⟩))) rfl (by kernel_rfl) (by kernel_rfl) (by kernel_rfl) (by kernel_rfl) (by kernel_rfl) (fun _ _ _ h => h) (BL.cls wr) ?_ ?_
        ·
         refine Or.inl ⟨rfl, fun w hSw => ?_⟩
         exact EffR.same (by go_simp)
        try simp only [Act.put, zA, zB, zC]
        refine wpAnyU_take (i := 16) (oi := { dst := some 65, op := Op.load 76 (Operand.tmp 64), type := 76, pos := "ref.go:111", after := #[{ on := 15, ground := Ground.data }], guard := none }) (v := (.slice (some ⟨bo, 0, none⟩) q c)) rfl (by kernel_rfl) (by kernel_rfl) (by kernel_rfl) (by kernel_rfl) (by kernel_rfl) (fun _ _ _ h => h) (BL.cls wr) ?_ ?_
        ·
         refine Or.inl ⟨rfl, fun w hSw => ?_⟩
         have e0 := BL.cell hSw HC2.out
         exact EffR.same (by go_simp)
        try simp only [Act.put, zA, zB, zC]
        refine wpAnyU_take (i := 17) (oi := { dst := some 66, op := Op.move (Operand.tmp 4), type := 3, pos := "ref.go:111", after := #[], guard := none }) (v := (.int .i64 (i : Int))) rfl (by kernel_rfl) (by kernel_rfl) (by kernel_rfl) (by kernel_rfl) (by kernel_rfl) (fun _ _ _ h => h) (BL.cls wr) ?_ ?_
        ·
         refine Or.inl ⟨rfl, fun w hSw => ?_⟩
         exact EffR.same (by go_simp)
        try simp only [Act.put, zA, zB, zC]
        refine wpAnyU_take (i := 18) (oi := { dst := some 67, op := Op.move (Operand.tmp 7), type := 3, pos := "ref.go:111", after := #[], guard := none }) (v := (.int .i64 (j : Int))) rfl (by kernel_rfl) (by kernel_rfl) (by kernel_rfl) (by kernel_rfl) (by kernel_rfl) (fun _ _ _ h => h) (BL.cls wr) ?_ ?_
        ·
         refine Or.inl ⟨rfl, fun w hSw => ?_⟩
         exact EffR.same (by go_simp)
        try simp only [Act.put, zA, zB, zC]
        refine wpAnyU_take (i := 19) (oi := { dst := some 68, op := Op.indexAddr 76 (Operand.tmp 65) (Operand.tmp 66), type := 0, pos := "ref.go:111", after := #[{ on := 16, ground := Ground.data }, { on := 17, ground := Ground.data }], guard := none }) (v := (.pointer (some ⟨bo, i * 65, none⟩))) rfl (by kernel_rfl) (by kernel_rfl) (by kernel_rfl) (by kernel_rfl) (by kernel_rfl) (fun _ _ _ h => h) (BL.cls wr) ?_ ?_
        ·
         refine Or.inl ⟨rfl, fun w hSw => ?_⟩
         have hq : ¬ q ≤ i := (by omega)
         exact EffR.same (by go_simp)
        try simp only [Act.put, zA, zB, zC]
        refine wpAnyU_take (i := 20) (oi := { dst := some 69, op := Op.fieldAddr 100 (Operand.tmp 68) 1, type := 0, pos := "ref.go:111", after := #[{ on := 19, ground := Ground.data }], guard := none }) (v := (.pointer (some ⟨bo, i * 65 + 1, none⟩))) rfl (by kernel_rfl) (by kernel_rfl) (by kernel_rfl) (by kernel_rfl) (by kernel_rfl) (fun _ _ _ h => h) (BL.cls wr) ?_ ?_
        ·
         refine Or.inl ⟨rfl, fun w hSw => ?_⟩
         exact EffR.same (by go_simp)
        try simp only [Act.put, zA, zB, zC]
        refine wpAnyU_take (i := 21) (oi := { dst := some 70, op := Op.indexAddr 36 (Operand.tmp 69) (Operand.tmp 67), type := 0, pos := "ref.go:111", after := #[{ on := 20, ground := Ground.data }, { on := 18, ground := Ground.data }], guard := none }) (v := (.pointer (some ⟨bo, i * 65 + 1 + j, none⟩))) rfl (by kernel_rfl) (by kernel_rfl) (by kernel_rfl) (by kernel_rfl) (by kernel_rfl) (fun _ _ _ h => h) (BL.cls wr) ?_ ?_
        ·
         refine Or.inl ⟨rfl, fun w hSw => ?_⟩
         have hq : ¬ 64 ≤ j := (by omega)
         exact EffR.same (by go_simp)
        try simp only [Act.put, zA, zB, zC]
        refine wpAnyU_take (i := 22) (oi := { dst := some 71, op := Op.load 5 (Operand.tmp 70), type := 5, pos := "ref.go:111", after := #[{ on := 21, ground := Ground.data }], guard := none }) (v := (.int .u8 (cc.toNat : Int))) rfl (by kernel_rfl) (by kernel_rfl) (by kernel_rfl) (by kernel_rfl) (by kernel_rfl) (fun _ _ _ h => h) (BL.cls wr) ?_ ?_
        ·
         refine Or.inl ⟨rfl, fun w hSw => ?_⟩
         have e0 := BL.cell hSw HCC.out
         exact EffR.same (by go_simp)
        try simp only [Act.put, zA, zB, zC]
        refine wpAnyU_take (i := 23) (oi := { dst := some 72, op := Op.indexAddr 75 (Operand.tmp 52) (Operand.tmp 60), type := 0, pos := "ref.go:111", after := #[{ on := 3, ground := Ground.data }, { on := 11, ground := Ground.data }], guard := none }) (v := (.pointer (some ⟨gs, xk * 64, none⟩))) rfl (by kernel_rfl) (by kernel_rfl) (by kernel_rfl) (by kernel_rfl) (by kernel_rfl) (fun _ _ _ h => h) (BL.cls wr) ?_ ?_
        ·
         refine Or.inl ⟨rfl, fun w hSw => ?_⟩
         have hq : ¬ n ≤ xk := (by omega)
         exact EffR.same (by go_simp)
        try simp only [Act.put, zA, zB, zC]
        refine wpAnyU_take (i := 24) (oi := { dst := some 73, op := Op.indexAddr 36 (Operand.tmp 72) (Operand.tmp 61), type := 0, pos := "ref.go:111", after := #[{ on := 23, ground := Ground.data }, { on := 12, ground := Ground.data }, { on := 0, ground := Ground.phase }, { on := 1, ground := Ground.phase }, { on := 2, ground := Ground.phase }, { on := 3, ground := Ground.phase }, { on := 4, ground := Ground.phase }, { on := 5, ground := Ground.phase }, { on := 6, ground := Ground.phase }, { on := 7, ground := Ground.phase }, { on := 8, ground := Ground.phase }, { on := 9, ground := Ground.phase }, { on := 10, ground := Ground.phase }, { on := 11, ground := Ground.phase }, { on := 12, ground := Ground.phase }, { on := 13, ground := Ground.phase }, { on := 14, ground := Ground.phase }, { on := 15, ground := Ground.phase }, { on := 16, ground := Ground.phase }, { on := 17, ground := Ground.phase }, { on := 18, ground := Ground.phase }, { on := 19, ground := Ground.phase }, { on := 20, ground := Ground.phase }, { on := 21, ground := Ground.phase }, { on := 22, ground := Ground.phase }], guard := none }) (v := (.pointer (some ⟨gs, xk * 64 + j, none⟩))) rfl (by kernel_rfl) (by kernel_rfl) (by kernel_rfl) (by kernel_rfl) (by kernel_rfl) (fun _ _ _ h => h) (BL.cls wr) ?_ ?_
        ·
         refine Or.inl ⟨rfl, fun w hSw => ?_⟩
         have hq : ¬ 64 ≤ j := (by omega)
         exact EffR.same (by go_simp)
        try simp only [Act.put, zA, zB, zC]
        refine wpAnyU_last (o := { dst := none, op := Op.store 5 (Operand.tmp 73) (Operand.tmp 71), type := 0, pos := "ref.go:111", after := #[{ on := 24, ground := Ground.data }, { on := 22, ground := Ground.data }, { on := 0, ground := Ground.phase }, { on := 1, ground := Ground.phase }, { on := 2, ground := Ground.phase }, { on := 3, ground := Ground.phase }, { on := 4, ground := Ground.phase }, { on := 5, ground := Ground.phase }, { on := 6, ground := Ground.phase }, { on := 7, ground := Ground.phase }, { on := 8, ground := Ground.phase }, { on := 9, ground := Ground.phase }, { on := 10, ground := Ground.phase }, { on := 11, ground := Ground.phase }, { on := 12, ground := Ground.phase }, { on := 13, ground := Ground.phase }, { on := 14, ground := Ground.phase }, { on := 15, ground := Ground.phase }, { on := 16, ground := Ground.phase }, { on := 17, ground := Ground.phase }, { on := 18, ground := Ground.phase }, { on := 19, ground := Ground.phase }, { on := 20, ground := Ground.phase }, { on := 21, ground := Ground.phase }, { on := 22, ground := Ground.phase }], guard := none }) (by kernel_rfl) (by kernel_rfl) rfl (fun w1x hb1 K hK => ?_)
        have hp9 := HPR.out.below hb1
        have hkj : xk * 64 + j < (flatW bvs (SJ.set xk (mixB j ob xb))).length := HIX.out
        have c9 : w1x.cell? ⟨gs, xk * 64 + j, none⟩ = some ((flatW bvs (SJ.set xk (mixB j ob xb)))[xk * 64 + j]) := hp9.hs.cell (List.getElem?_eq_getElem hkj)
        have f9 := hp9.hs.frozen (xk * 64 + j)
        have HPF := Lib.hid (hp9.byte HXN.out HJ64.out cc)
        have HKF := Lib.hid ((HKR.out.next hb1).trans (keptG w1x gs (xk * 64 + j) (.int .u8 (cc.toNat : Int))) (fun _ _ e => .inr (.inl e)))
        clear hp9
        go_simp
        refine hK.out _ _ ?_
        clear hK K
        try simp only [Act.put]
        clear c9 f9 hkj
        obtain ⟨wF, hwF⟩ : ∃ z, z = w1x.setCell ⟨gs, xk * 64 + j, none⟩ (.int .u8 (cc.toNat : Int)) := ⟨_, rfl⟩
        rw [← hwF] at HPF HKF ⊢
        clear hwF hb1
        go_wp2_with fail
        refine ⟨⟨j + 1, by omega, by push_cast; rfl, ?_, HKF.out⟩, by simp [intOf]; omega⟩
        have h9 := HPF.out
        rw [HSTEP.out] at h9
        exact h9
       ·
        obtain hje : j = 64 := by omega
        have hnj : decide ((j : Int) < 64) = false := by simp; omega
        subst hje
        clear hpr hkr
        go_wp2_with fail
        refine ⟨⟨i + 1, by omega, by push_cast; rfl, ?_, HKR.out⟩, by simp [intOf]; omega⟩
        rw [HNX.out, ← HNN.out]
        exact HPR.out
   ·
    have him0 : decide ((i : Int) < m) = false := by simp; omega
    have HNN : Hid (0 = pickN picks i) := by show 0 = _; unfold pickN; rw [List.getElem?_eq_none (by have := HM.out; omega)]
    go_wp2_with fail
    clear hc2
    have e0 : SJ.set xk (mixB 0 ob xb) = SJ := by
     have e1 : mixB 0 ob xb = ob := by simp [mixB]
     rw [e1, ← HOB.out, List.getD_eq_getElem?_getD, List.getElem?_eq_getElem (by rw [HSL.out.1]; exact H4.out)]
     simp
    have HE0 := Lib.hid e0
    clear e0
    go_loopw [7] (fun y wr => ∃ j : Nat, j ≤ 0 ∧ y = .int .i64 j ∧ PMem wr g gs (.slice (some ⟨bo, 0, none⟩) q c) n { D with off := true, torn := false, arm := 0, syn := SJ.set xk (mixB j ob xb) } ∧ Kept (PS g gs (.slice (some ⟨bo, 0, none⟩) q c)) w wr) (fun y _ => 0 - (intOf y).toNat)
    case atStart => exact ⟨0, Nat.zero_le _, rfl, by rw [HE0.out]; exact HPS.out, HKO.out⟩
    case round =>
     obtain ⟨j, hj, rfl, hpr, hkr⟩ := hrel
     have HPR := Lib.hid hpr
     have HKR := Lib.hid hkr
     have HN64 : Hid (0 ≤ 64) := by show _ ≤ _; have := HNN.out; have := pickN_le picks i; omega
     clear HN64
     obtain hje : j = 0 := by omega
     have hnj : decide ((j : Int) < 0) = false := by simp
     subst hje
     clear hpr hkr
     go_wp2_with fail
     refine ⟨⟨i + 1, by omega, by push_cast; rfl, ?_, HKR.out⟩, by simp [intOf]; omega⟩
     rw [HNX.out, ← HNN.out]
     exact HPR.out
  ·
   obtain rfl : i = q := by omega
   have hnn := Lib.hid hpr.clear
   have hfz := hpr.hd.frozen
   clear hpr HPO
   go_wp2_with fail
   go_end0
   refine ⟨rfl, .slice none 0 0, ?_, HKO.out.trans (keptG _ _ _ _) (fun _ _ e => .inl e), fun k hk => by cases hk⟩
   rw [HD.out]
   have h9 := hnn.out
   exact ⟨h9.hd, h9.hs, h9.ho, ⟨h9.ok.n1, h9.ok.syn, h9.ok.syn, h9.ok.op, h9.ok.few, h9.ok.arm⟩⟩
end Cam
