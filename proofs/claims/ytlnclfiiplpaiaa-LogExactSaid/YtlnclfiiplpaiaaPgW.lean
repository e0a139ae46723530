import Derived.Test.YtlnclfiiplpaiaaPgX
/- the page's journal: put. -/
namespace Cam
open Go Go.RowKit Go.Proofs
theorem bvs_setP (l : List UInt8) (j : Nat) (c : UInt8) : (bvs l).set j (.int .u8 (c.toNat : Int)) = bvs (l.set j c) := by
 unfold bvs
 rw [List.map_set]
def blkI (gen : Nat) (p : List UInt8) (j : Nat) : List UInt8 := markB gen :: (padB (p.take j) ++ [markB gen])
theorem blkI_length (gen : Nat) {p : List UInt8} (hp : p.length ≤ 62) (j : Nat) : (blkI gen p j).length = 64 := by
 unfold blkI
 rw [List.length_cons, List.length_append, padB_length (by rw [List.length_take]; omega)]
 rfl
theorem blkI_zero (gen : Nat) (p : List UInt8) : (zero64.set 0 (markB gen)).set 63 (markB gen) = blkI gen p 0 := by
 unfold blkI padB zero64
 rw [List.take_zero]
 rfl
theorem blkI_all (gen : Nat) (b : List UInt8) (k : Nat) : blkI gen ((b.drop (k * 62)).take 62) ((b.drop (k * 62)).take 62).length = blockB gen b k := by
 unfold blkI blockB
 rw [List.take_length]
theorem blkI_step (gen : Nat) {p : List UInt8} (hp : p.length ≤ 62) {j : Nat} (hj : j < p.length) : (blkI gen p j).set (j + 1) p[j] = blkI gen p (j + 1) := by
 unfold blkI padB
 rw [List.set_cons_succ]
 congr 1
 apply List.ext_getElem?
 intro i
 rw [List.getElem?_set]
 simp only [List.length_append, List.length_take, List.length_replicate, List.length_cons, List.length_nil]
 have e1 : min j p.length = j := by omega
 have e2 : min (j + 1) p.length = j + 1 := by omega
 rw [e1, e2]
 by_cases h1 : j = i
 ·
  subst h1
  rw [if_pos rfl, if_pos (by omega), List.getElem?_append_left (by simp; omega), List.getElem?_append_left (by simp; omega), List.getElem?_take_of_lt (by omega), List.getElem?_eq_getElem hj]
 ·
  rw [if_neg h1]
  simp only [List.getElem?_append, List.getElem?_replicate, List.length_append, List.length_take, List.length_replicate, e1, e2]
  rw [show j + (62 - j) = 62 by omega, show j + 1 + (62 - (j + 1)) = 62 by omega]
  by_cases h2 : i < 62
  ·
   rw [if_pos h2, if_pos h2]
   by_cases h3 : i < j
   ·
    rw [if_pos h3, if_pos (by omega), List.getElem?_take_of_lt (by omega), List.getElem?_take_of_lt (by omega)]
   ·
    rw [if_neg h3, if_pos (show i - j < 62 - j by omega), if_neg (show ¬ i < j + 1 by omega), if_pos (show i - (j + 1) < 62 - (j + 1) by omega)]
  ·
   rw [if_neg h2, if_neg h2]
def putL (gen : Nat) (b : List UInt8) : List (List UInt8) := (List.range (needN b.length)).map (blockB gen b)
theorem putL_length (gen : Nat) (b : List UInt8) : (putL gen b).length = needN b.length := by simp [putL]
theorem putL_rows (g k : Nat) (p : List UInt8) (hl : (sealB g k p).length = p.length + 21) : putL g (sealB g k p) = rowsOf g k p := by
 unfold putL rowsOf
 rw [hl]
set_option maxRecDepth 100000 in
set_option maxHeartbeats 6400000 in
theorem pput_any (w : World) (g n : Nat) (F : Nat → Prop) (D : DK) (h : PX w g F n D) (hf at_ gen : Nat) (v : Value) (b : List UInt8) (hp : ∀ w', Kept F w w' → Bs w' v b)
  (hat : hf * (n / 2) + at_ + needN b.length ≤ n) (hgen : gen ≤ 1099511627776) (hbl : b.length ≤ 100000) (hop : D.op.length + needN b.length ≤ 1000000) :
  Calls Try.prog 67 #[.pointer (some ⟨g, 0, none⟩), .int .i64 (hf : Int), .int .i64 (at_ : Int), .int .i64 (gen : Int), v] w fun e w' => e = .returned (.int .i64 (dWrites D (hf * (n / 2) + at_) (putL gen b)).1) ∧ PXPost w g F n (dWrites D (hf * (n / 2) + at_) (putL gen b)).2 w' := by
 obtain ⟨av, cap, rfl, hcap, hm⟩ := (hp w (Kept.refl _ _)).shape
 obtain ⟨L, hL⟩ : ∃ z, z = putL gen b := ⟨_, rfl⟩
 obtain ⟨mB, hmB⟩ : ∃ z, z = needN b.length := ⟨_, rfl⟩
 obtain ⟨m, hmm⟩ : ∃ z, z = n / 2 := ⟨_, rfl⟩
 obtain ⟨fr, hfr⟩ : ∃ z, z = hf * (n / 2) := ⟨_, rfl⟩
 have hLn : L.length = mB := by rw [hL, putL_length, hmB]
 rw [← hmB] at hat hop
 rw [← hfr] at hat
 rw [← hL, ← hfr]
 obtain ⟨lb, hlb⟩ : ∃ z, z = b.length := ⟨_, rfl⟩
 have HMB : Hid (mB = (lb + 61) / 62) := by show _ = _; rw [hmB, hlb]; rfl
 have HLB := Lib.hid hlb
 rw [← hlb] at hcap hbl ⊢
 have HL := Lib.hid hL
 have HN := Lib.hid hLn
 have HP := Lib.hid hp
 have H := Lib.hid h
 have hn1 := h.ok.n1
 have HFR : Hid ((hf : Int) * (m : Int) = (fr : Int)) := by show _ = _; rw [hfr, hmm]; push_cast; rfl
 have HDV1 : Hid ((n : Int).tdiv 2 = (m : Int)) := by show _ = _; rw [Int.tdiv_eq_ediv_of_nonneg (by omega)]; omega
 have HDV2 : Hid ((n : Int) / 2 = (m : Int)) := by show _ = _; omega
 have HWM : Hid (IntKind.i64.wrap (m : Int) = (m : Int)) := IntWalk.i64_in _ (by omega)
 have HWF : Hid (IntKind.i64.wrap (fr : Int) = (fr : Int)) := IntWalk.i64_in _ (by omega)
 have HWA : Hid (IntKind.i64.wrap ((fr : Int) + at_) = (fr : Int) + at_) := IntWalk.i64_in _ (by omega)
 have hn2 : (0 : Int) ≤ fr ∧ (0 : Int) ≤ at_ ∧ (fr : Int) + at_ + mB ≤ n ∧ (n : Int) ≤ 65536 := by omega
 have hlb0 : (0 : Int) ≤ lb ∧ (lb : Int) ≤ 100000 := by omega
 have HGEN := Lib.hid hgen
 clear hL hmB hmm hfr hLn hlb hp h hgen
 go_enter Try.func67, Try.ntmps67
 go_wp2_with fail
 go_loopw [11] (fun i wr => ∃ (k : Nat) (Dk : DK) (F1 : Nat → Prop), k ≤ mB ∧ i = .int .i64 k ∧ PX wr g F1 n Dk ∧ Kept F w wr ∧ (∀ q, F1 q → F q ∨ w.heap.size ≤ q) ∧ Hid (dWrites D (fr + at_) L = dWrites Dk (fr + at_ + k) (L.drop k)) ∧ Hid (Dk.op.length ≤ D.op.length + k)) (fun i _ => mB - (intOf i).toNat)
 case atStart => exact ⟨0, D, F, Nat.zero_le _, rfl, H.out, Kept.refl _ _, fun q e => .inl e, rfl, Nat.le_refl _⟩
 case round =>
  obtain ⟨k, Dk, F1, hk, rfl, hdk, hkp, hf1, HREC, HOP⟩ := hrel
  have HD := Lib.hid hdk
  have HK := Lib.hid hkp
  have HF1 := Lib.hid hf1
  clear hdk hkp hf1
  by_cases hlt : k < mB
  ·
   have hkl : k < L.length := by have := HN.out; omega
   have hk0 : (0 : Int) ≤ k ∧ (k : Int) * 62 < lb := by have := HMB.out; omega
   have HWK : Hid (IntKind.i64.wrap ((fr : Int) + at_ + k) = (fr : Int) + at_ + k) := IntWalk.i64_in _ (by omega)
   obtain ⟨p, hp⟩ : ∃ z, z = (b.drop (k * 62)).take 62 := ⟨_, rfl⟩
   obtain ⟨q, hq⟩ : ∃ z, z = p.length := ⟨_, rfl⟩
   have hpl : q = min 62 (lb - k * 62) := by rw [hq, hp, List.length_take, List.length_drop, ← HLB.out]
   have hq0 : q ≤ 62 ∧ q + k * 62 ≤ lb ∧ (q = 62 ∨ q + k * 62 = lb) := by omega
   have HPQ := Lib.hid hq
   have HPP := Lib.hid hp
   have hz : HC (wr.alloc (.cells #[.int .u8 0, .int .u8 0, .int .u8 0, .int .u8 0, .int .u8 0, .int .u8 0, .int .u8 0, .int .u8 0, .int .u8 0, .int .u8 0, .int .u8 0, .int .u8 0, .int .u8 0, .int .u8 0, .int .u8 0, .int .u8 0, .int .u8 0, .int .u8 0, .int .u8 0, .int .u8 0, .int .u8 0, .int .u8 0, .int .u8 0, .int .u8 0, .int .u8 0, .int .u8 0, .int .u8 0, .int .u8 0, .int .u8 0, .int .u8 0, .int .u8 0, .int .u8 0, .int .u8 0, .int .u8 0, .int .u8 0, .int .u8 0, .int .u8 0, .int .u8 0, .int .u8 0, .int .u8 0, .int .u8 0, .int .u8 0, .int .u8 0, .int .u8 0, .int .u8 0, .int .u8 0, .int .u8 0, .int .u8 0, .int .u8 0, .int .u8 0, .int .u8 0, .int .u8 0, .int .u8 0, .int .u8 0, .int .u8 0, .int .u8 0, .int .u8 0, .int .u8 0, .int .u8 0, .int .u8 0, .int .u8 0, .int .u8 0, .int .u8 0, .int .u8 0] 36)) wr.heap.size (bvs zero64) := HC.new
   have hfz := hz.frozen
   have hcz0 : (wr.alloc (.cells #[.int .u8 0, .int .u8 0, .int .u8 0, .int .u8 0, .int .u8 0, .int .u8 0, .int .u8 0, .int .u8 0, .int .u8 0, .int .u8 0, .int .u8 0, .int .u8 0, .int .u8 0, .int .u8 0, .int .u8 0, .int .u8 0, .int .u8 0, .int .u8 0, .int .u8 0, .int .u8 0, .int .u8 0, .int .u8 0, .int .u8 0, .int .u8 0, .int .u8 0, .int .u8 0, .int .u8 0, .int .u8 0, .int .u8 0, .int .u8 0, .int .u8 0, .int .u8 0, .int .u8 0, .int .u8 0, .int .u8 0, .int .u8 0, .int .u8 0, .int .u8 0, .int .u8 0, .int .u8 0, .int .u8 0, .int .u8 0, .int .u8 0, .int .u8 0, .int .u8 0, .int .u8 0, .int .u8 0, .int .u8 0, .int .u8 0, .int .u8 0, .int .u8 0, .int .u8 0, .int .u8 0, .int .u8 0, .int .u8 0, .int .u8 0, .int .u8 0, .int .u8 0, .int .u8 0, .int .u8 0, .int .u8 0, .int .u8 0, .int .u8 0, .int .u8 0] 36)).cell? ⟨wr.heap.size, 0, none⟩ = some (.int .u8 0) := hz.cell (by rfl)
   have hcz1 : (wr.alloc (.cells #[.int .u8 0, .int .u8 0, .int .u8 0, .int .u8 0, .int .u8 0, .int .u8 0, .int .u8 0, .int .u8 0, .int .u8 0, .int .u8 0, .int .u8 0, .int .u8 0, .int .u8 0, .int .u8 0, .int .u8 0, .int .u8 0, .int .u8 0, .int .u8 0, .int .u8 0, .int .u8 0, .int .u8 0, .int .u8 0, .int .u8 0, .int .u8 0, .int .u8 0, .int .u8 0, .int .u8 0, .int .u8 0, .int .u8 0, .int .u8 0, .int .u8 0, .int .u8 0, .int .u8 0, .int .u8 0, .int .u8 0, .int .u8 0, .int .u8 0, .int .u8 0, .int .u8 0, .int .u8 0, .int .u8 0, .int .u8 0, .int .u8 0, .int .u8 0, .int .u8 0, .int .u8 0, .int .u8 0, .int .u8 0, .int .u8 0, .int .u8 0, .int .u8 0, .int .u8 0, .int .u8 0, .int .u8 0, .int .u8 0, .int .u8 0, .int .u8 0, .int .u8 0, .int .u8 0, .int .u8 0, .int .u8 0, .int .u8 0, .int .u8 0, .int .u8 0] 36)).cell? ⟨wr.heap.size, 63, none⟩ = some (.int .u8 0) := hz.cell (by rfl)
   have hmk := pMark_any (wr.alloc (.cells #[.int .u8 0, .int .u8 0, .int .u8 0, .int .u8 0, .int .u8 0, .int .u8 0, .int .u8 0, .int .u8 0, .int .u8 0, .int .u8 0, .int .u8 0, .int .u8 0, .int .u8 0, .int .u8 0, .int .u8 0, .int .u8 0, .int .u8 0, .int .u8 0, .int .u8 0, .int .u8 0, .int .u8 0, .int .u8 0, .int .u8 0, .int .u8 0, .int .u8 0, .int .u8 0, .int .u8 0, .int .u8 0, .int .u8 0, .int .u8 0, .int .u8 0, .int .u8 0, .int .u8 0, .int .u8 0, .int .u8 0, .int .u8 0, .int .u8 0, .int .u8 0, .int .u8 0, .int .u8 0, .int .u8 0, .int .u8 0, .int .u8 0, .int .u8 0, .int .u8 0, .int .u8 0, .int .u8 0, .int .u8 0, .int .u8 0, .int .u8 0, .int .u8 0, .int .u8 0, .int .u8 0, .int .u8 0, .int .u8 0, .int .u8 0, .int .u8 0, .int .u8 0, .int .u8 0, .int .u8 0, .int .u8 0, .int .u8 0, .int .u8 0, .int .u8 0] 36)) gen HGEN.out
   have hbA : Below wr.heap.size wr (wr.alloc (.cells #[.int .u8 0, .int .u8 0, .int .u8 0, .int .u8 0, .int .u8 0, .int .u8 0, .int .u8 0, .int .u8 0, .int .u8 0, .int .u8 0, .int .u8 0, .int .u8 0, .int .u8 0, .int .u8 0, .int .u8 0, .int .u8 0, .int .u8 0, .int .u8 0, .int .u8 0, .int .u8 0, .int .u8 0, .int .u8 0, .int .u8 0, .int .u8 0, .int .u8 0, .int .u8 0, .int .u8 0, .int .u8 0, .int .u8 0, .int .u8 0, .int .u8 0, .int .u8 0, .int .u8 0, .int .u8 0, .int .u8 0, .int .u8 0, .int .u8 0, .int .u8 0, .int .u8 0, .int .u8 0, .int .u8 0, .int .u8 0, .int .u8 0, .int .u8 0, .int .u8 0, .int .u8 0, .int .u8 0, .int .u8 0, .int .u8 0, .int .u8 0, .int .u8 0, .int .u8 0, .int .u8 0, .int .u8 0, .int .u8 0, .int .u8 0, .int .u8 0, .int .u8 0, .int .u8 0, .int .u8 0, .int .u8 0, .int .u8 0, .int .u8 0, .int .u8 0] 36)) := (Below.refl _ _).alloc (Nat.le_refl _) _
   have HZ := Lib.hid hz
   have HBA := Lib.hid hbA
   obtain ⟨mk, hmk0⟩ : ∃ z, z = (markB gen).toNat := ⟨_, rfl⟩
   rw [← hmk0] at hmk
   have HMK := Lib.hid hmk0
   have hx0 : HC (wr.alloc (.cells #[.int .u8 (mk : Int), .int .u8 0, .int .u8 0, .int .u8 0, .int .u8 0, .int .u8 0, .int .u8 0, .int .u8 0, .int .u8 0, .int .u8 0, .int .u8 0, .int .u8 0, .int .u8 0, .int .u8 0, .int .u8 0, .int .u8 0, .int .u8 0, .int .u8 0, .int .u8 0, .int .u8 0, .int .u8 0, .int .u8 0, .int .u8 0, .int .u8 0, .int .u8 0, .int .u8 0, .int .u8 0, .int .u8 0, .int .u8 0, .int .u8 0, .int .u8 0, .int .u8 0, .int .u8 0, .int .u8 0, .int .u8 0, .int .u8 0, .int .u8 0, .int .u8 0, .int .u8 0, .int .u8 0, .int .u8 0, .int .u8 0, .int .u8 0, .int .u8 0, .int .u8 0, .int .u8 0, .int .u8 0, .int .u8 0, .int .u8 0, .int .u8 0, .int .u8 0, .int .u8 0, .int .u8 0, .int .u8 0, .int .u8 0, .int .u8 0, .int .u8 0, .int .u8 0, .int .u8 0, .int .u8 0, .int .u8 0, .int .u8 0, .int .u8 0, .int .u8 (mk : Int)] 36)) wr.heap.size (bvs (blkI gen p 0)) := by
    rw [← blkI_zero, hmk0]
    exact HC.new
   have hbX : Below wr.heap.size wr (wr.alloc (.cells #[.int .u8 (mk : Int), .int .u8 0, .int .u8 0, .int .u8 0, .int .u8 0, .int .u8 0, .int .u8 0, .int .u8 0, .int .u8 0, .int .u8 0, .int .u8 0, .int .u8 0, .int .u8 0, .int .u8 0, .int .u8 0, .int .u8 0, .int .u8 0, .int .u8 0, .int .u8 0, .int .u8 0, .int .u8 0, .int .u8 0, .int .u8 0, .int .u8 0, .int .u8 0, .int .u8 0, .int .u8 0, .int .u8 0, .int .u8 0, .int .u8 0, .int .u8 0, .int .u8 0, .int .u8 0, .int .u8 0, .int .u8 0, .int .u8 0, .int .u8 0, .int .u8 0, .int .u8 0, .int .u8 0, .int .u8 0, .int .u8 0, .int .u8 0, .int .u8 0, .int .u8 0, .int .u8 0, .int .u8 0, .int .u8 0, .int .u8 0, .int .u8 0, .int .u8 0, .int .u8 0, .int .u8 0, .int .u8 0, .int .u8 0, .int .u8 0, .int .u8 0, .int .u8 0, .int .u8 0, .int .u8 0, .int .u8 0, .int .u8 0, .int .u8 0, .int .u8 (mk : Int)] 36)) := (Below.refl _ _).alloc (Nat.le_refl _) _
   have HX0 := Lib.hid hx0
   have HBX := Lib.hid hbX
   clear hx0 hbX
   have hmk1 : (0 : Int) ≤ mk ∧ (mk : Int) < 256 := by have := (markB gen).toNat_lt; omega
   have HFIN : Hid (blkI gen p q = L[k]) := by
    show _ = _
    simp only [HL.out, putL, List.getElem_map, List.getElem_range]
    rw [HPQ.out, HPP.out]
    exact blkI_all gen b k
   clear hp hq hpl hz hbA hmk0
   go_wp2_with fail
   refine hmk.mono ?_
   rintro e w' ⟨rfl, rfl⟩
   go_wp2_with fail
   refine hmk.mono ?_
   rintro e w' ⟨rfl, rfl⟩
   clear hmk
   go_wp2_with fail
   obtain ⟨V0, hV0⟩ : ∃ z, z = wr.alloc (.cells #[.int .u8 (mk : Int), .int .u8 0, .int .u8 0, .int .u8 0, .int .u8 0, .int .u8 0, .int .u8 0, .int .u8 0, .int .u8 0, .int .u8 0, .int .u8 0, .int .u8 0, .int .u8 0, .int .u8 0, .int .u8 0, .int .u8 0, .int .u8 0, .int .u8 0, .int .u8 0, .int .u8 0, .int .u8 0, .int .u8 0, .int .u8 0, .int .u8 0, .int .u8 0, .int .u8 0, .int .u8 0, .int .u8 0, .int .u8 0, .int .u8 0, .int .u8 0, .int .u8 0, .int .u8 0, .int .u8 0, .int .u8 0, .int .u8 0, .int .u8 0, .int .u8 0, .int .u8 0, .int .u8 0, .int .u8 0, .int .u8 0, .int .u8 0, .int .u8 0, .int .u8 0, .int .u8 0, .int .u8 0, .int .u8 0, .int .u8 0, .int .u8 0, .int .u8 0, .int .u8 0, .int .u8 0, .int .u8 0, .int .u8 0, .int .u8 0, .int .u8 0, .int .u8 0, .int .u8 0, .int .u8 0, .int .u8 0, .int .u8 0, .int .u8 0, .int .u8 (mk : Int)] 36) := ⟨_, rfl⟩
   rw [← hV0] at HX0 HBX
   rw [← hV0]
   obtain ⟨gx, hgx⟩ : ∃ z, z = wr.heap.size := ⟨_, rfl⟩
   rw [← hgx] at HX0
   rw [← hgx]
   have HGX := Lib.hid hgx
   clear hV0 hgx hfz hcz0 hcz1 HZ HBA
   go_loopw [13] (fun i wr => ∃ j : Nat, j ≤ q ∧ i = .int .i64 j ∧ HC wr gx (bvs (blkI gen p j)) ∧ Kept (fun z => z = gx) V0 wr) (fun i _ => q - (intOf i).toNat)
   case atStart => exact ⟨0, Nat.zero_le _, rfl, HX0.out, Kept.refl _ _⟩
   case round =>
    obtain ⟨j, hj, rfl, hcx, hkv⟩ := hrel
    have HCJ := Lib.hid hcx
    have HKJ := Lib.hid hkv
    have HKW : Hid (Kept F w wr) := ((HK.out.next HBX.out).trans HKJ.out (fun i hi e => by have := HK.out.size; have := HGX.out; omega))
    clear hcx hkv
    by_cases hjq : j < q
    ·
     have hj0 : (0 : Int) ≤ j ∧ (j : Int) < 62 ∧ (k : Int) * 62 + j < lb := by omega
     obtain ⟨bb, off, hae, hbw, hca⟩ := (HP.out wr HKW.out).at (by rw [← HLB.out]; omega)
     subst hae
     have hjb : k * 62 + j < b.length := by rw [← HLB.out]; omega
     have hcb := hca (k * 62 + j) hjb
     obtain ⟨c, hc⟩ : ∃ z, z = b[k * 62 + j] := ⟨_, rfl⟩
     rw [← hc] at hcb
     have hpj : j < p.length := by rw [← HPQ.out]; exact hjq
     have HCC : Hid (p[j] = c) := by
      show _ = _
      rw [hc]
      simp only [HPP.out, List.getElem_take, List.getElem_drop]
     have hfz := HCJ.out.frozen (1 + j)
     have hcj : ∃ u, wr.cell? ⟨gx, 1 + j, none⟩ = some (.int .u8 u) := by
      have hlt2 : 1 + j < (blkI gen p j).length := by rw [blkI_length gen (by rw [← HPQ.out]; omega)]; omega
      exact ⟨((blkI gen p j)[1 + j].toNat : Int), HCJ.out.cell (by unfold bvs; rw [List.getElem?_map, List.getElem?_eq_getElem hlt2]; rfl)⟩
     obtain ⟨u, hcj⟩ := hcj
     have hc9 := c.toNat_lt
     clear hca hbw hc
     go_wp2_with fail
     refine ⟨⟨j + 1, by omega, by push_cast; rfl, ?_, HKJ.out.setCell _ _ rfl⟩, by simp [intOf]; omega⟩
     have h9 := HCJ.out.put (1 + j) (.int .u8 (c.toNat : Int))
     rw [bvs_setP, Nat.add_comm 1 j, ← HCC.out, blkI_step gen (by rw [← HPQ.out]; omega) hpj, HCC.out] at h9
     rw [Nat.add_comm 1 j]
     exact h9
    ·
     obtain ⟨V, hV⟩ : ∃ z, z = wr := ⟨_, rfl⟩
     obtain rfl : j = q := by omega
     obtain ⟨xb, hxb⟩ : ∃ z, z = blkI gen p j := ⟨_, rfl⟩
     have hx64 : xb.length = 64 := by rw [hxb]; exact blkI_length gen (by rw [← HPQ.out]; omega) j
     have hcx : HC V gx (bvs xb) := by rw [hV, hxb]; exact HCJ.out
     have hVw : Kept (fun z => z = gx) V0 V := by rw [hV]; exact HKJ.out
     have hng : ¬ F1 gx := fun e => by have := HD.out.lt gx e; have := HGX.out; omega
     have hdv : PX V g F1 n Dk := (HD.out.below HBX.out).kept hVw (fun z e1 e2 => hng (by rw [← e2]; exact e1))
     have HDV := Lib.hid hdv
     have HKV : Hid (Kept F w V) := by show Kept F w V; rw [hV]; exact HKW.out
     have HCV := Lib.hid hdv.cell0
     have HRV := Lib.hid hcx.bytes
     have HCX := Lib.hid hcx
     have HNB := Lib.hid hng
     have HBB : Hid (xb = L[k]) := hxb.trans HFIN.out
     have HB64 := Lib.hid hx64
     have HSZ := Lib.hid (size64_of hx64)
     obtain ⟨Dn, hDn⟩ : ∃ z, z = (dWrite Dk (fr + at_ + k) xb).2 := ⟨_, rfl⟩
     obtain ⟨E, hE⟩ : ∃ z, z = (dWrite Dk (fr + at_ + k) xb).1 := ⟨_, rfl⟩
     have HDN := Lib.hid hDn
     have HE := Lib.hid hE
     have hj8 := hq0
     clear hDn hE hxb hx64 hcx hVw hng hdv hq0
     rw [← hV]
     clear hV
     by_cases h62 : j = 62
     ·
      have hjj : (j : Int) = 62 := by omega
      clear hj8
      go_upto_region 10 with fail
      refine wp_region_uni (S0 := (fun x => x.cell? ⟨g, 0, none⟩ = some (.int .i64 (n : Int)) ∧ x.rangeAt gx 0 (bvs xb))) (S := BL V) 15 (by kernel_rfl) (Below.refl _ _).drew ?_
      refine wpAnyU_take (i := 0) (oi := { dst := some 51, op := Op.move (Operand.tmp 0), type := 67, pos := "ref.go:214", after := #[], guard := none }) (v := (.pointer (some ⟨g, 0, none⟩))) rfl (by kernel_rfl) (by kernel_rfl) (by kernel_rfl) (by kernel_rfl) (by kernel_rfl) (fun _ _ _ h => h) (⟨fun x h => ⟨BL.cell h HCV.out, fun j v hv => BL.cell h (HRV.out j v hv)⟩, fun _ _ h hb => Below.next h hb⟩ : Cls (fun x => x.cell? ⟨g, 0, none⟩ = some (.int .i64 (n : Int)) ∧ x.rangeAt gx 0 (bvs xb)) (BL V)) ?_ ?_
      ·
       refine Or.inl ⟨rfl, fun w hSw => ?_⟩
       exact EffR.same (by go_simp)
      try simp only [Act.put, zA, zB, zC]
      refine wpAnyU_take (i := 1) (oi := { dst := some 52, op := Op.move (Operand.tmp 1), type := 3, pos := "ref.go:214", after := #[], guard := none }) (v := (.int .i64 (hf : Int))) rfl (by kernel_rfl) (by kernel_rfl) (by kernel_rfl) (by kernel_rfl) (by kernel_rfl) (fun _ _ _ h => h) (⟨fun x h => ⟨BL.cell h HCV.out, fun j v hv => BL.cell h (HRV.out j v hv)⟩, fun _ _ h hb => Below.next h hb⟩ : Cls (fun x => x.cell? ⟨g, 0, none⟩ = some (.int .i64 (n : Int)) ∧ x.rangeAt gx 0 (bvs xb)) (BL V)) ?_ ?_
      ·
       refine Or.inl ⟨rfl, fun w hSw => ?_⟩
       exact EffR.same (by go_simp)
      try simp only [Act.put, zA, zB, zC]
      refine wpAnyU_take (i := 2) (oi := { dst := some 53, op := Op.move (Operand.tmp 0), type := 67, pos := "ref.go:214", after := #[], guard := none }) (v := (.pointer (some ⟨g, 0, none⟩))) rfl (by kernel_rfl) (by kernel_rfl) (by kernel_rfl) (by kernel_rfl) (by kernel_rfl) (fun _ _ _ h => h) (⟨fun x h => ⟨BL.cell h HCV.out, fun j v hv => BL.cell h (HRV.out j v hv)⟩, fun _ _ h hb => Below.next h hb⟩ : Cls (fun x => x.cell? ⟨g, 0, none⟩ = some (.int .i64 (n : Int)) ∧ x.rangeAt gx 0 (bvs xb)) (BL V)) ?_ ?_
      ·
       refine Or.inl ⟨rfl, fun w hSw => ?_⟩
       exact EffR.same (by go_simp)
      try simp only [Act.put, zA, zB, zC]
      refine wpAnyU_take (i := 3) (oi := { dst := some 54, op := Op.nilCheck (Operand.tmp 53), type := 0, pos := "ref.go:214", after := #[{ on := 2, ground := Ground.data }], guard := none }) (v := (.pointer (some ⟨g, 0, none⟩))) rfl (by kernel_rfl) (by kernel_rfl) (by kernel_rfl) (by kernel_rfl) (by kernel_rfl) (fun _ _ _ h => h) (⟨fun x h => ⟨BL.cell h HCV.out, fun j v hv => BL.cell h (HRV.out j v hv)⟩, fun _ _ h hb => Below.next h hb⟩ : Cls (fun x => x.cell? ⟨g, 0, none⟩ = some (.int .i64 (n : Int)) ∧ x.rangeAt gx 0 (bvs xb)) (BL V)) ?_ ?_
      ·
       refine Or.inl ⟨rfl, fun w hSw => ?_⟩
       exact EffR.same (by go_simp)
      try simp only [Act.put, zA, zB, zC]
      refine wpAnyU_take (i := 4) (oi := { dst := some 55, op := Op.fieldAddr 78 (Operand.tmp 54) 0, type := 0, pos := "ref.go:214", after := #[{ on := 3, ground := Ground.data }], guard := none }) (v := (.pointer (some ⟨g, 0, none⟩))) rfl (by kernel_rfl) (by kernel_rfl) (by kernel_rfl) (by kernel_rfl) (by kernel_rfl) (fun _ _ _ h => h) (⟨fun x h => ⟨BL.cell h HCV.out, fun j v hv => BL.cell h (HRV.out j v hv)⟩, fun _ _ h hb => Below.next h hb⟩ : Cls (fun x => x.cell? ⟨g, 0, none⟩ = some (.int .i64 (n : Int)) ∧ x.rangeAt gx 0 (bvs xb)) (BL V)) ?_ ?_
      ·
       refine Or.inl ⟨rfl, fun w hSw => ?_⟩
       exact EffR.same (by go_simp)
      try simp only [Act.put, zA, zB, zC]
      refine wpAnyU_take (i := 5) (oi := { dst := some 56, op := Op.load 3 (Operand.tmp 55), type := 3, pos := "ref.go:214", after := #[{ on := 4, ground := Ground.data }], guard := none }) (v := (.int .i64 (n : Int))) rfl (by kernel_rfl) (by kernel_rfl) (by kernel_rfl) (by kernel_rfl) (by kernel_rfl) (fun _ _ _ h => h) (⟨fun x h => ⟨BL.cell h HCV.out, fun j v hv => BL.cell h (HRV.out j v hv)⟩, fun _ _ h hb => Below.next h hb⟩ : Cls (fun x => x.cell? ⟨g, 0, none⟩ = some (.int .i64 (n : Int)) ∧ x.rangeAt gx 0 (bvs xb)) (BL V)) ?_ ?_
      ·
       refine Or.inl ⟨rfl, fun w hSw => ?_⟩
       have e0 := hSw.1
       exact EffR.same (by go_simp)
      try simp only [Act.put, zA, zB, zC]
      refine wpAnyU_take (i := 6) (oi := { dst := some 57, op := Op.binOp BinOp.quo 3 (Operand.tmp 56) (Operand.const (Value.int IntKind.i64 2)) 3, type := 3, pos := "ref.go:214", after := #[{ on := 5, ground := Ground.data }], guard := none }) (v := (.int .i64 (m : Int))) rfl (by kernel_rfl) (by kernel_rfl) (by kernel_rfl) (by kernel_rfl) (by kernel_rfl) (fun _ _ _ h => h) (⟨fun x h => ⟨BL.cell h HCV.out, fun j v hv => BL.cell h (HRV.out j v hv)⟩, fun _ _ h hb => Below.next h hb⟩ : Cls (fun x => x.cell? ⟨g, 0, none⟩ = some (.int .i64 (n : Int)) ∧ x.rangeAt gx 0 (bvs xb)) (BL V)) ?_ ?_
      ·
       refine Or.inl ⟨rfl, fun w hSw => ?_⟩
       have e0 := HDV1.out
       have e1 := HDV2.out
       have e2 := HWM.out
       exact EffR.same (by go_simp)
      try simp only [Act.put, zA, zB, zC]
      refine wpAnyU_take (i := 7) (oi := { dst := some 58, op := Op.binOp BinOp.mul 3 (Operand.tmp 52) (Operand.tmp 57) 3, type := 3, pos := "ref.go:214", after := #[{ on := 1, ground := Ground.data }, { on := 6, ground := Ground.data }], guard := none }) (v := (.int .i64 (fr : Int))) rfl (by kernel_rfl) (by kernel_rfl) (by kernel_rfl) (by kernel_rfl) (by kernel_rfl) (fun _ _ _ h => h) (⟨fun x h => ⟨BL.cell h HCV.out, fun j v hv => BL.cell h (HRV.out j v hv)⟩, fun _ _ h hb => Below.next h hb⟩ : Cls (fun x => x.cell? ⟨g, 0, none⟩ = some (.int .i64 (n : Int)) ∧ x.rangeAt gx 0 (bvs xb)) (BL V)) ?_ ?_
      ·
       refine Or.inl ⟨rfl, fun w hSw => ?_⟩
       have e0 := HFR.out
       have e1 := HWF.out
       exact EffR.same (by go_simp)
      try simp only [Act.put, zA, zB, zC]
      refine wpAnyU_take (i := 8) (oi := { dst := some 59, op := Op.move (Operand.tmp 2), type := 3, pos := "ref.go:214", after := #[], guard := none }) (v := (.int .i64 (at_ : Int))) rfl (by kernel_rfl) (by kernel_rfl) (by kernel_rfl) (by kernel_rfl) (by kernel_rfl) (fun _ _ _ h => h) (⟨fun x h => ⟨BL.cell h HCV.out, fun j v hv => BL.cell h (HRV.out j v hv)⟩, fun _ _ h hb => Below.next h hb⟩ : Cls (fun x => x.cell? ⟨g, 0, none⟩ = some (.int .i64 (n : Int)) ∧ x.rangeAt gx 0 (bvs xb)) (BL V)) ?_ ?_
      ·
       refine Or.inl ⟨rfl, fun w hSw => ?_⟩
       exact EffR.same (by go_simp)
      try simp only [Act.put, zA, zB, zC]
      refine wpAnyU_take (i := 9) (oi := { dst := some 60, op := Op.binOp BinOp.add 3 (Operand.tmp 58) (Operand.tmp 59) 3, type := 3, pos := "ref.go:214", after := #[{ on := 7, ground := Ground.data }, { on := 8, ground := Ground.data }], guard := none }) (v := (.int .i64 ((fr : Int) + at_))) rfl (by kernel_rfl) (by kernel_rfl) (by kernel_rfl) (by kernel_rfl) (by kernel_rfl) (fun _ _ _ h => h) (⟨fun x h => ⟨BL.cell h HCV.out, fun j v hv => BL.cell h (HRV.out j v hv)⟩, fun _ _ h hb => Below.next h hb⟩ : Cls (fun x => x.cell? ⟨g, 0, none⟩ = some (.int .i64 (n : Int)) ∧ x.rangeAt gx 0 (bvs xb)) (BL V)) ?_ ?_
      ·
       refine Or.inl ⟨rfl, fun w hSw => ?_⟩
       have e0 := HWA.out
       exact EffR.same (by go_simp)
      try simp only [Act.put, zA, zB, zC]
      refine wpAnyU_take (i := 10) (oi := { dst := some 61, op := Op.move (Operand.tmp 11), type := 3, pos := "ref.go:214", after := #[], guard := none }) (v := (.int .i64 (k : Int))) rfl (by kernel_rfl) (by kernel_rfl) (by kernel_rfl) (by kernel_rfl) (by kernel_rfl) (fun _ _ _ h => h) (⟨fun x h => ⟨BL.cell h HCV.out, fun j v hv => BL.cell h (HRV.out j v hv)⟩, fun _ _ h hb => Below.next h hb⟩ : Cls (fun x => x.cell? ⟨g, 0, none⟩ = some (.int .i64 (n : Int)) ∧ x.rangeAt gx 0 (bvs xb)) (BL V)) ?_ ?_
      ·
       refine Or.inl ⟨rfl, fun w hSw => ?_⟩
       exact EffR.same (by go_simp)
      try simp only [Act.put, zA, zB, zC]
      refine wpAnyU_take (i := 11) (oi := { dst := some 62, op := Op.binOp BinOp.add 3 (Operand.tmp 60) (Operand.tmp 61) 3, type := 3, pos := "ref.go:214", after := #[{ on := 9, ground := Ground.data }, { on := 10, ground := Ground.data }], guard := none }) (v := (.int .i64 ((fr : Int) + at_ + k))) rfl (by kernel_rfl) (by kernel_rfl) (by kernel_rfl) (by kernel_rfl) (by kernel_rfl) (fun _ _ _ h => h) (⟨fun x h => ⟨BL.cell h HCV.out, fun j v hv => BL.cell h (HRV.out j v hv)⟩, fun _ _ h hb => Below.next h hb⟩ : Cls (fun x => x.cell? ⟨g, 0, none⟩ = some (.int .i64 (n : Int)) ∧ x.rangeAt gx 0 (bvs xb)) (BL V)) ?_ ?_
      ·
       refine Or.inl ⟨rfl, fun w hSw => ?_⟩
       have e0 := HWK.out
       exact EffR.same (by go_simp)
      try simp only [Act.put, zA, zB, zC]
      refine wpAnyU_take (i := 12) (oi := { dst := some 63, op := Op.load 36 (Operand.tmp 12), type := 36, pos := "ref.go:214", after := #[], guard := none }) (v := (.agg (bvs xb).toArray)) rfl (by kernel_rfl) (by kernel_rfl) (by kernel_rfl) (by kernel_rfl) (by kernel_rfl) (fun _ _ _ h => h) (⟨fun x h => ⟨BL.cell h HCV.out, fun j v hv => BL.cell h (HRV.out j v hv)⟩, fun _ _ h hb => Below.next h hb⟩ : Cls (fun x => x.cell? ⟨g, 0, none⟩ = some (.int .i64 (n : Int)) ∧ x.rangeAt gx 0 (bvs xb)) (BL V)) ?_ ?_
      ·
       refine Or.inl ⟨rfl, fun w hSw => ?_⟩
       exact eff_load_mid 36 (.tmp 12) rfl gx 0 rfl (bvs xb) _ hSw.2 Try.underlying36 rfl HSZ.out
      try simp only [Act.put, zA, zB, zC]
      refine wpAnyU_ready (rs := [13]) (by kernel_rfl) (by simp) ?_
      refine AllReadyU.cons (o := { dst := some 64, op := Op.call { callee := Callee.value (Operand.func 55), args := #[Operand.tmp 51, Operand.tmp 62, Operand.tmp 63], argTypes := #[67, 3, 36] }, type := 27, pos := "ref.go:214", after := #[{ on := 0, ground := Ground.data }, { on := 11, ground := Ground.data }, { on := 12, ground := Ground.data }], guard := none }) rfl (fun wA13 hA13 K hK => ?_) AllReadyU.nil
      have hw := PWrite_x wA13 g n F1 Dk (HDV.out.below hA13) (fr + at_ + k) (by omega) xb HB64.out (by have := HOP.out; omega)
      rw [Int.natCast_add, Int.natCast_add] at hw
      go_simp
      refine hw.mono ?_
      rintro e0 w3 ⟨he0, hpost⟩
      clear hw
      rw [← HE.out] at he0
      rw [← HDN.out] at hpost
      subst he0
      obtain ⟨F2, hd3, hk3, hf3⟩ := hpost
      have hkW : Kept F w w3 := (HKV.out.next hA13).trans hk3 (fun i hi e => by
       rcases HF1.out i e with e | e
       ·
        exact e
       ·
        omega)
      have hg3 := hd3.cell0
      have hr3 : w3.rangeAt gx 0 (bvs xb) := ((HCX.out.below hA13).kept hk3 (fun e => HNB.out e)).bytes
      have hf4 : Hid (∀ k, F2 k → F k ∨ w.heap.size ≤ k) := fun k e => by
       rcases hf3 k e with e | e
       ·
        exact HF1.out k e
       ·
        have h1 := HKV.out.size; have h2 := Below.size hA13; right; omega
      have HD3 := Lib.hid hd3
      have HK3 := Lib.hid hkW
      refine hK.out _ _ (BL w3) (⟨fun x h => ⟨BL.cell h hg3, fun j v hv => BL.cell h (hr3 j v hv)⟩, fun _ _ h hb => Below.next h hb⟩ : Cls (fun x => x.cell? ⟨g, 0, none⟩ = some (.int .i64 (n : Int)) ∧ x.rangeAt gx 0 (bvs xb)) (BL w3)) (Below.refl _ _) ?_
      clear hkW hd3 hk3 hf3
      clear hK K
      try simp only [Act.put, zA, zB, zC]
      refine wpAnyU_take (i := 14) (oi := { dst := some 14, op := Op.assign (Operand.tmp 64), type := 27, pos := "ref.go:214", after := #[{ on := 13, ground := Ground.data }, { on := 13, ground := Ground.chain }, { on := 0, ground := Ground.phase }, { on := 1, ground := Ground.phase }, { on := 2, ground := Ground.phase }, { on := 3, ground := Ground.phase }, { on := 4, ground := Ground.phase }, { on := 5, ground := Ground.phase }, { on := 6, ground := Ground.phase }, { on := 7, ground := Ground.phase }, { on := 8, ground := Ground.phase }, { on := 9, ground := Ground.phase }, { on := 10, ground := Ground.phase }, { on := 11, ground := Ground.phase }, { on := 12, ground := Ground.phase }, { on := 13, ground := Ground.phase }], guard := none }) (v := (.int .i64 E)) rfl (by kernel_rfl) (by kernel_rfl) (by kernel_rfl) (by kernel_rfl) (by kernel_rfl) (fun _ _ _ h => h) (⟨fun x h => ⟨BL.cell h hg3, fun j v hv => BL.cell h (hr3 j v hv)⟩, fun _ _ h hb => Below.next h hb⟩ : Cls (fun x => x.cell? ⟨g, 0, none⟩ = some (.int .i64 (n : Int)) ∧ x.rangeAt gx 0 (bvs xb)) (BL w3)) ?_ ?_
      ·
       refine Or.inl ⟨rfl, fun w hSw => ?_⟩
       exact EffR.same (by go_simp)
      try simp only [Act.put, zA, zB, zC]
      refine wpAnyU_done (by kernel_rfl) (fun w1 hb1 => ?_) _
      have HD4 := Lib.hid (HD3.out.below hb1)
      have HK4 := Lib.hid (HK3.out.next hb1)
      clear hb1 HD3 HK3
      by_cases h0 : E = 0
      ·
       have h01 : ((E : Int) != 0) = false := by rw [h0]; rfl
       have H00 := Lib.hid h0
       clear h0
       go_wp2_with fail
       refine ⟨⟨k + 1, Dn, F2, by omega, by push_cast; rfl, HD4.out, HK4.out, hf4.out, ?_, ?_⟩, by simp [intOf]; omega⟩
       ·
        show dWrites D (fr + at_) L = _
        rw [HREC.out, List.drop_eq_getElem_cons hkl, ← HBB.out]
        rw [dWrites_ok (by rw [← HE.out]; exact H00.out), ← HDN.out, Nat.add_assoc]
       ·
        show _ ≤ _
        rw [HDN.out]
        have := dWrite_op Dk (fr + at_ + k) xb
        have := HOP.out
        omega
      ·
       have h01 : ((E : Int) != 0) = true := by rw [bne_iff_ne]; exact h0
       have H00 := Lib.hid h0
       clear h0
       go_wp2_with fail
       go_ret
       have hfin : dWrites D (fr + at_) L = (E, Dn) := by
        rw [HREC.out, List.drop_eq_getElem_cons hkl, ← HBB.out]
        rw [dWrites_stop (by rw [← HE.out]; exact H00.out), HE.out, HDN.out]
       rw [hfin]
       exact ⟨rfl, F2, HD4.out, HK4.out, hf4.out⟩
     ·
      have hjj : (j : Int) < 62 ∧ (k : Int) * 62 + j = lb := by omega
      clear hj8
      go_upto_region 10 with fail
      refine wp_region_uni (S0 := (fun x => x.cell? ⟨g, 0, none⟩ = some (.int .i64 (n : Int)) ∧ x.rangeAt gx 0 (bvs xb))) (S := BL V) 15 (by kernel_rfl) (Below.refl _ _).drew ?_
      refine wpAnyU_take (i := 0) (oi := { dst := some 51, op := Op.move (Operand.tmp 0), type := 67, pos := "ref.go:214", after := #[], guard := none }) (v := (.pointer (some ⟨g, 0, none⟩))) rfl (by kernel_rfl) (by kernel_rfl) (by kernel_rfl) (by kernel_rfl) (by kernel_rfl) (fun _ _ _ h => h) (⟨fun x h => ⟨BL.cell h HCV.out, fun j v hv => BL.cell h (HRV.out j v hv)⟩, fun _ _ h hb => Below.next h hb⟩ : Cls (fun x => x.cell? ⟨g, 0, none⟩ = some (.int .i64 (n : Int)) ∧ x.rangeAt gx 0 (bvs xb)) (BL V)) ?_ ?_
      ·
       refine Or.inl ⟨rfl, fun w hSw => ?_⟩
       exact EffR.same (by go_simp)
      try simp only [Act.put, zA, zB, zC]
      refine wpAnyU_take (i := 1) (oi := { dst := some 52, op := Op.move (Operand.tmp 1), type := 3, pos := "ref.go:214", after := #[], guard := none }) (v := (.int .i64 (hf : Int))) rfl (by kernel_rfl) (by kernel_rfl) (by kernel_rfl) (by kernel_rfl) (by kernel_rfl) (fun _ _ _ h => h) (⟨fun x h => ⟨BL.cell h HCV.out, fun j v hv => BL.cell h (HRV.out j v hv)⟩, fun _ _ h hb => Below.next h hb⟩ : Cls (fun x => x.cell? ⟨g, 0, none⟩ = some (.int .i64 (n : Int)) ∧ x.rangeAt gx 0 (bvs xb)) (BL V)) ?_ ?_
      ·
       refine Or.inl ⟨rfl, fun w hSw => ?_⟩
       exact EffR.same (by go_simp)
      try simp only [Act.put, zA, zB, zC]
      refine wpAnyU_take (i := 2) (oi := { dst := some 53, op := Op.move (Operand.tmp 0), type := 67, pos := "ref.go:214", after := #[], guard := none }) (v := (.pointer (some ⟨g, 0, none⟩))) rfl (by kernel_rfl) (by kernel_rfl) (by kernel_rfl) (by kernel_rfl) (by kernel_rfl) (fun _ _ _ h => h) (⟨fun x h => ⟨BL.cell h HCV.out, fun j v hv => BL.cell h (HRV.out j v hv)⟩, fun _ _ h hb => Below.next h hb⟩ : Cls (fun x => x.cell? ⟨g, 0, none⟩ = some (.int .i64 (n : Int)) ∧ x.rangeAt gx 0 (bvs xb)) (BL V)) ?_ ?_
      ·
       refine Or.inl ⟨rfl, fun w hSw => ?_⟩
       exact EffR.same (by go_simp)
      try simp only [Act.put, zA, zB, zC]
      refine wpAnyU_take (i := 3) (oi := { dst := some 54, op := Op.nilCheck (Operand.tmp 53), type := 0, pos := "ref.go:214", after := #[{ on := 2, ground := Ground.data }], guard := none }) (v := (.pointer (some ⟨g, 0, none⟩))) rfl (by kernel_rfl) (by kernel_rfl) (by kernel_rfl) (by kernel_rfl) (by kernel_rfl) (fun _ _ _ h => h) (⟨fun x h => ⟨BL.cell h HCV.out, fun j v hv => BL.cell h (HRV.out j v hv)⟩, fun _ _ h hb => Below.next h hb⟩ : Cls (fun x => x.cell? ⟨g, 0, none⟩ = some (.int .i64 (n : Int)) ∧ x.rangeAt gx 0 (bvs xb)) (BL V)) ?_ ?_
      ·
       refine Or.inl ⟨rfl, fun w hSw => ?_⟩
       exact EffR.same (by go_simp)
      try simp only [Act.put, zA, zB, zC]
      refine wpAnyU_take (i := 4) (oi := { dst := some 55, op := Op.fieldAddr 78 (Operand.tmp 54) 0, type := 0, pos := "ref.go:214", after := #[{ on := 3, ground := Ground.data }], guard := none }) (v := (.pointer (some ⟨g, 0, none⟩))) rfl (by kernel_rfl) (by kernel_rfl) (by kernel_rfl) (by kernel_rfl) (by kernel_rfl) (fun _ _ _ h => h) (⟨fun x h => ⟨BL.cell h HCV.out, fun j v hv => BL.cell h (HRV.out j v hv)⟩, fun _ _ h hb => Below.next h hb⟩ : Cls (fun x => x.cell? ⟨g, 0, none⟩ = some (.int .i64 (n : Int)) ∧ x.rangeAt gx 0 (bvs xb)) (BL V)) ?_ ?_
      ·
       refine Or.inl ⟨rfl, fun w hSw => ?_⟩
       exact EffR.same (by go_simp)
      try simp only [Act.put, zA, zB, zC]
      refine wpAnyU_take (i := 5) (oi := { dst := some 56, op := Op.load 3 (Operand.tmp 55), type := 3, pos := "ref.go:214", after := #[{ on := 4, ground := Ground.data }], guard := none }) (v := (.int .i64 (n : Int))) rfl (by kernel_rfl) (by kernel_rfl) (by kernel_rfl) (by kernel_rfl) (by kernel_rfl) (fun _ _ _ h => h) (⟨fun x h => ⟨BL.cell h HCV.out, fun j v hv => BL.cell h (HRV.out j v hv)⟩, fun _ _ h hb => Below.next h hb⟩ : Cls (fun x => x.cell? ⟨g, 0, none⟩ = some (.int .i64 (n : Int)) ∧ x.rangeAt gx 0 (bvs xb)) (BL V)) ?_ ?_
      ·
       refine Or.inl ⟨rfl, fun w hSw => ?_⟩
       have e0 := hSw.1
       exact EffR.same (by go_simp)
      try simp only [Act.put, zA, zB, zC]
      refine wpAnyU_take (i := 6) (oi := { dst := some 57, op := Op.binOp BinOp.quo 3 (Operand.tmp 56) (Operand.const (Value.int IntKind.i64 2)) 3, type := 3, pos := "ref.go:214", after := #[{ on := 5, ground := Ground.data }], guard := none }) (v := (.int .i64 (m : Int))) rfl (by kernel_rfl) (by kernel_rfl) (by kernel_rfl) (by kernel_rfl) (by kernel_rfl) (fun _ _ _ h => h) (⟨fun x h => ⟨BL.cell h HCV.out, fun j v hv => BL.cell h (HRV.out j v hv)⟩, fun _ _ h hb => Below.next h hb⟩ : Cls (fun x => x.cell? ⟨g, 0, none⟩ = some (.int .i64 (n : Int)) ∧ x.rangeAt gx 0 (bvs xb)) (BL V)) ?_ ?_
      ·
       refine Or.inl ⟨rfl, fun w hSw => ?_⟩
       have e0 := HDV1.out
       have e1 := HDV2.out
       have e2 := HWM.out
       exact EffR.same (by go_simp)
      try simp only [Act.put, zA, zB, zC]
      refine wpAnyU_take (i := 7) (oi := { dst := some 58, op := Op.binOp BinOp.mul 3 (Operand.tmp 52) (Operand.tmp 57) 3, type := 3, pos := "ref.go:214", after := #[{ on := 1, ground := Ground.data }, { on := 6, ground := Ground.data }], guard := none }) (v := (.int .i64 (fr : Int))) rfl (by kernel_rfl) (by kernel_rfl) (by kernel_rfl) (by kernel_rfl) (by kernel_rfl) (fun _ _ _ h => h) (⟨fun x h => ⟨BL.cell h HCV.out, fun j v hv => BL.cell h (HRV.out j v hv)⟩, fun _ _ h hb => Below.next h hb⟩ : Cls (fun x => x.cell? ⟨g, 0, none⟩ = some (.int .i64 (n : Int)) ∧ x.rangeAt gx 0 (bvs xb)) (BL V)) ?_ ?_
      ·
       refine Or.inl ⟨rfl, fun w hSw => ?_⟩
       have e0 := HFR.out
       have e1 := HWF.out
       exact EffR.same (by go_simp)
      try simp only [Act.put, zA, zB, zC]
      refine wpAnyU_take (i := 8) (oi := { dst := some 59, op := Op.move (Operand.tmp 2), type := 3, pos := "ref.go:214", after := #[], guard := none }) (v := (.int .i64 (at_ : Int))) rfl (by kernel_rfl) (by kernel_rfl) (by kernel_rfl) (by kernel_rfl) (by kernel_rfl) (fun _ _ _ h => h) (⟨fun x h => ⟨BL.cell h HCV.out, fun j v hv => BL.cell h (HRV.out j v hv)⟩, fun _ _ h hb => Below.next h hb⟩ : Cls (fun x => x.cell? ⟨g, 0, none⟩ = some (.int .i64 (n : Int)) ∧ x.rangeAt gx 0 (bvs xb)) (BL V)) ?_ ?_
      ·
       refine Or.inl ⟨rfl, fun w hSw => ?_⟩
       exact EffR.same (by go_simp)
      try simp only [Act.put, zA, zB, zC]
      refine wpAnyU_take (i := 9) (oi := { dst := some 60, op := Op.binOp BinOp.add 3 (Operand.tmp 58) (Operand.tmp 59) 3, type := 3, pos := "ref.go:214", after := #[{ on := 7, ground := Ground.data }, { on := 8, ground := Ground.data }], guard := none }) (v := (.int .i64 ((fr : Int) + at_))) rfl (by kernel_rfl) (by kernel_rfl) (by kernel_rfl) (by kernel_rfl) (by kernel_rfl) (fun _ _ _ h => h) (⟨fun x h => ⟨BL.cell h HCV.out, fun j v hv => BL.cell h (HRV.out j v hv)⟩, fun _ _ h hb => Below.next h hb⟩ : Cls (fun x => x.cell? ⟨g, 0, none⟩ = some (.int .i64 (n : Int)) ∧ x.rangeAt gx 0 (bvs xb)) (BL V)) ?_ ?_
      ·
       refine Or.inl ⟨rfl, fun w hSw => ?_⟩
       have e0 := HWA.out
       exact EffR.same (by go_simp)
      try simp only [Act.put, zA, zB, zC]
      refine wpAnyU_take (i := 10) (oi := { dst := some 61, op := Op.move (Operand.tmp 11), type := 3, pos := "ref.go:214", after := #[], guard := none }) (v := (.int .i64 (k : Int))) rfl (by kernel_rfl) (by kernel_rfl) (by kernel_rfl) (by kernel_rfl) (by kernel_rfl) (fun _ _ _ h => h) (⟨fun x h => ⟨BL.cell h HCV.out, fun j v hv => BL.cell h (HRV.out j v hv)⟩, fun _ _ h hb => Below.next h hb⟩ : Cls (fun x => x.cell? ⟨g, 0, none⟩ = some (.int .i64 (n : Int)) ∧ x.rangeAt gx 0 (bvs xb)) (BL V)) ?_ ?_
      ·
       refine Or.inl ⟨rfl, fun w hSw => ?_⟩
       exact EffR.same (by go_simp)
      try simp only [Act.put, zA, zB, zC]
      refine wpAnyU_take (i := 11) (oi := { dst := some 62, op := Op.binOp BinOp.add 3 (Operand.tmp 60) (Operand.tmp 61) 3, type := 3, pos := "ref.go:214", after := #[{ on := 9, ground := Ground.data }, { on := 10, ground := Ground.data }], guard := none }) (v := (.int .i64 ((fr : Int) + at_ + k))) rfl (by kernel_rfl) (by kernel_rfl) (by kernel_rfl) (by kernel_rfl) (by kernel_rfl) (fun _ _ _ h => h) (⟨fun x h => ⟨BL.cell h HCV.out, fun j v hv => BL.cell h (HRV.out j v hv)⟩, fun _ _ h hb => Below.next h hb⟩ : Cls (fun x => x.cell? ⟨g, 0, none⟩ = some (.int .i64 (n : Int)) ∧ x.rangeAt gx 0 (bvs xb)) (BL V)) ?_ ?_
      ·
       refine Or.inl ⟨rfl, fun w hSw => ?_⟩
       have e0 := HWK.out
       exact EffR.same (by go_simp)
      try simp only [Act.put, zA, zB, zC]
      refine wpAnyU_take (i := 12) (oi := { dst := some 63, op := Op.load 36 (Operand.tmp 12), type := 36, pos := "ref.go:214", after := #[], guard := none }) (v := (.agg (bvs xb).toArray)) rfl (by kernel_rfl) (by kernel_rfl) (by kernel_rfl) (by kernel_rfl) (by kernel_rfl) (fun _ _ _ h => h) (⟨fun x h => ⟨BL.cell h HCV.out, fun j v hv => BL.cell h (HRV.out j v hv)⟩, fun _ _ h hb => Below.next h hb⟩ : Cls (fun x => x.cell? ⟨g, 0, none⟩ = some (.int .i64 (n : Int)) ∧ x.rangeAt gx 0 (bvs xb)) (BL V)) ?_ ?_
      ·
       refine Or.inl ⟨rfl, fun w hSw => ?_⟩
       exact eff_load_mid 36 (.tmp 12) rfl gx 0 rfl (bvs xb) _ hSw.2 Try.underlying36 rfl HSZ.out
      try simp only [Act.put, zA, zB, zC]
      refine wpAnyU_ready (rs := [13]) (by kernel_rfl) (by simp) ?_
      refine AllReadyU.cons (o := { dst := some 64, op := Op.call { callee := Callee.value (Operand.func 55), args := #[Operand.tmp 51, Operand.tmp 62, Operand.tmp 63], argTypes := #[67, 3, 36] }, type := 27, pos := "ref.go:214", after := #[{ on := 0, ground := Ground.data }, { on := 11, ground := Ground.data }, { on := 12, ground := Ground.data }], guard := none }) rfl (fun wA13 hA13 K hK => ?_) AllReadyU.nil
      have hw := PWrite_x wA13 g n F1 Dk (HDV.out.below hA13) (fr + at_ + k) (by omega) xb HB64.out (by have := HOP.out; omega)
      rw [Int.natCast_add, Int.natCast_add] at hw
      go_simp
      refine hw.mono ?_
      rintro e0 w3 ⟨he0, hpost⟩
      clear hw
      rw [← HE.out] at he0
      rw [← HDN.out] at hpost
      subst he0
      obtain ⟨F2, hd3, hk3, hf3⟩ := hpost
      have hkW : Kept F w w3 := (HKV.out.next hA13).trans hk3 (fun i hi e => by
       rcases HF1.out i e with e | e
       ·
        exact e
       ·
        omega)
      have hg3 := hd3.cell0
      have hr3 : w3.rangeAt gx 0 (bvs xb) := ((HCX.out.below hA13).kept hk3 (fun e => HNB.out e)).bytes
      have hf4 : Hid (∀ k, F2 k → F k ∨ w.heap.size ≤ k) := fun k e => by
       rcases hf3 k e with e | e
       ·
        exact HF1.out k e
       ·
        have h1 := HKV.out.size; have h2 := Below.size hA13; right; omega
      have HD3 := Lib.hid hd3
      have HK3 := Lib.hid hkW
      refine hK.out _ _ (BL w3) (⟨fun x h => ⟨BL.cell h hg3, fun j v hv => BL.cell h (hr3 j v hv)⟩, fun _ _ h hb => Below.next h hb⟩ : Cls (fun x => x.cell? ⟨g, 0, none⟩ = some (.int .i64 (n : Int)) ∧ x.rangeAt gx 0 (bvs xb)) (BL w3)) (Below.refl _ _) ?_
      clear hkW hd3 hk3 hf3
      clear hK K
      try simp only [Act.put, zA, zB, zC]
      refine wpAnyU_take (i := 14) (oi := { dst := some 14, op := Op.assign (Operand.tmp 64), type := 27, pos := "ref.go:214", after := #[{ on := 13, ground := Ground.data }, { on := 13, ground := Ground.chain }, { on := 0, ground := Ground.phase }, { on := 1, ground := Ground.phase }, { on := 2, ground := Ground.phase }, { on := 3, ground := Ground.phase }, { on := 4, ground := Ground.phase }, { on := 5, ground := Ground.phase }, { on := 6, ground := Ground.phase }, { on := 7, ground := Ground.phase }, { on := 8, ground := Ground.phase }, { on := 9, ground := Ground.phase }, { on := 10, ground := Ground.phase }, { on := 11, ground := Ground.phase }, { on := 12, ground := Ground.phase }, { on := 13, ground := Ground.phase }], guard := none }) (v := (.int .i64 E)) rfl (by kernel_rfl) (by kernel_rfl) (by kernel_rfl) (by kernel_rfl) (by kernel_rfl) (fun _ _ _ h => h) (⟨fun x h => ⟨BL.cell h hg3, fun j v hv => BL.cell h (hr3 j v hv)⟩, fun _ _ h hb => Below.next h hb⟩ : Cls (fun x => x.cell? ⟨g, 0, none⟩ = some (.int .i64 (n : Int)) ∧ x.rangeAt gx 0 (bvs xb)) (BL w3)) ?_ ?_
      ·
       refine Or.inl ⟨rfl, fun w hSw => ?_⟩
       exact EffR.same (by go_simp)
      try simp only [Act.put, zA, zB, zC]
      refine wpAnyU_done (by kernel_rfl) (fun w1 hb1 => ?_) _
      have HD4 := Lib.hid (HD3.out.below hb1)
      have HK4 := Lib.hid (HK3.out.next hb1)
      clear hb1 HD3 HK3
      by_cases h0 : E = 0
      ·
       have h01 : ((E : Int) != 0) = false := by rw [h0]; rfl
       have H00 := Lib.hid h0
       clear h0
       go_wp2_with fail
       refine ⟨⟨k + 1, Dn, F2, by omega, by push_cast; rfl, HD4.out, HK4.out, hf4.out, ?_, ?_⟩, by simp [intOf]; omega⟩
       ·
        show dWrites D (fr + at_) L = _
        rw [HREC.out, List.drop_eq_getElem_cons hkl, ← HBB.out]
        rw [dWrites_ok (by rw [← HE.out]; exact H00.out), ← HDN.out, Nat.add_assoc]
       ·
        show _ ≤ _
        rw [HDN.out]
        have := dWrite_op Dk (fr + at_ + k) xb
        have := HOP.out
        omega
      ·
       have h01 : ((E : Int) != 0) = true := by rw [bne_iff_ne]; exact h0
       have H00 := Lib.hid h0
       clear h0
       go_wp2_with fail
       go_ret
       have hfin : dWrites D (fr + at_) L = (E, Dn) := by
        rw [HREC.out, List.drop_eq_getElem_cons hkl, ← HBB.out]
        rw [dWrites_stop (by rw [← HE.out]; exact H00.out), HE.out, HDN.out]
       rw [hfin]
       exact ⟨rfl, F2, HD4.out, HK4.out, hf4.out⟩
  ·
   obtain rfl : k = mB := by omega
   have hk0 : (lb : Int) ≤ (k : Int) * 62 := by have := HMB.out; omega
   go_wp2_with fail
   go_ret
   have hfin : dWrites D (fr + at_) L = (0, Dk) := by
    rw [HREC.out, List.drop_of_length_le (by have := HN.out; omega)]
    rfl
   rw [hfin]
   exact ⟨rfl, F1, HD.out, HK.out, HF1.out⟩
end Cam
