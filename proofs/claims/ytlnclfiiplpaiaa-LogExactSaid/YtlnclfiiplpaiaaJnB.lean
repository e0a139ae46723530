import Derived.Test.YtlnclfiiplpaiaaJnAz
import Derived.Test.YtlnclfiiplpaiaaFrPurez
/- journal.standing. -/
namespace Cam
open Go Go.RowKit Go.Proofs
theorem Bs.of_range {w : World} {b o n c : Nat} {l : List UInt8} (h : ∀ j (hj : j < l.length), w.cell? ⟨b, o + j, none⟩ = some (.int .u8 (l[j].toNat : Int))) (hn : n = l.length) (hc : n ≤ c) (hm : c ≤ 9223372036854775807) : Bs w (.slice (some ⟨b, o, none⟩) n c) l := by
 subst hn
 refine ⟨by simp, _, c, rfl, hc, by unfold maxLen; omega, fun e => (by cases e), fun ad had i u hu => ?_⟩
 cases had
 rw [add_none]
 have hi : i < l.length := by have := (List.getElem?_eq_some_iff.1 hu).1; simpa using this
 rw [h i hi]
 simp [List.getElem?_eq_getElem hi] at hu
 rw [hu]
theorem row4 : (Try.prog.info? 109).map (·.size) = some ([.int .i64 0, .int .i64 0, .slice none 0 0, .int .i64 0] : List Value).length := by kernel_rfl
theorem headD_at {L : List (List UInt8)} (h : 0 < L.length) : L.headD [] = L[0] := by
 cases L with
 | nil => simp at h
 | cons y r => rfl
theorem HT.row {w : World} {g : Nat} {t : TypeId} {C : List Value} {cs : Array Value} (h : HT w g t C) : HT (w.setRow g cs) g t cs.toList := by
 have := setRow_heap w g C.toArray cs t (0, 0) h
 unfold HT
 simpa using this
theorem HC.row {w : World} {g : Nat} {t : TypeId} {C : List Value} {cs : Array Value} (h : HT w g t C) : HC (w.setRow g cs) g cs.toList := ⟨t, h.row⟩
theorem boxJ (w : World) (b : List UInt8) (hb : b.length = 64) :
  Below w.heap.size w ((w.alloc (.cells (bvs zero64).toArray 36)).setCells w.heap.size 0 (bvs b)) ∧ HC ((w.alloc (.cells (bvs zero64).toArray 36)).setCells w.heap.size 0 (bvs b)) w.heap.size (bvs b) ∧
   (w.alloc (.cells (bvs zero64).toArray 36)).there w.heap.size 0 (bvs b).length := by
 have h0 := HC.new (w := w) (C := bvs zero64) (t := 36)
 have h1 := h0.puts (vs := bvs b) (o := 0) (by rw [bvs_length, bvs_length, hb, zero64_length]; omega)
 rw [splice_all _ _ (by rw [hb, zero64_length])] at h1
 exact ⟨((Below.refl _ _).alloc (Nat.le_refl _) _).trans ((setCells_kept _ _ _ _).below (fun k hk e => by omega) (by simp)), h1, h0.room zero64_length hb⟩
theorem setRow_keptJ (g : Nat) (cs : Array Value) (w : World) : Kept (fun k => k = g) w (w.setRow g cs) := ⟨rfl, rfl, rfl, by simp, fun k _ hk => setRow_other w g k _ (fun e => hk e)⟩
theorem mid_at {y : List UInt8} {j : Nat} (hj : j < (mid y).length) : y[1 + j]? = some ((mid y)[j]) := by
 have e : (mid y)[j]? = y[1 + j]? := by
  unfold mid at hj ⊢
  rw [List.length_take] at hj
  rw [List.getElem?_take, if_pos (by omega), List.getElem?_drop]
 rw [← e, List.getElem?_eq_getElem hj]
theorem mids_len : ∀ (L : List (List UInt8)), (mids L).length ≤ 62 * L.length
 | [] => by simp [mids]
 | x :: L => by
  have := mids_len L
  simp only [mids, List.map_cons, List.flatten_cons, List.length_append, List.length_cons] at this ⊢
  have h2 : (mid x).length ≤ 62 := by unfold mid; rw [List.length_take]; omega
  omega
theorem HT.belowB {B : Nat} {w w' : World} {g : Nat} {t : TypeId} {C : List Value} (h : HT w g t C) (hb : Below B w w') (hg : g < B) : HT w' g t C := (hb.block g hg).trans h
def StandPost (w : World) (L : List (List UInt8)) (e : Ending) (w' : World) : Prop :=
 (stands L ∧ ∃ v', e = .returned (.tuple #[.agg #[.int .i64 (rowG L : Nat), .int .i64 (rowK L : Nat), v', .int .i64 (rowN L : Nat)], .bool true]) ∧ OwnB 5 w' w.heap.size v' (rowP L) ∧ Below w.heap.size w w') ∨
 (¬ stands L ∧ ∃ n : Int, e = .returned (.tuple #[.agg #[.int .i64 0, .int .i64 0, .slice none 0 0, .int .i64 n], .bool false]) ∧ Below w.heap.size w w')
theorem StandPost.no {w w' : World} {L : List (List UInt8)} {n : Int} (h : ¬ stands L) (hb : Below w.heap.size w w') : StandPost w L (.returned (.tuple #[.agg #[.int .i64 0, .int .i64 0, .slice none 0 0, .int .i64 n], .bool false])) w' := .inr ⟨h, n, rfl, hb⟩
set_option maxRecDepth 100000 in
set_option maxHeartbeats 3200000 in
theorem standing_any (w : World) (v : Value) (L : List (List UInt8)) (h : Rs encB 64 w v L) (h64 : ∀ b ∈ L, b.length = 64) (hl : L.length ≤ 40000) :
  Calls Try.prog 59 #[v] w (StandPost w L) := by
 have HSZr : Hid ((Try.prog.info? 109).map (·.size) = some (#[.int .i64 0, .int .i64 0, .slice none 0 0, .int .i64 0] : Array Value).size) := by show _ = _; rw [row4]; rfl
 have HONr : Hid ((#[.int .i64 0, .int .i64 0, .slice none 0 0, .int .i64 0] : Array Value).all (·.oneCell') = true) := by show _ = true; simp [Value.oneCell']
 obtain ⟨av, cap, rfl, hcap, hm⟩ := h.shape
 obtain ⟨n, hn⟩ : ∃ n, n = L.length := ⟨_, rfl⟩
 rw [← hn] at hcap hl h ⊢
 have HN := Lib.hid hn
 by_cases h0 : n = 0
 ·
  have hno : ¬ stands L := by
   intro hs
   apply hs.1
   apply List.eq_nil_of_length_eq_zero
   omega
  have Hno := Lib.hid hno
  subst h0
  clear hn hno h
  go_enter Try.func59, Try.ntmps59
  go_wp2_with fail
  exact bodyPost_ret (results_row2 rfl (C := [.int .i64 0, .int .i64 0, .slice none 0 0, .int .i64 0]) ⟨_, heap_new rfl⟩ rfl rfl Try.underlying109 rfl row4) rfl (StandPost.no Hno.out ((Below.refl _ _).alloc (Nat.le_refl _) _))
 ·
  have hpos : 0 < L.length := by omega
  obtain ⟨b, off, rfl, hbw, hc⟩ := Rs.at h hpos (by decide)
  obtain ⟨x, hx⟩ : ∃ x, x = L[0] := ⟨_, rfl⟩
  have hx64 : x.length = 64 := by rw [hx]; exact h64 _ (List.getElem_mem _)
  have hhd : L.headD [] = x := by rw [hx]; exact headD_at hpos
  have hxc : ∀ (j : Nat) (c : UInt8), x[j]? = some c → w.cell? ⟨b, off + j, none⟩ = some (.int .u8 (c.toNat : Int)) := by
   intro j c hj
   have h9 := hc 0 (by omega) j (.int .u8 (c.toNat : Int)) (by rw [← hx, encB_64 hx64, List.getElem?_map, hj]; rfl)
   rw [Nat.zero_mul, Nat.add_zero] at h9
   exact h9
  obtain ⟨c1, hc1⟩ : ∃ c, x[1]? = some c := ⟨_, List.getElem?_eq_getElem (by omega)⟩
  have hx1 := hxc 1 c1 hc1
  have HC1 := Lib.hid hc1
  have hcap1 : (1 : Int) ≤ n ∧ 1 ≤ n := by omega
  have HXC := Lib.hid hxc
  have HCL := Lib.hid hc
  have HX := Lib.hid hx
  have HHD := Lib.hid hhd
  have HX64 := Lib.hid hx64
  have H0 := Lib.hid h0
  have H := Lib.hid h
  clear hxc hc hx hhd hn h h0 hc1 hx64
  have hnz : ((n : Int) == 0) = false := by simp; omega
  by_cases hm1 : c1 = 195
  ·
   have hm1' : ((c1.toNat : Int) != 195) = false := by rw [hm1]; rfl
   have HM1 := Lib.hid hm1
   clear hm1
   have G1 := Lib.hid (Bs.of_range (w := w) (b := b) (o := off + 2) (n := 8) (c := 62) (l := (x.drop 2).take 8) (fun j hj => by
    rw [List.length_take, List.length_drop] at hj
    rw [Nat.add_assoc]
    exact HXC.out (2 + j) _ (by rw [List.getElem_take, List.getElem_drop]; exact List.getElem?_eq_getElem _)) (by rw [List.length_take, List.length_drop]; have := HX64.out; omega) (by omega) (by omega))
   have G2 := Lib.hid (Bs.of_range (w := w) (b := b) (o := off + 14) (n := 4) (c := 50) (l := (x.drop 14).take 4) (fun j hj => by
    rw [List.length_take, List.length_drop] at hj
    rw [Nat.add_assoc]
    exact HXC.out (14 + j) _ (by rw [List.getElem_take, List.getElem_drop]; exact List.getElem?_eq_getElem _)) (by rw [List.length_take, List.length_drop]; have := HX64.out; omega) (by omega) (by omega))
   go_enter Try.func59, Try.ntmps59
   go_wp2_with fail
   go_quiet ((first | exact quiet_left (jnum_any _ _ _ (Bs.drewN (Bs.alloc G1.out _) _) (by simp; omega)) | exact quiet_left (jnum_any _ _ _ (Bs.drewN (Bs.alloc G2.out _) _) (by simp; omega))))
   have e1 : unbe ((x.drop 2).take 8) = hGen x := rfl
   have e2 : unbe ((x.drop 14).take 4) = hSize x := rfl
   rw [e1, e2]
   clear e1 e2
   obtain ⟨gen, hgen⟩ : ∃ z, z = hGen x := ⟨_, rfl⟩
   obtain ⟨size, hsize⟩ : ∃ z, z = hSize x := ⟨_, rfl⟩
   rw [← hgen, ← hsize]
   have hgl : gen < 18446744073709551616 := by
    rw [hgen]
    refine Nat.lt_of_lt_of_le (unbe_lt _) ?_
    rw [List.length_take, List.length_drop, HX64.out]
    decide
   have hsl : size < 4294967296 := by
    rw [hsize]
    refine Nat.lt_of_lt_of_le (unbe_lt _) ?_
    rw [List.length_take, List.length_drop, HX64.out]
    decide
   have HGEN := Lib.hid hgen
   have HSIZE := Lib.hid hsize
   have hbq : Below w.heap.size w ((w.alloc (.cells #[.int .i64 0, .int .i64 0, .slice none 0 0, .int .i64 0] 109)).drewN nq) := below_drewN' ((Below.refl _ _).alloc (Nat.le_refl _) _) nq
   have hcellq : HT ((w.alloc (.cells #[.int .i64 0, .int .i64 0, .slice none 0 0, .int .i64 0] 109)).drewN nq) w.heap.size 109 [.int .i64 0, .int .i64 0, .slice none 0 0, .int .i64 0] := HT.new (w := w) (C := [.int .i64 0, .int .i64 0, .slice none 0 0, .int .i64 0])
   have hszq : ((w.alloc (.cells #[.int .i64 0, .int .i64 0, .slice none 0 0, .int .i64 0] 109)).drewN nq).heap.size = w.heap.size + 1 := by simp [World.drewN]
   generalize ((w.alloc (.cells #[.int .i64 0, .int .i64 0, .slice none 0 0, .int .i64 0] 109)).drewN nq) = w1 at *
   have HBQ := Lib.hid hbq
   have HCQ := Lib.hid hcellq
   have HSQ := Lib.hid hszq
   clear hgen hsize hbq hcellq hszq
   by_cases hs1 : (65536 : Int) < size
   ·
    have hno : ¬ stands L := by
     intro hs
     have h9 := hs.2.2.1
     rw [HHD.out, ← HSIZE.out] at h9
     omega
    have Hno := Lib.hid hno
    have HR := Lib.hid (show w1.heap[w.heap.size]? = some (.cells #[.int .i64 0, .int .i64 0, .slice none 0 0, .int .i64 0] 109 (0, 0)) from HCQ.out)
    clear hno
    go_wp2_with (first
     | (refine wpList_store_row rfl 109 (.tmp 2) (.tmp 37) rfl w.heap.size #[.int .i64 0, .int .i64 0, .slice none 0 0, .int .i64 0] rfl rfl 109 #[.int .i64 0, .int .i64 0, .slice none 0 0, .int .i64 0] HR.out HSZr.out rfl HONr.out ?_)
     | fail)
    exact bodyPost_ret (results_row2 rfl (HC.row HCQ.out) rfl rfl Try.underlying109 rfl row4) rfl (StandPost.no Hno.out (Below.setRow HBQ.out (Nat.le_refl _) _))
   ·
    have hnd := need_any w1 (21 + size) (by omega)
    rw [Int.natCast_add, show ((21 : Nat) : Int) = 21 from rfl] at hnd
    obtain ⟨m, hmm⟩ : ∃ m, m = needN (21 + size) := ⟨_, rfl⟩
    rw [← hmm] at hnd
    have hmb : 1 ≤ m ∧ m ≤ 100000 := by rw [hmm]; unfold needN; omega
    have HM := Lib.hid hmm
    clear hmm
    have hmi : (1 : Int) ≤ m ∧ (m : Int) ≤ 100000 := by omega
    by_cases hbig : n < m
    ·
     have hno : ¬ stands L := by
      intro hs
      have h9 := hs.2.2.2.1
      unfold rowN at h9
      rw [HHD.out, ← HSIZE.out, ← HM.out, ← HN.out] at h9
      omega
     have Hno := Lib.hid hno
     have HR := Lib.hid (show w1.heap[w.heap.size]? = some (.cells #[.int .i64 0, .int .i64 0, .slice none 0 0, .int .i64 0] 109 (0, 0)) from HCQ.out)
     clear hno
     go_wp2_with fail
     refine hnd.mono ?_
     rintro e w' ⟨rfl, rfl⟩
     clear hnd
     go_wp2_with (first
      | (refine wpList_store_row rfl 109 (.tmp 2) (.tmp 46) rfl w.heap.size #[.int .i64 0, .int .i64 0, .slice none 0 0, .int .i64 0] rfl rfl 109 #[.int .i64 0, .int .i64 0, .slice none 0 0, .int .i64 0] HR.out HSZr.out rfl HONr.out ?_)
      | fail)
     exact bodyPost_ret (results_row2 rfl (HC.row HCQ.out) rfl rfl Try.underlying109 rfl row4) rfl (StandPost.no Hno.out (Below.setRow HBQ.out (Nat.le_refl _) _))
    ·
     have hmn : (m : Int) ≤ n := by omega
     have hmc : (m : Int) ≤ cap := by omega
     go_wp2_with fail
     refine hnd.mono ?_
     rintro e w' ⟨rfl, rfl⟩
     clear hnd
     go_wp2_with fail
     obtain ⟨mk, hmk⟩ : ∃ c, c = markB gen := ⟨_, rfl⟩
     have hmki : (1 + (gen : Int) % 255) = (mk.toNat : Int) := by
      rw [hmk]
      unfold markB
      rw [UInt8.toNat_ofNat']
      omega
     rw [hmki]
     have HMK := Lib.hid hmk
     have hmb8 : (mk.toNat : Int) < 256 := by have := mk.toNat_lt; omega
     have HMN := Lib.hid hmn
     clear hmk hmki hmn
     have hz1 : Below (w.heap.size + 1) w1 w1 := Below.refl _ _
     go_loopw [8, 55] (fun v8 i wr => ∃ (k : Nat) (a : Option Addr) (q c : Nat), k ≤ m ∧ i = .int .i64 k ∧ v8 = .slice a q c ∧ OwnB 5 wr (w.heap.size + 1) (.slice a q c) (mids (L.take k)) ∧ Hid (∀ y ∈ L.take k, isMk gen y) ∧ HT wr w.heap.size 109 [.int .i64 0, .int .i64 0, .slice none 0 0, .int .i64 0] ∧ Below w.heap.size w wr ∧ w.heap.size + 1 ≤ wr.heap.size) (fun _ i _ => m - (intOf i).toNat)
     case atStart => exact ⟨0, none, 0, 0, Nat.zero_le _, rfl, rfl, OwnB.empty _ _ _, fun y hy => by simp at hy, HCQ.out, HBQ.out, by have := HSQ.out; omega⟩
     case round =>
      obtain ⟨k, a8, q8, c8, hk, rfl, rfl, ho8, HAL, hht, hbel, hsz⟩ := hrel
      have HHT := Lib.hid hht
      have HBL := Lib.hid hbel
      have HO8 := Lib.hid ho8
      clear hht hbel ho8
      by_cases hlt : k < m
      ·
       have hkl : k < L.length := by have := HN.out; omega
       obtain ⟨y, hy⟩ : ∃ y, y = L[k] := ⟨_, rfl⟩
       have hy64 : y.length = 64 := by rw [hy]; exact h64 _ (List.getElem_mem _)
       obtain ⟨y0, hy0⟩ : ∃ z, y[0]? = some z := ⟨_, List.getElem?_eq_getElem (by omega)⟩
       obtain ⟨y9, hy9⟩ : ∃ z, y[63]? = some z := ⟨_, List.getElem?_eq_getElem (by omega)⟩
       have hran : wr.rangeAt b (off + k * 64) (bvs y) := fun j v hv => by
        have h9 := HCL.out k hkl j v (by rw [← hy, encB_64 hy64]; exact hv)
        rw [← h9]
        exact Below.cell HBL.out (World.block_lt_of_cell? w _ h9)
       have HRAN := Lib.hid hran
       have HSZ := Lib.hid (size64_of hy64)
       obtain ⟨hbx, hcx, hthx⟩ := boxJ wr y hy64
       have HBX := Lib.hid hbx
       have HCX := Lib.hid hcx
       have HTX := Lib.hid (hcx.room (m := y) hy64 hy64)
       have hroom := (HC.new (w := wr) (C := bvs zero64) (t := 36)).room (m := y) zero64_length hy64
       have HROOM := Lib.hid hroom
       have e0 := hcx.cell (j := 0) (v := .int .u8 (y0.toNat : Int)) (by rw [List.getElem?_map, hy0]; rfl)
       have e9 := hcx.cell (j := 63) (v := .int .u8 (y9.toNat : Int)) (by rw [List.getElem?_map, hy9]; rfl)
       have HYL := Lib.hid (show y = L[k] from hy)
       have HY64 := Lib.hid hy64
       have HY0 := Lib.hid hy0
       have HY9 := Lib.hid hy9
       have hk0 : (0 : Int) ≤ k := by omega
       have hk1 : (k : Int) < m := by omega
       have hht2 : Hid (HT ((wr.alloc (.cells (bvs zero64).toArray 36)).setCells wr.heap.size 0 (bvs y)) w.heap.size 109 [.int .i64 0, .int .i64 0, .slice none 0 0, .int .i64 0]) := HT.below HHT.out hbx
       have hbb2 : Hid (Below w.heap.size w ((wr.alloc (.cells (bvs zero64).toArray 36)).setCells wr.heap.size 0 (bvs y))) := HBL.out.next hbx
       have hb0 : (y0.toNat : Int) < 256 := by have := y0.toNat_lt; omega
       have hb9 : (y9.toNat : Int) < 256 := by have := y9.toNat_lt; omega
       clear hran hbx hcx hthx hroom hy hy64 hy0 hy9
       have HR : Hid ((((wr.alloc (.cells (bvs zero64).toArray 36)).setCells wr.heap.size 0 (bvs y))).heap[w.heap.size]? = some (.cells #[.int .i64 0, .int .i64 0, .slice none 0 0, .int .i64 0] 109 (0, 0))) := hht2.out
       by_cases hm0 : y0 = mk
       ·
        have hm0' : ((y0.toNat : Int) != (mk.toNat : Int)) = false := by rw [hm0]; simp
        have HM0 := Lib.hid hm0
        clear hm0
        by_cases hm9 : y9 = mk
        ·
         have hm9' : ((y9.toNat : Int) != (mk.toNat : Int)) = false := by rw [hm9]; simp
         have HM9 := Lib.hid hm9
         clear hm9
         have hO2 : Hid (OwnB 5 ((wr.alloc (.cells (bvs zero64).toArray 36)).setCells wr.heap.size 0 (bvs y)) (w.heap.size + 1) (.slice a8 q8 c8) (mids (L.take k))) := HO8.out.below HBX.out
         have hmd : Hid (Bs ((wr.alloc (.cells (bvs zero64).toArray 36)).setCells wr.heap.size 0 (bvs y)) (.slice (some ⟨wr.heap.size, 1, none⟩) 62 63) (mid y)) := Bs.of_range (fun j hj => by
          have hl : (mid y).length = 62 := by unfold mid; rw [List.length_take, List.length_drop]; have := HY64.out; omega
          exact HCX.out.cell (by rw [List.getElem?_map, mid_at hj]; rfl)) (by unfold mid; rw [List.length_take, List.length_drop]; have := HY64.out; omega) (by omega) (by omega)
         have hlen : (mids (L.take k)).length + (mid y).length ≤ 140737488355328 := by
          have h1 := mids_len (L.take k)
          rw [List.length_take] at h1
          have h2 : (mid y).length ≤ 62 := by unfold mid; rw [List.length_take]; omega
          omega
         have hbs : w.heap.size + 1 ≤ (((wr.alloc (.cells (bvs zero64).toArray 36)).setCells wr.heap.size 0 (bvs y))).heap.size := Nat.le_trans hsz HBX.out.size
         clear HCX HTX
         go_wp2_with (first
          | (refine wpList_load_mid rfl 36 (.tmp 57) rfl b (off + k * 64) rfl (bvs y) _ HRAN.out Try.underlying36 rfl HSZ.out ?_)
          | (refine wpList_store_mid rfl 36 (.tmp 10) (.tmp 58) rfl wr.heap.size 0 (bvs y).toArray rfl rfl HROOM.out (by simpa using HSZ.out) (all_oneCell_toArray (bs_oneCell _)) ?_; change wpList _ _ _ _ _ ((wr.alloc (.cells (bvs zero64).toArray 36)).setCells wr.heap.size 0 (bvs y)))
          | (at_builtin; refine wpList_append_bytes (l := mids (L.take k)) (m := mid y) (base := w.heap.size + 1) rfl (.tmp 70) (.tmp 71) 22 rfl elem_u8 rfl rfl hO2.out hmd.out hlen hbs ?_; intro a7 n7 c7 w7 Hn7 ho7 hb7 hg7)
          | fail)
         have hmids : mids (L.take k) ++ mid y = mids (L.take (k + 1)) := by
          rw [take_snoc L k hkl, mids_append, ← HYL.out]
          simp [mids]
         rw [hmids] at ho7
         refine ⟨⟨k + 1, a7, n7, c7, by omega, by push_cast; rfl, rfl, ho7, fun z hz => ?_, HT.belowB hht2.out hb7 (Nat.lt_succ_self _), hbb2.out.trans (hb7.mono (Nat.le_succ _)), Nat.le_trans hbs hb7.size⟩, by simp [intOf]; omega⟩
         rw [take_snoc L k hkl, List.mem_append] at hz
         rcases hz with hz | hz
         ·
          exact HAL.out z hz
         ·
          rw [List.mem_singleton] at hz
          rw [hz, ← HYL.out]
          exact ⟨by rw [HY0.out, HM0.out, HMK.out], by rw [HY9.out, HM9.out, HMK.out]⟩
        ·
         have hm9' : ((y9.toNat : Int) != (mk.toNat : Int)) = true := by
          rw [bne_iff_ne]
          intro e
          exact hm9 (UInt8.toNat_inj.1 (by omega))
         have hno : ¬ stands L := by
          intro hs
          have h9 := hs.2.2.2.2.1 (L[k]) (by
           unfold rowN
           rw [HHD.out, ← HSIZE.out, ← HM.out]
           exact List.mem_take_iff_getElem.2 ⟨k, by omega, rfl⟩)
          rw [HHD.out, ← HGEN.out, ← HYL.out] at h9
          have h8 := h9.2
          rw [HY9.out, ← HMK.out] at h8
          exact hm9 (Option.some.inj h8)
         have Hno := Lib.hid hno
         clear hm9 hno
         go_wp2_with (first
          | (refine wpList_load_mid rfl 36 (.tmp 57) rfl b (off + k * 64) rfl (bvs y) _ HRAN.out Try.underlying36 rfl HSZ.out ?_)
          | (refine wpList_store_mid rfl 36 (.tmp 10) (.tmp 58) rfl wr.heap.size 0 (bvs y).toArray rfl rfl HROOM.out (by simpa using HSZ.out) (all_oneCell_toArray (bs_oneCell _)) ?_; change wpList _ _ _ _ _ ((wr.alloc (.cells (bvs zero64).toArray 36)).setCells wr.heap.size 0 (bvs y)))
          | (refine wpList_store_row rfl 109 (.tmp 2) (.tmp 69) rfl w.heap.size #[.int .i64 0, .int .i64 0, .slice none 0 0, .int .i64 0] rfl rfl 109 #[.int .i64 0, .int .i64 0, .slice none 0 0, .int .i64 0] HR.out HSZr.out rfl HONr.out ?_)
          | fail)
         exact bodyPost_ret (results_row2 rfl (HC.row hht2.out) rfl rfl Try.underlying109 rfl row4) rfl (StandPost.no Hno.out (Below.setRow hbb2.out (Nat.le_refl _) _))
       ·
        have hm0' : ((y0.toNat : Int) != (mk.toNat : Int)) = true := by
         rw [bne_iff_ne]
         intro e
         exact hm0 (UInt8.toNat_inj.1 (by omega))
        have hno : ¬ stands L := by
         intro hs
         have h9 := hs.2.2.2.2.1 (L[k]) (by
          unfold rowN
          rw [HHD.out, ← HSIZE.out, ← HM.out]
          exact List.mem_take_iff_getElem.2 ⟨k, by omega, rfl⟩)
         rw [HHD.out, ← HGEN.out, ← HYL.out] at h9
         have h8 := h9.1
         rw [HY0.out, ← HMK.out] at h8
         exact hm0 (Option.some.inj h8)
        have Hno := Lib.hid hno
        clear hm0 hno
        go_wp2_with (first
         | (refine wpList_load_mid rfl 36 (.tmp 57) rfl b (off + k * 64) rfl (bvs y) _ HRAN.out Try.underlying36 rfl HSZ.out ?_)
         | (refine wpList_store_mid rfl 36 (.tmp 10) (.tmp 58) rfl wr.heap.size 0 (bvs y).toArray rfl rfl HROOM.out (by simpa using HSZ.out) (all_oneCell_toArray (bs_oneCell _)) ?_; change wpList _ _ _ _ _ ((wr.alloc (.cells (bvs zero64).toArray 36)).setCells wr.heap.size 0 (bvs y)))
         | (refine wpList_store_row rfl 109 (.tmp 2) (.tmp 69) rfl w.heap.size #[.int .i64 0, .int .i64 0, .slice none 0 0, .int .i64 0] rfl rfl 109 #[.int .i64 0, .int .i64 0, .slice none 0 0, .int .i64 0] HR.out HSZr.out rfl HONr.out ?_)
         | fail)
        exact bodyPost_ret (results_row2 rfl (HC.row hht2.out) rfl rfl Try.underlying109 rfl row4) rfl (StandPost.no Hno.out (Below.setRow hbb2.out (Nat.le_refl _) _))
      ·
       obtain rfl : k = m := by omega
       have hbs : Bs wr (.slice a8 q8 c8) (rowBy L) := by
        have h9 := HO8.out.bs
        rw [show mids (L.take k) = rowBy L by unfold rowBy rowN; rw [HHD.out, ← HSIZE.out, ← HM.out]] at h9
        exact h9
       have hfirst := First_any wr _ _ hbs
       clear hbs
       go_wp2_with fail
       refine hfirst.mono ?_
       clear hfirst
       rintro e w2 (⟨hf, v', rfl, hov, hb2⟩ | ⟨hf, rfl, hb2⟩)
       ·
        obtain ⟨av', nv', cv', rfl, _, hov2⟩ := hov.named
        have hst : stands L := ⟨fun e => by rw [e] at hpos; simp at hpos, by rw [HHD.out, HC1.out, HM1.out], by rw [HHD.out, ← HSIZE.out]; omega, by unfold rowN; rw [HHD.out, ← HSIZE.out, ← HM.out, ← HN.out]; omega,
         by unfold rowN; rw [HHD.out, ← HSIZE.out, ← HM.out, ← HGEN.out]; exact HAL.out, hf⟩
        have HST := Lib.hid hst
        have hrn : k = rowN L := by unfold rowN; rw [HHD.out, ← HSIZE.out, ← HM.out]
        have HRN := Lib.hid hrn
        have HH2 := Lib.hid (HT.below HHT.out hb2)
        have HB2 := Lib.hid (HBL.out.next hb2)
        have HOV := Lib.hid hov2
        obtain ⟨G, hG⟩ : ∃ z, z = fGen (rowBy L) := ⟨_, rfl⟩
        obtain ⟨K, hK⟩ : ∃ z, z = fNo (rowBy L) := ⟨_, rfl⟩
        rw [← hG, ← hK]
        have HGG := Lib.hid hG
        have HKK := Lib.hid hK
        have hszr := HBL.out.size
        clear hov hov2 hb2 hf hst hrn hG hK
        have HSZ2 : Hid ((Try.prog.info? 109).map (·.size) = some (#[.int .i64 (G : Int), .int .i64 (K : Int), .slice av' nv' cv', .int .i64 (k : Int)] : Array Value).size) := by show _ = _; rw [row4]; rfl
        have HON2 : Hid ((#[.int .i64 (G : Int), .int .i64 (K : Int), .slice av' nv' cv', .int .i64 (k : Int)] : Array Value).all (·.oneCell') = true) := by show _ = true; simp [Value.oneCell']
        have HR : Hid (w2.heap[w.heap.size]? = some (.cells #[.int .i64 0, .int .i64 0, .slice none 0 0, .int .i64 0] 109 (0, 0))) := HH2.out
        go_wp2_with (first
         | (refine wpList_store_row rfl 109 (.tmp 2) (.tmp 86) rfl w.heap.size #[.int .i64 (G : Int), .int .i64 (K : Int), .slice av' nv' cv', .int .i64 (k : Int)] rfl rfl 109 #[.int .i64 0, .int .i64 0, .slice none 0 0, .int .i64 0] HR.out HSZ2.out rfl HON2.out ?_)
         | fail)
        refine bodyPost_ret (results_row2 rfl (HC.row HH2.out) rfl rfl Try.underlying109 rfl row4) rfl ?_
        exact .inl ⟨HST.out, _, by unfold rowG rowK; rw [← HGG.out, ← HKK.out, ← HRN.out]; rfl, (HOV.out.base hszr).keptJ (setRow_keptJ w.heap.size _ w2) (fun q hq e => by have := HOV.out.ge q hq; omega), Below.setRow HB2.out (Nat.le_refl _) _⟩
       ·
        have hst : ¬ stands L := fun hs => hf hs.2.2.2.2.2
        have HST := Lib.hid hst
        have HH2 := Lib.hid (HT.below HHT.out hb2)
        have HB2 := Lib.hid (HBL.out.next hb2)
        unfold packBad
        clear hst hf hb2
        have HSZ2 : Hid ((Try.prog.info? 109).map (·.size) = some (#[.int .i64 0, .int .i64 0, .slice none 0 0, .int .i64 (k : Int)] : Array Value).size) := by show _ = _; rw [row4]; rfl
        have HON2 : Hid ((#[.int .i64 0, .int .i64 0, .slice none 0 0, .int .i64 (k : Int)] : Array Value).all (·.oneCell') = true) := by show _ = true; simp [Value.oneCell']
        have HR : Hid (w2.heap[w.heap.size]? = some (.cells #[.int .i64 0, .int .i64 0, .slice none 0 0, .int .i64 0] 109 (0, 0))) := HH2.out
        go_wp2_with (first
         | (refine wpList_store_row rfl 109 (.tmp 2) (.tmp 86) rfl w.heap.size #[.int .i64 0, .int .i64 0, .slice none 0 0, .int .i64 (k : Int)] rfl rfl 109 #[.int .i64 0, .int .i64 0, .slice none 0 0, .int .i64 0] HR.out HSZ2.out rfl HON2.out ?_)
         | fail)
        refine bodyPost_ret (results_row2 rfl (HC.row HH2.out) rfl rfl Try.underlying109 rfl row4) rfl ?_
        exact StandPost.no HST.out (Below.setRow HB2.out (Nat.le_refl _) _)
  ·
   have hm1' : ((c1.toNat : Int) != 195) = true := by
    rw [bne_iff_ne]
    intro e
    exact hm1 (UInt8.toNat_inj.1 (by simpa using Int.ofNat.inj e))
   have hno : ¬ stands L := by
    intro hs
    have h9 := hs.2.1
    rw [HHD.out, HC1.out] at h9
    exact hm1 (Option.some.inj h9)
   have Hno := Lib.hid hno
   clear hm1 hno
   go_enter Try.func59, Try.ntmps59
   go_wp2_with fail
   exact bodyPost_ret (results_row2 rfl (C := [.int .i64 0, .int .i64 0, .slice none 0 0, .int .i64 0]) ⟨_, heap_new rfl⟩ rfl rfl Try.underlying109 rfl row4) rfl (StandPost.no Hno.out ((Below.refl _ _).alloc (Nat.le_refl _) _))
end Cam
