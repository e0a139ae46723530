import Derived.Test.YtlnclfiiplpaiaaPdC
import Derived.Test.YtlnclfiiplpaiaaFrPurez
import Derived.Test.YtlnclfiiplpaiaaJnP
import Derived.Test.YtlnclfiiplpaiaaJnA0
import Derived.Test.YtlnclfiiplpaiaaFrGetz
/- Several small texts in one: PdN, PgA, JnA. No condition. -/
namespace Cam
open Go Go.RowKit Go.Proofs
theorem run_make_blocksP (w : World) (n : Nat) (hn : n ≤ 65536) : ∃ w', (Instr.makeSlice 75 (.int .i64 (n : Int)) (.int .i64 (n : Int))).run Try.prog w = .ok (.slice (some ⟨w.heap.size, 0, none⟩) n n) w' ∧ HT w' w.heap.size 36 (flatW bvs (List.replicate n zero64)) ∧ Below w.heap.size w w' := by
 obtain ⟨ht, ⟨i, z, hi, hz, hs, hby, hzs⟩, hp⟩ := elem_block
 have hz2 : z = .agg (bvs zero64).toArray := by
  have h : (Try.prog.info? 36).map (·.zero) = some (some (.agg (bvs zero64).toArray)) := by kernel_rfl
  rw [hi] at h
  simp only [Option.map_some, Option.some.injEq] at h
  rw [hz] at h
  simpa using h
 obtain ⟨w', hrun, hown, hg⟩ := run_make_full (P := Try.prog) w w.heap.size 75 36 i z 64 ht hi hz hs .i64 .i64 n (by rw [hby]; omega) (by unfold maxLen; omega) (Nat.le_refl _)
 refine ⟨w', hrun, ?_, (Below.refl _ _).grown hg (Nat.le_refl _) (fun k hk => by cases hk)⟩
 subst hz2
 rw [show (Value.agg (bvs zero64).toArray).cells = (bvs zero64).toArray from rfl, madeZeros] at hown
 obtain ⟨hl, h2⟩ := hown
 rcases h2 with ⟨e, _⟩ | ⟨g, cap, cur, e, _, hh, _, _, hsz, htk⟩
 ·
  cases e
 ·
  simp only [Value.slice.injEq, Option.some.injEq, Addr.mk.injEq] at e
  obtain ⟨⟨rfl, _⟩, _, rfl⟩ := e
  unfold HT
  rw [hh, ← htk, List.take_of_length_le (by simp [hsz])]
theorem make_blocksT {w : World} {ops : Array Oper} {rest : List Oper} {o : Oper} {a : Act} {Q : Exit → Act → World → Prop} (hgd : o.guard = none) (l c : Operand) (hop : o.op = Op.makeSlice 75 l c)
  (n : Nat) (hn : n ≤ 65536) (hl : a.eval l = .int .i64 (n : Int)) (hc : a.eval c = .int .i64 (n : Int))
  (h : ∀ w', HT w' w.heap.size 36 (flatW bvs (List.replicate n zero64)) → Below w.heap.size w w' → wpList Try.prog ops Q rest (a.put o.dst (.slice (some ⟨w.heap.size, 0, none⟩) n n)) w') :
  wpList Try.prog ops Q (o :: rest) a w := by
 refine wpList_plain hgd fun K' hK => ?_
 obtain ⟨w', hrun, h1, h2⟩ := run_make_blocksP w n hn
 unfold Oper.wp
 simp [execOp, hop, hl, hc, hrun, Result.andThen]
 exact hK _ _ (h w' h1 h2)
set_option maxRecDepth 100000 in
theorem pnew_any (w : World) (n : Nat) (h1 : 1 ≤ n) (h2 : n ≤ 65536) : Calls Try.prog 32 #[.int .i64 (n : Int)] w fun e w' => ∃ g gs, e = .returned (.pointer (some ⟨g, 0, none⟩)) ∧ PMem w' g gs (.slice none 0 0) n (DK.new n) ∧ w.heap.size ≤ g ∧ w.heap.size ≤ gs ∧ Below w.heap.size w w' := by
 have hn : (0 : Int) ≤ n ∧ (n : Int) ≤ 65536 := by omega
 go_enter Try.func32, Try.ntmps32
 go_wp2_with (first
  | (refine make_blocksT rfl (.tmp 4) (.tmp 4) rfl n h2 rfl rfl ?_; intro w1 hs1 hb1)
  | fail)
 go_ret
 have hb2 : Below w1.heap.size w1 (w1.alloc (.cells (pcells w.heap.size n (.slice none 0 0) (DK.new n)).toArray 78)) := (Below.refl _ _).alloc (Nat.le_refl _) _
 have hz : DOk n (DK.new n) := ⟨h2, ⟨by simp [DK.new], fun b hb => by simp only [DK.new, List.mem_replicate] at hb; rw [hb.2]; exact zero64_length⟩, ⟨by simp [DK.new], fun b hb => by simp only [DK.new, List.mem_replicate] at hb; rw [hb.2]; exact zero64_length⟩, (fun x hx => by simp [DK.new] at hx), by simp [DK.new], by simp [DK.new]⟩
 exact ⟨w1.heap.size, w.heap.size, rfl, ⟨HT.new, hs1.below hb2, OwnR.empty encW_len _ _ _, hz⟩, hb1.size, Nat.le_refl _, hb1.alloc hb1.size _⟩
theorem parm_any (w : World) (g gs : Nat) (vo : Value) (n : Nat) (D : DK) (h : PMem w g gs vo n D) (m : Int) (hm : m ≤ 9223372036854775807) :
  Calls Try.prog 53 #[.pointer (some ⟨g, 0, none⟩), .int .i64 m] w fun e w' => e = .returned (.tuple #[]) ∧ PMem w' g gs vo n (dArm D m) ∧ Kept (fun k => k = g) w w' := by
 obtain ⟨hc0, hc1, hc2, hc3, hc4, hc5⟩ := h.cells
 have hfz := h.hd.frozen
 obtain ⟨o, ho⟩ : ∃ o, o = D.off := ⟨_, rfl⟩
 rw [← ho] at hc3
 have HD : Hid (dArm D m = if o = true then D else { D with arm := max m 0 }) := by show _ = _; rw [ho]; rfl
 have Hh := Lib.hid h
 clear ho h hc0 hc1 hc2 hc5
 cases o with
 | true =>
  go_enter Try.func53, Try.ntmps53
  go_wp2_with fail
  go_end0
  rw [HD.out]
  exact ⟨rfl, Hh.out, Kept.refl _ _⟩
 | false =>
  have Hm := Lib.hid hm
  clear hm
  by_cases h0 : 0 ≤ m
  ·
   have e0 : max m 0 = m := by omega
   have E0 := Lib.hid e0
   have h0' : decide (m < 0) = false := by simp; omega
   go_enter Try.func53, Try.ntmps53
   go_wp2_with fail
   go_end0
   rw [HD.out, if_neg (by simp), E0.out]
   exact ⟨rfl, Hh.out.put rfl rfl rfl rfl (by have := Hm.out; simp only; omega), keptG _ _ _ _⟩
  ·
   have e0 : max m 0 = 0 := by omega
   have E0 := Lib.hid e0
   have h0' : m < 0 := by omega
   clear h0
   go_enter Try.func53, Try.ntmps53
   go_wp2_with fail
   go_end0
   rw [HD.out, if_neg (by simp), E0.out]
   exact ⟨rfl, Hh.out.put rfl rfl rfl rfl ⟨by show (0 : Int) ≤ 0; decide, by show (0 : Int) ≤ _; decide⟩, keptG _ _ _ _⟩
theorem pstart_any (w : World) (g gs : Nat) (vo : Value) (n : Nat) (D : DK) (h : PMem w g gs vo n D) (hto : D.torn = true → D.off = true) :
  Calls Try.prog 36 #[.pointer (some ⟨g, 0, none⟩)] w fun e w' => e = .returned (.tuple #[]) ∧ PPost w g gs vo n (dStart D) w' := by
 have hc5 := h.cells.2.2.2.2.2
 obtain ⟨o, ho⟩ : ∃ o, o = D.torn := ⟨_, rfl⟩
 rw [← ho] at hc5
 cases o with
 | true =>
  have hd : dStart D = { dCrash D [] with off := false } := by unfold dStart; rw [if_pos ⟨hto ho.symm, ho.symm⟩]
  have HD := Lib.hid hd
  have hcr := pcrash_any w g gs vo n D h (.slice none 0 0) [] (fun w' _ => Sl.nil w' 1)
  clear hd ho h hto
  go_enter Try.func36, Try.ntmps36
  go_wp2_with fail
  refine hcr.mono ?_
  clear hcr
  rintro e w1 ⟨rfl, vo1, h1, hk1, ho1⟩
  have hc3 := h1.cells.2.2.2.1
  have hfz := h1.hd.frozen
  have H1 := Lib.hid h1
  have HK1 := Lib.hid hk1
  have HO1 := Lib.hid ho1
  clear h1 hk1 ho1 hc5
  go_wp2_with fail
  go_end0
  rw [HD.out]
  exact ⟨rfl, vo1, H1.out.put rfl rfl rfl rfl H1.out.ok.arm, HK1.out.trans (keptG _ _ _ _) (fun _ _ e => .inl e), HO1.out⟩
 | false =>
  have hd : dStart D = { D with off := false } := by unfold dStart; rw [if_neg (by rw [← ho]; simp)]
  have HD := Lib.hid hd
  have hc3 := h.cells.2.2.2.1
  have hfz := h.hd.frozen
  have H := Lib.hid h
  clear hd ho h hto
  go_enter Try.func36, Try.ntmps36
  go_wp2_with fail
  go_end0
  rw [HD.out]
  exact ⟨rfl, vo, H.out.put rfl rfl rfl rfl H.out.ok.arm, (keptG _ _ _ _).weaken (fun _ e => .inl e), fun _ e => .inl e⟩
end Cam
namespace Cam
open Go Go.RowKit Go.Proofs
theorem pMark_any (w : World) (g : Nat) (hg : g ≤ 1099511627776) : Calls Try.prog 75 #[.int .i64 (g : Int)] w fun e w' => e = .returned (.int .u8 ((markB g).toNat : Int)) ∧ w = w' := by
 have e1 : (g : Int).tmod 255 = ((g % 255 : Nat) : Int) := by rw [Int.tmod_eq_emod_of_nonneg (by omega)]; omega
 obtain ⟨q, hq⟩ : ∃ z, z = g % 255 := ⟨_, rfl⟩
 rw [← hq] at e1
 have hq5 : q < 255 := by omega
 have e2 : 1 + (q : Int) = ((markB g).toNat : Int) := by
  unfold markB
  rw [UInt8.toNat_ofNat', ← hq]
  omega
 have E2 := Lib.hid e2
 have hq0 : (0 : Int) ≤ q ∧ (q : Int) < 255 := by omega
 have hg0 : (0 : Int) ≤ g ∧ (g : Int) ≤ 1099511627776 := by omega
 clear hq e2
 go_enter Try.func75, Try.ntmps75
 go_wp2_with fail
 go_ret
 rw [← E2.out]
 exact ⟨rfl, rfl⟩
theorem pBlocks_any (w : World) (m : Nat) (hm : m ≤ 1000000000000) : Calls Try.prog 65 #[.int .i64 (m : Int)] w fun e w' => e = .returned (.int .i64 (needN m : Nat)) ∧ w = w' := by
 have h0 : (0 : Int) ≤ m ∧ (m : Int) ≤ 1000000000000 := by omega
 go_enter Try.func65, Try.ntmps65
 go_wp2_with fail
 go_ret
 exact ⟨by first | (show Ending.returned (.int .i64 (((m : Int) + 62 - 1) / 62)) = _; rw [show ((m : Int) + 62 - 1) / 62 = ((needN m : Nat) : Int) by unfold needN; omega]) | (show Ending.returned (.int .i64 (((m : Int) + 61) / 62)) = _; rw [show ((m : Int) + 61) / 62 = ((needN m : Nat) : Int) by unfold needN; omega]) | trace_state, rfl⟩
theorem fNo_mid (a r : List UInt8) (h : 13 ≤ a.length) : fNo (a ++ r) = fNo a := by
 unfold fNo
 rw [List.drop_append_of_le_length (by omega), List.take_append_of_le_length (by rw [List.length_drop]; omega)]
theorem fGen_mid (a r : List UInt8) (h : 9 ≤ a.length) : fGen (a ++ r) = fGen a := by
 unfold fGen
 rw [List.drop_append_of_le_length (by omega), List.take_append_of_le_length (by rw [List.length_drop]; omega)]
theorem mid_length {x : List UInt8} (hx : x.length = 64) : (mid x).length = 62 := by unfold mid; rw [List.length_take, List.length_drop, hx]; omega
theorem mid_head {x : List UInt8} : (mid x)[0]? = x[1]? := by
 unfold mid
 rw [List.getElem?_take_of_lt (by omega), List.getElem?_drop]
theorem stands_page {x : List UInt8} {L : List (List UInt8)} (hx : x.length = 64) : stands (x :: L) ↔ isHead (mid x) ∧ rowN (x :: L) ≤ (x :: L).length ∧ (∀ y ∈ (x :: L).take (rowN (x :: L)), isMk (fGen (mid x)) y) ∧ isFrame (rowBy (x :: L)) := by
 have hm := mid_length hx
 have hG : hGen x = fGen (mid x) := by have := hGen_mid x [] hx; rw [List.append_nil] at this; exact this.symm
 have hS : hSize x = fSize (mid x) := by have := hSize_mid x [] hx; rw [List.append_nil] at this; exact this.symm
 have hp := rowN_pos (x :: L)
 have hb : ∃ q, rowBy (x :: L) = mid x ++ q := by
  unfold rowBy
  obtain ⟨m, hm⟩ : ∃ m, rowN (x :: L) = m + 1 := ⟨rowN (x :: L) - 1, by omega⟩
  rw [hm, List.take_succ_cons]
  exact ⟨_, rfl⟩
 obtain ⟨q, hq⟩ := hb
 constructor
 ·
  rintro ⟨h1, h2, h3, h4, h5, h6⟩
  have h2' : x[1]? = some 195 := h2
  have h3' : hSize x ≤ 65536 := h3
  refine ⟨⟨by omega, by rw [mid_head]; exact h2', ?_, ?_, by rw [← hS]; exact h3'⟩, h4, ?_, h6⟩
  ·
   have := h6.2.2.1
   rw [hq, fGen_mid _ _ (by omega)] at this
   exact this
  ·
   have := h6.2.2.2.1
   rw [hq, fNo_mid _ _ (by omega)] at this
   exact this
  ·
   rw [← hG]
   exact h5
 ·
  rintro ⟨h1, h4, h5, h6⟩
  refine ⟨by simp, ?_, ?_, h4, ?_, h6⟩
  ·
   show x[1]? = some 195
   rw [← mid_head]
   exact h1.2.1
  ·
   show hSize x ≤ 65536
   rw [hS]
   exact h1.2.2.2.2
  ·
   show ∀ y ∈ _, isMk (hGen x) y
   rw [hG]
   exact h5
theorem HC.mid {w : World} {g : Nat} {b : List UInt8} (h : HC w g (bvs b)) (hb : b.length = 64) : Bs w (.slice (some ⟨g, 1, none⟩) 62 63) (mid b) := by
 have hm := mid_length hb
 refine ⟨by simp [hm], some ⟨g, 1, none⟩, 63, by rw [hm], by omega, (by unfold maxLen; omega), (fun e => by cases e), fun ad had i u hu => ?_⟩
 simp only [Option.some.injEq] at had
 subst had
 rw [add_none]
 refine h.cell ?_
 rw [List.getElem?_map] at hu
 unfold bvs
 rw [List.getElem?_map, ← hu]
 congr 1
 unfold Cam.mid
 have hi : i < 62 := by
  rcases Nat.lt_or_ge i 62 with h | h
  ·
   exact h
  ·
   rw [List.getElem?_eq_none (by rw [hm]; omega)] at hu
   cases hu
 rw [List.getElem?_take_of_lt hi, List.getElem?_drop]
end Cam
namespace Cam
open Go Go.RowKit Go.Proofs
theorem size_any (w : World) (g n : Nat) (F : Nat → Prop) (D : DK) (h : DX w g F n D) :
  Calls Try.prog 41 #[.pointer (some ⟨g, 0, none⟩)] w fun e w' => e = .returned (.int .i64 ((n / 2 : Nat) : Int)) ∧ w = w' := by
 have hb := Blocks_x w g n F D h
 have hn : (0 : Int) ≤ n ∧ (n : Int) ≤ 65536 := by have := h.ok.n1; omega
 clear h
 go_enter Try.func41, Try.ntmps41
 go_wp2_with fail
 refine hb.mono ?_
 rintro e w' ⟨rfl, rfl⟩
 clear hb
 go_wp2_with fail
 go_ret
 exact ⟨by rw [Int.natCast_ediv]; rfl, rfl⟩
theorem need_any (w : World) (m : Nat) (hm : m ≤ 1000000000000) :
  Calls Try.prog 61 #[.int .i64 (m : Int)] w fun e w' => e = .returned (.int .i64 (needN m : Nat)) ∧ w = w' := by
 have h0 : (0 : Int) ≤ m ∧ (m : Int) ≤ 1000000000000 := by omega
 have HN : Hid (((needN m : Nat) : Int) = ((m : Int) + 61) / 62) := by show _ = _; unfold needN; omega
 clear hm
 go_enter Try.func61, Try.ntmps61
 go_wp2_with fail
 go_ret
 refine ⟨?_, rfl⟩
 show Ending.returned (.int .i64 (((m : Int) + 62 - 1) / 62)) = _
 rw [HN.out, show (m : Int) + 62 - 1 = m + 61 by omega]
set_option maxHeartbeats 400000 in
theorem jnum_any (w : World) (v : Value) (l : List UInt8) (h : Bs w v l) (h8 : l.length ≤ 8) :
  Calls Try.prog 70 #[v] w fun e w' => e = .returned (.int .u64 (unbe l)) ∧ w = w' := by
 obtain ⟨a, cap, rfl, hcap, hm⟩ := h.shape
 go_enter Try.func70, Try.ntmps70
 go_wp2
 go_loop [3, 8] (fun n i => ∃ k : Nat, k ≤ l.length ∧ i = .int .i64 k ∧ n = .int .u64 (unbe (l.take k))) (fun _ i => l.length - (intOf i).toNat)
 case atStart => exact ⟨0, Nat.zero_le _, rfl, rfl⟩
 case round =>
  obtain ⟨k, hk, rfl, rfl⟩ := hrel
  by_cases hlt : k < l.length
  ·
   have hb := unbe_lt (l.take k)
   rw [List.length_take, Nat.min_eq_left hk] at hb
   have hb' : unbe (l.take k) < 72057594037927936 := Nat.lt_of_lt_of_le hb (pow256_le (by omega))
   clear hb
   obtain ⟨b, off, rfl, _, hc⟩ := h.at (by omega)
   have hck := hc k hlt
   have hu := l[k].toNat_lt
   clear hc
   go_wp2
   go_round
   case rel => exact ⟨k + 1, by omega, by go_num, by rw [or_byte _ _ hb' (by simpa using hu), ← unbe_snoc, ← take_snoc]⟩
   case measure => simp [intOf]; omega
  ·
   go_wp2
   go_ret
   exact ⟨by rw [List.take_of_length_le (by omega)]; rfl, rfl⟩
theorem Bs.none_nil {w : World} {n c : Nat} {l : List UInt8} (h : Bs w (.slice none n c) l) : l = [] := by
 cases l with
 | nil => rfl
 | cons x l =>
  obtain ⟨b, off, e, _⟩ := h.at (by simp)
  cases e
theorem OwnB.lit0 (t : TypeId) (w : World) (base : Nat) (hb : base ≤ w.heap.size) : OwnB t (w.alloc (.cells #[] t)) base (.slice (some ⟨w.heap.size, 0, none⟩) 0 0) [] := World.ownsRow_made (e := t) (size := 1) (base := base) w #[] 0 hb (by simp [maxLen]) rfl
set_option maxHeartbeats 800000 in
theorem BClone_any (w : World) (v : Value) (l : List UInt8) (h : Bs w v l) (hl : l.length ≤ 1000000) :
  Calls Try.prog 45 #[v] w (RetB 5 w l) := by
 obtain ⟨av, cap, rfl, hcap, hm⟩ := h.shape
 have q22 : ∀ (w : World) (a : Option Addr) (n c n' c' : Nat), (binOp .eql 22 (.slice a n c) (.slice none n' c')).run Try.prog w = .ok (.bool a.isNone) w := fun w a n c n' c' => Lib.run_eql_slice_nil w _ _ a n c n' c' Try.underlying22
 cases av with
 | none =>
  obtain rfl := Bs.none_nil h
  go_enter Try.func45, Try.ntmps45
  go_wp2_with fail
  go_ret
  exact ⟨_, rfl, OwnB.empty _ _ _, Below.refl _ _⟩
 | some ad =>
  have hA := h.alloc (.cells #[] 5)
  have h0 := OwnB.lit0 5 w w.heap.size (Nat.le_refl _)
  go_enter Try.func45, Try.ntmps45
  go_wp2_with (first
   | (at_builtin; refine wpList_append_bytes (l := []) (m := l) rfl (.tmp 5) (.tmp 6) 22 rfl elem_u8 rfl rfl h0 hA (by simp; omega) (by simp) ?_; intro a7 n7 c7 w7 Hn7 ho7 hb7 hg7)
   | fail)
  go_ret
  exact ⟨_, rfl, by simpa using ho7, ((Below.refl _ _).alloc (Nat.le_refl _) _).trans hb7⟩
end Cam
