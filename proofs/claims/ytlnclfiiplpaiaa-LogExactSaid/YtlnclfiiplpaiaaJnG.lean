import Derived.Test.YtlnclfiiplpaiaaJnF
/- journal.rowed. -/
namespace Cam
open Go Go.RowKit Go.Proofs
theorem u8_size : (Try.prog.info? 5).map (·.size) = some 1 := by kernel_rfl
theorem zero_enc : encB zero64 = bvs zero64 := encB_64 zero64_length
theorem run_make_blocksT (w : World) (n : Nat) (hn : n ≤ 65536) : ∃ w', (Instr.makeSlice 75 (.int .i64 (n : Int)) (.int .i64 (n : Int))).run Try.prog w = .ok (.slice (some ⟨w.heap.size, 0, none⟩) n n) w' ∧ HT w' w.heap.size 36 (flatW encB (List.replicate n zero64)) ∧ Below w.heap.size w w' := by
 obtain ⟨ht, ⟨i, z, hi, hz, hs, hby, hzs⟩, hp⟩ := elem_block
 have hz2 : z = .agg (bvs zero64).toArray := by
  have h : (Try.prog.info? 36).map (·.zero) = some (some (.agg (bvs zero64).toArray)) := by kernel_rfl
  rw [hi] at h
  simp only [Option.map_some, Option.some.injEq] at h
  rw [hz] at h
  simpa using h
 obtain ⟨w', hrun, hown, hg⟩ := run_make_full (P := Try.prog) w w.heap.size 75 36 i z 64 ht hi hz hs .i64 .i64 n (by rw [hby]; omega) (by unfold maxLen; omega) (Nat.le_refl _)
 refine ⟨w', hrun, ?_, (Below.refl _ _).grown hg (Nat.le_refl _) (fun k hk => by cases hk)⟩
 subst hz2
 rw [show (Value.agg (bvs zero64).toArray).cells = (bvs zero64).toArray from rfl, madeZeros] at hown
 obtain ⟨hl, h2⟩ := hown
 rcases h2 with ⟨e, _⟩ | ⟨g, cap, cur, e, _, hh, _, _, hsz, htk⟩
 ·
  cases e
 ·
  simp only [Value.slice.injEq, Option.some.injEq, Addr.mk.injEq] at e
  obtain ⟨⟨rfl, _⟩, _, rfl⟩ := e
  unfold HT
  rw [flat_encB (fun b hb => by rw [List.eq_of_mem_replicate hb]; exact zero64_length), hh, ← htk, List.take_of_length_le (by simp [hsz])]
theorem wpList_make_blocksT {w : World} {ops : Array Oper} {rest : List Oper} {o : Oper} {a : Act} {Q : Exit → Act → World → Prop} (hgd : o.guard = none) (l c : Operand) (hop : o.op = Op.makeSlice 75 l c)
  (n : Nat) (hn : n ≤ 65536) (hl : a.eval l = .int .i64 (n : Int)) (hc : a.eval c = .int .i64 (n : Int))
  (h : ∀ w', HT w' w.heap.size 36 (flatW encB (List.replicate n zero64)) → Below w.heap.size w w' → wpList Try.prog ops Q rest (a.put o.dst (.slice (some ⟨w.heap.size, 0, none⟩) n n)) w') : wpList Try.prog ops Q (o :: rest) a w := by
 refine wpList_plain hgd fun K hK => ?_
 obtain ⟨w', hr, h1, h2⟩ := run_make_blocksT w n hn
 unfold Oper.wp execOp
 simp only [hop, hl, hc, Sem.run_bind, hr]
 exact hK _ _ (h w' h1 h2)
theorem HT.ownBl {w : World} {gb m base : Nat} {L : List (List UInt8)} (h : HT w gb 36 (flatW encB L)) (hL : L.length = m) (hb : base ≤ gb) (hm : m ≤ 65536) : OwnR encB 64 36 w base (.slice (some ⟨gb, 0, none⟩) m m) L := by
 have hl : (flatW encB L).length = m * 64 := by rw [flatW_length (fun a _ => encB_len a), hL]
 refine ⟨encB_len, by rw [hL]; exact hl, .inr ⟨gb, m, (flatW encB L).toArray, by rw [hL], hb, h, by omega, by unfold maxLen; omega, by simpa using hl, ?_⟩⟩
 rw [hL]
 exact List.take_of_length_le (by simp [hl])
theorem marks_block {L : List (List UInt8)} {k gen : Nat} {by_ : List UInt8} (hk : k < L.length) (hz : L[k]? = some zero64) :
  splice (((flatW encB L).set (k * 64) (.int .u8 ((markB gen).toNat : Int))).set (k * 64 + 63) (.int .u8 ((markB gen).toNat : Int))) (k * 64 + 1) (bvs ((by_.drop (k * 62)).take 62)) = flatW encB (L.set k (blockB gen by_ k)) := by
 rw [← flatW_set (fun a _ => encB_len a) hk (blockB gen by_ k) (encB_len _), encB_64 (blockB_length _ _ _)]
 have hfl : (flatW encB L).length = L.length * 64 := flatW_length (fun a _ => encB_len a)
 have hzz : ∀ j, j < 64 → (flatW encB L)[k * 64 + j]? = some (.int .u8 0) := fun j hj => flatW_at (fun a _ => encB_len a) hk j _ (by
  have : L[k] = zero64 := by rw [List.getElem?_eq_getElem hk] at hz; exact Option.some.inj hz
  rw [this, zero_enc]
  unfold zero64 bvs
  rw [List.map_replicate, List.getElem?_replicate, if_pos hj]
  rfl)
 obtain ⟨p, hp⟩ : ∃ p, p = (by_.drop (k * 62)).take 62 := ⟨_, rfl⟩
 have hpl : p.length ≤ 62 := by rw [hp, List.length_take]; omega
 have hb : bvs (blockB gen by_ k) = .int .u8 ((markB gen).toNat : Int) :: (bvs p ++ (List.replicate (62 - p.length) (.int .u8 0) ++ [.int .u8 ((markB gen).toNat : Int)])) := by
  unfold blockB padB bvs
  rw [← hp]
  simp
 rw [hb, ← hp]
 have hkl : k * 64 + 64 ≤ (flatW encB L).length := by rw [hfl]; omega
 clear hb hp hz
 generalize flatW encB L = C at *
 generalize Value.int .u8 ((markB gen).toNat : Int) = x
 have hbl : (bvs p).length = p.length := bvs_length p
 generalize bvs p = q at *
 generalize p.length = n at *
 apply List.ext_getElem?
 intro i
 unfold splice
 simp only [List.getElem?_append, List.getElem?_take, List.getElem?_drop, List.getElem?_set, List.length_take, List.length_set, List.length_cons, List.length_append, List.length_replicate, List.length_nil, List.getElem?_cons, List.getElem?_replicate, List.getElem?_nil]
 by_cases h1 : i < k * 64
 ·
  grind
 ·
  by_cases h2 : i < k * 64 + 64
  ·
   obtain ⟨j, rfl⟩ : ∃ j, i = k * 64 + j := ⟨i - k * 64, by omega⟩
   have := hzz j (by omega)
   grind
  ·
   grind
def rowsTo (gen : Nat) (b : List UInt8) (m k : Nat) : List (List UInt8) := (List.range k).map (blockB gen b) ++ List.replicate (m - k) zero64
theorem rowsTo_at {gen : Nat} {b : List UInt8} {m k : Nat} (h : k < m) : (rowsTo gen b m k)[k]? = some zero64 := by
 unfold rowsTo
 rw [List.getElem?_append_right (by simp), List.getElem?_replicate]
 simp
 omega
theorem rows_step {gen : Nat} {b : List UInt8} {m k : Nat} {L : List (List UInt8)} (h : k < m) (hL : L = rowsTo gen b m k) : L.set k (blockB gen b k) = rowsTo gen b m (k + 1) := by
 subst hL
 unfold rowsTo
 rw [List.set_append_right _ _ (by simp), List.range_succ, List.map_append]
 simp only [List.length_map, List.length_range, Nat.sub_self, List.map_cons, List.map_nil]
 obtain ⟨d, hd⟩ : ∃ d, m - k = d + 1 := ⟨m - k - 1, by omega⟩
 rw [hd, List.replicate_succ, List.set_cons_zero, show m - (k + 1) = d by omega]
 simp
def RowedPost (w : World) (gen no : Nat) (p : List UInt8) (e : Ending) (w' : World) : Prop := ∃ v, e = .returned (.tuple #[v, .int .i64 0]) ∧ OwnR encB 64 36 w' w.heap.size v (rowsOf gen no p) ∧ Below w.heap.size w w'
set_option maxRecDepth 100000 in
set_option maxHeartbeats 3200000 in
theorem rowed_ok (w : World) (v : Value) (gen no : Nat) (p : List UInt8) (h : Bs w v p) (hg : gen ≤ 1099511627776) (hn : no ≤ 2147483647) (hp : p.length ≤ 65536) :
  Calls Try.prog 42 #[.int .i64 (gen : Int), .int .i64 (no : Int), v] w (RowedPost w gen no p) := by
 have hs := Seal_ok w v gen no p h hg hn hp
 obtain ⟨by_, hby⟩ : ∃ z, z = sealB gen no p := ⟨_, rfl⟩
 obtain ⟨B, hB⟩ : ∃ z, z = by_.length := ⟨_, rfl⟩
 have hBl : B = p.length + 21 := by rw [hB, hby, sealB_length]
 obtain ⟨m, hm⟩ : ∃ z, z = needN B := ⟨_, rfl⟩
 have hmb : B ≤ m * 62 ∧ (m - 1) * 62 < B ∧ 1 ≤ m ∧ m ≤ 2000 ∧ 1 ≤ B ∧ B ≤ 65557 := by rw [hm]; unfold needN; omega
 have HROW : Hid (rowsOf gen no p = rowsTo gen by_ m m) := by
  show _ = _
  unfold rowsOf rowsTo
  rw [← hby, ← hBl, ← hm, Nat.sub_self, List.replicate_zero, List.append_nil]
 have hnd : ∀ w, Calls Try.prog 61 #[.int .i64 (B : Int)] w fun e w' => e = .returned (.int .i64 (m : Int)) ∧ w = w' := fun w => by rw [hm]; exact need_any w B (by omega)
 rw [← hby] at hs
 obtain ⟨r, hr⟩ : ∃ z, z = gen % 255 := ⟨_, rfl⟩
 obtain ⟨mk, hmk⟩ : ∃ z, z = markB gen := ⟨_, rfl⟩
 have HR5 : Hid ((gen : Int).tmod 255 = (r : Int)) := by show _ = _; rw [hr, Int.tmod_eq_emod_of_nonneg (by omega)]; omega
 have HR6 : Hid (IntKind.i64.wrap (1 + (r : Int)) = 1 + (r : Int)) := IntWalk.i64_in _ (by omega)
 have HR7 : Hid (IntKind.u8.wrap (1 + (r : Int)) = (mk.toNat : Int)) := by
  show _ = _
  rw [hmk]
  unfold markB
  rw [UInt8.toNat_ofNat', ← hr]
  simp [IntKind.wrap, IntKind.bits, IntKind.signed]
 have hrb : (0 : Int) ≤ r ∧ (r : Int) < 255 := by omega
 have HMK := Lib.hid hmk
 have HBL := Lib.hid hB.symm
 have hgi : (0 : Int) ≤ gen ∧ (gen : Int) ≤ 1099511627776 := by omega
 have HND := Lib.hid hnd
 clear hby hBl hm hmk hr hnd hB h
 go_enter Try.func42, Try.ntmps42
 go_wp2_with fail
 refine hs.mono ?_
 clear hs
 rintro e w1 ⟨v8, rfl, hv8, hb1⟩
 obtain ⟨a8, n8, cq, rfl, hn8, hv9⟩ := hv8.named
 obtain rfl : B = n8 := by rw [hn8.out, HBL.out]
 obtain ⟨gq, rfl, hgq, hcqm⟩ : ∃ gq, a8 = some ⟨gq, 0, none⟩ ∧ w.heap.size ≤ gq ∧ B ≤ cq ∧ cq ≤ 9223372036854775807 := by
  obtain ⟨w9, c10, e10, h10, h11⟩ := hv9.bs.shape
  obtain ⟨g9, c9, h9⟩ := Joins.ownsRow_form hv9 (by rw [HBL.out]; omega)
  have h9b := h9
  simp only [Value.slice.injEq] at h9 e10
  refine ⟨g9, h9.1, OwnB.ge hv9 g9 (by rw [h9.1]; rfl), ?_, ?_⟩
  ·
   have := HBL.out; omega
  ·
   omega
 have hnd := HND.out w1
 have HV9 := Lib.hid hv9
 have HB1 := Lib.hid hb1
 clear hv8 hv9 hb1 hn8
 go_wp2_with fail
 refine hnd.mono ?_
 rintro e w2 ⟨rfl, rfl⟩
 clear hnd
 go_wp2_with (first
  | (refine wpList_make_blocksT rfl (.tmp 24) (.tmp 24) rfl m (by omega) rfl rfl ?_; intro w3 hht hb3)
  | fail)
 obtain ⟨gb, hgb⟩ : ∃ z, z = w1.heap.size := ⟨_, rfl⟩
 rw [← hgb] at hht ⊢
 have HHT := Lib.hid hht
 have HB3 := Lib.hid (HB1.out.next hb3)
 have HV3 := Lib.hid (HV9.out.below hb3)
 have HGB : Hid (w.heap.size ≤ gb) := by show _ ≤ _; rw [hgb]; exact HB1.out.size
 have HAP : Hid (∀ q, (Value.slice (some ⟨gq, 0, none⟩) B cq).ownBlock = some q → ¬ q = gb) := fun q hq e => by have := OwnB.lt HV9.out q hq; omega
 clear hht hb3 hgb HV9 HB1
 go_wp2_with fail
 go_loopw [28] (fun i wr => ∃ (k : Nat) (Lk : List (List UInt8)), k ≤ m ∧ i = .int .i64 k ∧ HT wr gb 36 (flatW encB Lk) ∧ Below w.heap.size w wr ∧ OwnB 5 wr w.heap.size (.slice (some ⟨gq, 0, none⟩) B cq) by_ ∧ Hid (Lk.length = m) ∧ Hid (Lk = rowsTo gen by_ m k)) (fun i _ => m - (intOf i).toNat)
 case atStart => exact ⟨0, List.replicate m zero64, Nat.zero_le _, rfl, HHT.out, HB3.out, HV3.out, List.length_replicate, rfl⟩
 case round =>
  obtain ⟨k, Lk, hk, rfl, hht, hbb, hqq, HLK, HLKE⟩ := hrel
  have HTB := Lib.hid hht
  have HB := Lib.hid hbb
  have HQ := Lib.hid hqq
  clear hht hbb hqq
  by_cases hlt : k < m
  ·
   obtain ⟨K62, hK62⟩ : ∃ z, z = k * 62 := ⟨_, rfl⟩
   have hKb : K62 < B ∧ K62 < cq ∧ (K62 : Int) ≤ B ∧ (K62 : Int) ≤ cq ∧ (0 : Int) ≤ K62 := by
    have : k * 62 ≤ (m - 1) * 62 := Nat.mul_le_mul_right _ (by omega)
    omega
   have HK62N := Lib.hid hK62
   have HK62 : Hid (IntKind.i64.wrap ((k : Int) * 62) = (K62 : Int)) := by show _ = _; rw [IntWalk.i64_in _ (by omega)]; omega
   have HC1 : Hid (¬ (cq : Int) = (K62 : Int)) := by show ¬ _; omega
   have HC2 : Hid (¬ cq = K62) := by show ¬ _; omega
   have HZB : Hid (Lk[k]? = some zero64) := by show _ = _; rw [HLKE.out]; exact rowsTo_at hlt
   have HZ0 : Hid ((flatW encB Lk)[k * 64]? = some (.int .u8 0)) := by
    have hkl : k < Lk.length := by rw [HLK.out]; exact hlt
    have h9 := flatW_at (f := encB) (W := 64) (fun a _ => encB_len a) hkl 0 (.int .u8 0) (by
     have : Lk[k] = zero64 := by have h8 := HZB.out; rw [List.getElem?_eq_getElem hkl] at h8; exact Option.some.inj h8
     rw [this, zero_enc]; rfl)
    exact h9
   have HZ1 : Hid (((flatW encB Lk).set (k * 64) (.int .u8 (mk.toNat : Int)))[k * 64 + 63]? = some (.int .u8 0)) := by
    have hkl : k < Lk.length := by rw [HLK.out]; exact hlt
    have h9 := flatW_at (f := encB) (W := 64) (fun a _ => encB_len a) hkl 63 (.int .u8 0) (by
     have : Lk[k] = zero64 := by have h8 := HZB.out; rw [List.getElem?_eq_getElem hkl] at h8; exact Option.some.inj h8
     rw [this, zero_enc]; rfl)
    show _ = _
    rw [List.getElem?_set_ne (by omega)]
    exact h9
   have hk0 : (0 : Int) ≤ k ∧ (k : Int) < m := by omega
   clear hK62
   go_upto_region 8 with fail
   refine wp_region_uni (S0 := (fun _ => True)) (S := BL wr) 17 (by kernel_rfl) (Below.refl _ _).drew ?_
   refine wpAnyU_take (i := 0) (oi := { dst := some 31, op := Op.move (Operand.tmp 10), type := 75, pos := "row.go:37", after := #[], guard := none }) (v := (.slice (some ⟨gb, 0, none⟩) m m)) rfl (by kernel_rfl) (by kernel_rfl) (by kernel_rfl) (by kernel_rfl) (by kernel_rfl) (fun _ _ _ h => h) (⟨fun _ _ => trivial, fun _ _ h hb => Below.next h hb⟩ : Cls (fun _ => True) (BL wr)) ?_ ?_
   ·
    refine Or.inl ⟨rfl, fun w hSw => ?_⟩
    exact EffR.same (by go_simp)
   try simp only [Act.put, zA, zB, zC]
   refine wpAnyU_take (i := 1) (oi := { dst := some 32, op := Op.move (Operand.tmp 11), type := 3, pos := "row.go:37", after := #[], guard := none }) (v := (.int .i64 (k : Int))) rfl (by kernel_rfl) (by kernel_rfl) (by kernel_rfl) (by kernel_rfl) (by kernel_rfl) (fun _ _ _ h => h) (⟨fun _ _ => trivial, fun _ _ h hb => Below.next h hb⟩ : Cls (fun _ => True) (BL wr)) ?_ ?_
   ·
    refine Or.inl ⟨rfl, fun w hSw => ?_⟩
    exact EffR.same (by go_simp)
   try simp only [Act.put, zA, zB, zC]
   refine wpAnyU_take (i := 2) (oi := { dst := some 33, op := Op.move (Operand.tmp 10), type := 75, pos := "row.go:37", after := #[{ on := 14, ground := Ground.gcOnly Departure.lateStores }], guard := none }) (v := (.slice (some ⟨gb, 0, none⟩) m m)) rfl (by kernel_rfl) (by kernel_rfl) (by kernel_rfl) (by kernel_rfl) (by kernel_rfl) (fun _ _ _ h => h) (⟨fun _ _ => trivial, fun _ _ h hb => Below.next h hb⟩ : Cls (fun _ => True) (BL wr)) ?_ ?_
   ·
    refine Or.inl ⟨rfl, fun w hSw => ?_⟩
    exact EffR.same (by go_simp)
   try simp only [Act.put, zA, zB, zC]
   refine wpAnyU_take (i := 3) (oi := { dst := some 34, op := Op.move (Operand.tmp 11), type := 3, pos := "row.go:37", after := #[{ on := 14, ground := Ground.gcOnly Departure.lateStores }], guard := none }) (v := (.int .i64 (k : Int))) rfl (by kernel_rfl) (by kernel_rfl) (by kernel_rfl) (by kernel_rfl) (by kernel_rfl) (fun _ _ _ h => h) (⟨fun _ _ => trivial, fun _ _ h hb => Below.next h hb⟩ : Cls (fun _ => True) (BL wr)) ?_ ?_
   ·
    refine Or.inl ⟨rfl, fun w hSw => ?_⟩
    exact EffR.same (by go_simp)
   try simp only [Act.put, zA, zB, zC]
   refine wpAnyU_take (i := 4) (oi := { dst := some 35, op := Op.move (Operand.tmp 0), type := 3, pos := "row.go:37", after := #[], guard := none }) (v := (.int .i64 (gen : Int))) rfl (by kernel_rfl) (by kernel_rfl) (by kernel_rfl) (by kernel_rfl) (by kernel_rfl) (fun _ _ _ h => h) (⟨fun _ _ => trivial, fun _ _ h hb => Below.next h hb⟩ : Cls (fun _ => True) (BL wr)) ?_ ?_
   ·
    refine Or.inl ⟨rfl, fun w hSw => ?_⟩
    exact EffR.same (by go_simp)
   try simp only [Act.put, zA, zB, zC]
   refine wpAnyU_take (i := 5) (oi := { dst := some 36, op := Op.binOp BinOp.rem 3 (Operand.tmp 35) (Operand.const (Value.int IntKind.i64 255)) 3, type := 3, pos := "row.go:37", after := #[{ on := 4, ground := Ground.data }], guard := none }) (v := (.int .i64 (r : Int))) rfl (by kernel_rfl) (by kernel_rfl) (by kernel_rfl) (by kernel_rfl) (by kernel_rfl) (fun _ _ _ h => h) (⟨fun _ _ => trivial, fun _ _ h hb => Below.next h hb⟩ : Cls (fun _ => True) (BL wr)) ?_ ?_
   ·
    refine Or.inl ⟨rfl, fun w hSw => ?_⟩
    have e0 := HR5.out
    exact EffR.same (by go_simp)
   try simp only [Act.put, zA, zB, zC]
   refine wpAnyU_take (i := 6) (oi := { dst := some 37, op := Op.binOp BinOp.add 3 (Operand.const (Value.int IntKind.i64 1)) (Operand.tmp 36) 3, type := 3, pos := "row.go:37", after := #[{ on := 5, ground := Ground.data }], guard := none }) (v := (.int .i64 (1 + (r : Int)))) rfl (by kernel_rfl) (by kernel_rfl) (by kernel_rfl) (by kernel_rfl) (by kernel_rfl) (fun _ _ _ h => h) (⟨fun _ _ => trivial, fun _ _ h hb => Below.next h hb⟩ : Cls (fun _ => True) (BL wr)) ?_ ?_
   ·
    refine Or.inl ⟨rfl, fun w hSw => ?_⟩
    have e0 := HR6.out
    exact EffR.same (by go_simp)
   try simp only [Act.put, zA, zB, zC]
   refine wpAnyU_take (i := 7) (oi := { dst := some 38, op := Op.convert 3 5 (Operand.tmp 37), type := 5, pos := "row.go:37", after := #[{ on := 6, ground := Ground.data }], guard := none }) (v := (.int .u8 (mk.toNat : Int))) rfl (by kernel_rfl) (by kernel_rfl) (by kernel_rfl) (by kernel_rfl) (by kernel_rfl) (fun _ _ _ h => h) (⟨fun _ _ => trivial, fun _ _ h hb => Below.next h hb⟩ : Cls (fun _ => True) (BL wr)) ?_ ?_
   ·
    refine Or.inl ⟨rfl, fun w hSw => ?_⟩
    have e0 := HR7.out
    exact EffR.same (by go_simp)
   try simp only [Act.put, zA, zB, zC]
   refine wpAnyU_take (i := 8) (oi := { dst := some 39, op := Op.move (Operand.tmp 0), type := 3, pos := "row.go:37", after := #[{ on := 14, ground := Ground.gcOnly Departure.lateStores }], guard := none }) (v := (.int .i64 (gen : Int))) rfl (by kernel_rfl) (by kernel_rfl) (by kernel_rfl) (by kernel_rfl) (by kernel_rfl) (fun _ _ _ h => h) (⟨fun _ _ => trivial, fun _ _ h hb => Below.next h hb⟩ : Cls (fun _ => True) (BL wr)) ?_ ?_
   ·
    refine Or.inl ⟨rfl, fun w hSw => ?_⟩
    exact EffR.same (by go_simp)
   try simp only [Act.put, zA, zB, zC]
   refine wpAnyU_take (i := 9) (oi := { dst := some 40, op := Op.binOp BinOp.rem 3 (Operand.tmp 39) (Operand.const (Value.int IntKind.i64 255)) 3, type := 3, pos := "row.go:37", after := #[{ on := 8, ground := Ground.data }, { on := 14, ground := Ground.gcOnly Departure.lateStores }], guard := none }) (v := (.int .i64 (r : Int))) rfl (by kernel_rfl) (by kernel_rfl) (by kernel_rfl) (by kernel_rfl) (by kernel_rfl) (fun _ _ _ h => h) (⟨fun _ _ => trivial, fun _ _ h hb => Below.next h hb⟩ : Cls (fun _ => True) (BL wr)) ?_ ?_
   ·
    refine Or.inl ⟨rfl, fun w hSw => ?_⟩
    have e0 := HR5.out
    exact EffR.same (by go_simp)
   try simp only [Act.put, zA, zB, zC]
   refine wpAnyU_take (i := 10) (oi := { dst := some 41, op := Op.binOp BinOp.add 3 (Operand.const (Value.int IntKind.i64 1)) (Operand.tmp 40) 3, type := 3, pos := "row.go:37", after := #[{ on := 9, ground := Ground.data }, { on := 14, ground := Ground.gcOnly Departure.lateStores }], guard := none }) (v := (.int .i64 (1 + (r : Int)))) rfl (by kernel_rfl) (by kernel_rfl) (by kernel_rfl) (by kernel_rfl) (by kernel_rfl) (fun _ _ _ h => h) (⟨fun _ _ => trivial, fun _ _ h hb => Below.next h hb⟩ : Cls (fun _ => True) (BL wr)) ?_ ?_
   ·
    refine Or.inl ⟨rfl, fun w hSw => ?_⟩
    have e0 := HR6.out
    exact EffR.same (by go_simp)
   try simp only [Act.put, zA, zB, zC]
   refine wpAnyU_take (i := 11) (oi := { dst := some 42, op := Op.convert 3 5 (Operand.tmp 41), type := 5, pos := "row.go:37", after := #[{ on := 10, ground := Ground.data }, { on := 14, ground := Ground.gcOnly Departure.lateStores }], guard := none }) (v := (.int .u8 (mk.toNat : Int))) rfl (by kernel_rfl) (by kernel_rfl) (by kernel_rfl) (by kernel_rfl) (by kernel_rfl) (fun _ _ _ h => h) (⟨fun _ _ => trivial, fun _ _ h hb => Below.next h hb⟩ : Cls (fun _ => True) (BL wr)) ?_ ?_
   ·
    refine Or.inl ⟨rfl, fun w hSw => ?_⟩
    have e0 := HR7.out
    exact EffR.same (by go_simp)
   try simp only [Act.put, zA, zB, zC]
   refine wpAnyU_take (i := 12) (oi := { dst := some 43, op := Op.indexAddr 75 (Operand.tmp 31) (Operand.tmp 32), type := 0, pos := "row.go:37", after := #[{ on := 0, ground := Ground.data }, { on := 1, ground := Ground.data }], guard := none }) (v := (.pointer (some ⟨gb, k * 64, none⟩))) rfl (by kernel_rfl) (by kernel_rfl) (by kernel_rfl) (by kernel_rfl) (by kernel_rfl) (fun _ _ _ h => h) (⟨fun _ _ => trivial, fun _ _ h hb => Below.next h hb⟩ : Cls (fun _ => True) (BL wr)) ?_ ?_
   ·
    refine Or.inl ⟨rfl, fun w hSw => ?_⟩
    exact EffR.same (by go_simp)
   try simp only [Act.put, zA, zB, zC]
   refine wpAnyU_take (i := 13) (oi := { dst := some 44, op := Op.indexAddr 36 (Operand.tmp 43) (Operand.const (Value.int IntKind.i64 0)), type := 0, pos := "row.go:37", after := #[{ on := 12, ground := Ground.data }, { on := 0, ground := Ground.phase }, { on := 1, ground := Ground.phase }, { on := 2, ground := Ground.textOnly Departure.lateStores }, { on := 3, ground := Ground.textOnly Departure.lateStores }, { on := 4, ground := Ground.phase }, { on := 5, ground := Ground.phase }, { on := 6, ground := Ground.phase }, { on := 7, ground := Ground.phase }, { on := 8, ground := Ground.textOnly Departure.lateStores }, { on := 9, ground := Ground.textOnly Departure.lateStores }, { on := 10, ground := Ground.textOnly Departure.lateStores }, { on := 11, ground := Ground.textOnly Departure.lateStores }], guard := none }) (v := (.pointer (some ⟨gb, k * 64, none⟩))) rfl (by kernel_rfl) (by kernel_rfl) (by kernel_rfl) (by kernel_rfl) (by kernel_rfl) (fun _ _ _ h => h) (⟨fun _ _ => trivial, fun _ _ h hb => Below.next h hb⟩ : Cls (fun _ => True) (BL wr)) ?_ ?_
   ·
    refine Or.inl ⟨rfl, fun w hSw => ?_⟩
    exact EffR.same (by go_simp)
   try simp only [Act.put, zA, zB, zC]
   refine wpAnyU_take (i := 15) (oi := { dst := some 45, op := Op.indexAddr 75 (Operand.tmp 33) (Operand.tmp 34), type := 0, pos := "row.go:37", after := #[{ on := 2, ground := Ground.data }, { on := 3, ground := Ground.data }], guard := none }) (v := (.pointer (some ⟨gb, k * 64, none⟩))) rfl (by kernel_rfl) (by kernel_rfl) (by kernel_rfl) (by kernel_rfl) (by kernel_rfl) (fun _ _ _ h => h) (⟨fun _ _ => trivial, fun _ _ h hb => Below.next h hb⟩ : Cls (fun _ => True) (BL wr)) ?_ ?_
   ·
    refine Or.inl ⟨rfl, fun w hSw => ?_⟩
    exact EffR.same (by go_simp)
   try simp only [Act.put, zA, zB, zC]
   refine wpAnyU_ready (rs := [14]) (by kernel_rfl) (by simp) ?_
   refine AllReadyU.cons (o := { dst := none, op := Op.store 5 (Operand.tmp 44) (Operand.tmp 38), type := 0, pos := "row.go:37", after := #[{ on := 13, ground := Ground.data }, { on := 7, ground := Ground.data }, { on := 0, ground := Ground.phase }, { on := 1, ground := Ground.phase }, { on := 2, ground := Ground.textOnly Departure.lateStores }, { on := 3, ground := Ground.textOnly Departure.lateStores }, { on := 4, ground := Ground.phase }, { on := 5, ground := Ground.phase }, { on := 6, ground := Ground.phase }, { on := 7, ground := Ground.phase }, { on := 8, ground := Ground.textOnly Departure.lateStores }, { on := 9, ground := Ground.textOnly Departure.lateStores }, { on := 10, ground := Ground.textOnly Departure.lateStores }, { on := 11, ground := Ground.textOnly Departure.lateStores }], guard := none }) rfl (fun wA14 hA14 K hK => ?_) AllReadyU.nil
   have hx := HT.below HTB.out hA14
   have c3 := hx.cell (j := k * 64) HZ0.out
   have f3 := hx.frozen (k * 64)
   go_simp
   obtain ⟨wE, hwE⟩ : ∃ z, z = wA14.setCell ⟨gb, k * 64, none⟩ (.int .u8 (mk.toNat : Int)) := ⟨_, rfl⟩
   have hkE : Kept (fun q => q = gb) wr wE := by rw [hwE]; exact Kept.pre hA14 ((Kept.refl (fun q => q = gb) wA14).setCell ⟨gb, k * 64, none⟩ _ rfl)
   have hxE : HT wE gb 36 ((flatW encB Lk).set (k * 64) (.int .u8 (mk.toNat : Int))) := by rw [hwE]; exact hx.put (k * 64) (.int .u8 (mk.toNat : Int))
   have HKE := Lib.hid hkE
   have HXE := Lib.hid hxE
   rw [← hwE]
   refine hK.out _ _ (BL wE) (⟨fun _ _ => trivial, fun _ _ h hb => Below.next h hb⟩ : Cls (fun _ => True) (BL wE)) (Below.refl _ _) ?_
   clear hx c3 f3 hkE hxE hwE
   clear hK K
   try simp only [Act.put]
   refine wpAnyU_take (i := 16) (oi := { dst := some 46, op := Op.indexAddr 36 (Operand.tmp 45) (Operand.const (Value.int IntKind.i64 63)), type := 0, pos := "row.go:37", after := #[{ on := 15, ground := Ground.data }, { on := 0, ground := Ground.phase }, { on := 1, ground := Ground.phase }, { on := 2, ground := Ground.phase }, { on := 3, ground := Ground.phase }, { on := 4, ground := Ground.phase }, { on := 5, ground := Ground.phase }, { on := 6, ground := Ground.phase }, { on := 7, ground := Ground.phase }, { on := 8, ground := Ground.phase }, { on := 9, ground := Ground.phase }, { on := 10, ground := Ground.phase }, { on := 11, ground := Ground.phase }, { on := 12, ground := Ground.phase }, { on := 13, ground := Ground.phase }, { on := 14, ground := Ground.phase }], guard := none }) (v := (.pointer (some ⟨gb, k * 64 + 63, none⟩))) rfl (by kernel_rfl) (by kernel_rfl) (by kernel_rfl) (by kernel_rfl) (by kernel_rfl) (fun _ _ _ h => h) (⟨fun _ _ => trivial, fun _ _ h hb => Below.next h hb⟩ : Cls (fun _ => True) (BL wE)) ?_ ?_
   ·
    refine Or.inl ⟨rfl, fun w hSw => ?_⟩
    exact EffR.same (by go_simp)
   try simp only [Act.put, zA, zB, zC]
   refine wpAnyU_last (o := { dst := none, op := Op.store 5 (Operand.tmp 46) (Operand.tmp 42), type := 0, pos := "row.go:37", after := #[{ on := 16, ground := Ground.data }, { on := 11, ground := Ground.data }, { on := 14, ground := Ground.chain }, { on := 0, ground := Ground.phase }, { on := 1, ground := Ground.phase }, { on := 2, ground := Ground.phase }, { on := 3, ground := Ground.phase }, { on := 4, ground := Ground.phase }, { on := 5, ground := Ground.phase }, { on := 6, ground := Ground.phase }, { on := 7, ground := Ground.phase }, { on := 8, ground := Ground.phase }, { on := 9, ground := Ground.phase }, { on := 10, ground := Ground.phase }, { on := 11, ground := Ground.phase }, { on := 12, ground := Ground.phase }, { on := 13, ground := Ground.phase }, { on := 14, ground := Ground.phase }], guard := none }) (by kernel_rfl) (by kernel_rfl) rfl (fun w1 hb1 K hK => ?_)
   have hx := HT.below HXE.out hb1
   have c4 := hx.cell (j := k * 64 + 63) HZ1.out
   have f4 := hx.frozen (k * 64 + 63)
   have HX2 := Lib.hid (hx.put (k * 64 + 63) (.int .u8 (mk.toNat : Int)))
   have HK2 := Lib.hid (HKE.out.trans (Kept.pre hb1 ((Kept.refl (fun q => q = gb) w1).setCell ⟨gb, k * 64 + 63, none⟩ (.int .u8 (mk.toNat : Int)) rfl)) (fun _ _ e => e))
   clear hx
   go_simp
   refine hK.out _ _ ?_
   clear hK K
   try simp only [Act.put]
   clear c4 f4
   obtain ⟨w2, hw2⟩ : ∃ z, z = w1.setCell ⟨gb, k * 64 + 63, none⟩ (.int .u8 (mk.toNat : Int)) := ⟨_, rfl⟩
   rw [← hw2] at HX2 HK2 ⊢
   clear hw2 hb1 HKE HXE
   have HQ2 := Lib.hid (HQ.out.keptJ HK2.out (fun q hq e => HAP.out q hq e))
   obtain ⟨part, hpart⟩ : ∃ z, z = (by_.drop K62).take 62 := ⟨_, rfl⟩
   have HPN : Hid ((bvs part).length = Nat.min (B - K62) 62 * 1) := by
    show _ = _
    rw [bvs_length, hpart, List.length_take, List.length_drop, HBL.out, Nat.mul_one, Nat.min_comm]
   have HPL : Hid (part.length ≤ 62) := by show _ ≤ _; rw [hpart, List.length_take]; omega
   have HSR : Hid (∀ j v, (bvs part)[j]? = some v → w2.cell? ⟨gq, K62 + j, none⟩ = some v) := fun j v hv => by
    obtain ⟨b9, o9, e9, _, hc9⟩ := HQ2.out.bs.at (by rw [HBL.out]; omega)
    cases e9
    rw [List.getElem?_map, hpart, List.getElem?_take] at hv
    by_cases hj : j < 62
    ·
     rw [if_pos hj, List.getElem?_drop] at hv
     cases hq9 : by_[K62 + j]? with
     | none => rw [hq9] at hv; cases hv
     | some x =>
      rw [hq9] at hv
      cases hv
      obtain ⟨hlt9, hx9⟩ := List.getElem?_eq_some_iff.1 hq9
      have h9 := hc9 (K62 + j) hlt9
      rw [Nat.zero_add, hx9] at h9
      exact h9
    ·
     rw [if_neg hj] at hv
     cases hv
   have HPART := Lib.hid hpart
   have HFL : Hid ((flatW encB Lk).length = m * 64) := by show _ = _; rw [flatW_length (fun a _ => encB_len a), HLK.out]
   clear hpart
   go_wp2_with fail
   refine wp_region_uni (S0 := (fun _ => True)) (S := BL w2) 8 (by kernel_rfl) (Below.refl _ _).drew ?_
   refine wpAnyU_take (i := 0) (oi := { dst := some 47, op := Op.move (Operand.tmp 10), type := 75, pos := "row.go:38", after := #[], guard := none }) (v := (.slice (some ⟨gb, 0, none⟩) m m)) rfl (by kernel_rfl) (by kernel_rfl) (by kernel_rfl) (by kernel_rfl) (by kernel_rfl) (fun _ _ _ h => h) (⟨fun _ _ => trivial, fun _ _ h hb => Below.next h hb⟩ : Cls (fun _ => True) (BL w2)) ?_ ?_
   ·
    refine Or.inl ⟨rfl, fun w hSw => ?_⟩
    exact EffR.same (by go_simp)
   try simp only [Act.put, zA, zB, zC]
   refine wpAnyU_take (i := 1) (oi := { dst := some 48, op := Op.move (Operand.tmp 11), type := 3, pos := "row.go:38", after := #[], guard := none }) (v := (.int .i64 (k : Int))) rfl (by kernel_rfl) (by kernel_rfl) (by kernel_rfl) (by kernel_rfl) (by kernel_rfl) (fun _ _ _ h => h) (⟨fun _ _ => trivial, fun _ _ h hb => Below.next h hb⟩ : Cls (fun _ => True) (BL w2)) ?_ ?_
   ·
    refine Or.inl ⟨rfl, fun w hSw => ?_⟩
    exact EffR.same (by go_simp)
   try simp only [Act.put, zA, zB, zC]
   refine wpAnyU_take (i := 2) (oi := { dst := some 49, op := Op.indexAddr 75 (Operand.tmp 47) (Operand.tmp 48), type := 0, pos := "row.go:38", after := #[{ on := 0, ground := Ground.data }, { on := 1, ground := Ground.data }], guard := none }) (v := (.pointer (some ⟨gb, k * 64, none⟩))) rfl (by kernel_rfl) (by kernel_rfl) (by kernel_rfl) (by kernel_rfl) (by kernel_rfl) (fun _ _ _ h => h) (⟨fun _ _ => trivial, fun _ _ h hb => Below.next h hb⟩ : Cls (fun _ => True) (BL w2)) ?_ ?_
   ·
    refine Or.inl ⟨rfl, fun w hSw => ?_⟩
    exact EffR.same (by go_simp)
   try simp only [Act.put, zA, zB, zC]
   refine wpAnyU_take (i := 3) (oi := { dst := some 50, op := Op.slice 36 (Operand.tmp 49) (some (Operand.const (Value.int IntKind.i64 1))) (some (Operand.const (Value.int IntKind.i64 63))) none, type := 22, pos := "row.go:38", after := #[{ on := 2, ground := Ground.data }], guard := none }) (v := (.slice (some ⟨gb, k * 64 + 1, none⟩) 62 63)) rfl (by kernel_rfl) (by kernel_rfl) (by kernel_rfl) (by kernel_rfl) (by kernel_rfl) (fun _ _ _ h => h) (⟨fun _ _ => trivial, fun _ _ h hb => Below.next h hb⟩ : Cls (fun _ => True) (BL w2)) ?_ ?_
   ·
    refine Or.inl ⟨rfl, fun w hSw => ?_⟩
    exact EffR.same (by go_simp)
   try simp only [Act.put, zA, zB, zC]
   refine wpAnyU_take (i := 4) (oi := { dst := some 51, op := Op.move (Operand.tmp 8), type := 22, pos := "row.go:38", after := #[], guard := none }) (v := (.slice (some ⟨gq, 0, none⟩) B cq)) rfl (by kernel_rfl) (by kernel_rfl) (by kernel_rfl) (by kernel_rfl) (by kernel_rfl) (fun _ _ _ h => h) (⟨fun _ _ => trivial, fun _ _ h hb => Below.next h hb⟩ : Cls (fun _ => True) (BL w2)) ?_ ?_
   ·
    refine Or.inl ⟨rfl, fun w hSw => ?_⟩
    exact EffR.same (by go_simp)
   try simp only [Act.put, zA, zB, zC]
   refine wpAnyU_take (i := 5) (oi := { dst := some 52, op := Op.move (Operand.tmp 11), type := 3, pos := "row.go:38", after := #[], guard := none }) (v := (.int .i64 (k : Int))) rfl (by kernel_rfl) (by kernel_rfl) (by kernel_rfl) (by kernel_rfl) (by kernel_rfl) (fun _ _ _ h => h) (⟨fun _ _ => trivial, fun _ _ h hb => Below.next h hb⟩ : Cls (fun _ => True) (BL w2)) ?_ ?_
   ·
    refine Or.inl ⟨rfl, fun w hSw => ?_⟩
    exact EffR.same (by go_simp)
   try simp only [Act.put, zA, zB, zC]
   refine wpAnyU_take (i := 6) (oi := { dst := some 53, op := Op.binOp BinOp.mul 3 (Operand.tmp 52) (Operand.const (Value.int IntKind.i64 62)) 3, type := 3, pos := "row.go:38", after := #[{ on := 5, ground := Ground.data }], guard := none }) (v := (.int .i64 (K62 : Int))) rfl (by kernel_rfl) (by kernel_rfl) (by kernel_rfl) (by kernel_rfl) (by kernel_rfl) (fun _ _ _ h => h) (⟨fun _ _ => trivial, fun _ _ h hb => Below.next h hb⟩ : Cls (fun _ => True) (BL w2)) ?_ ?_
   ·
    refine Or.inl ⟨rfl, fun w hSw => ?_⟩
    have e0 := HK62.out
    exact EffR.same (by go_simp)
   try simp only [Act.put, zA, zB, zC]
   refine wpAnyU_take (i := 7) (oi := { dst := some 54, op := Op.slice 22 (Operand.tmp 51) (some (Operand.tmp 53)) none none, type := 22, pos := "row.go:38", after := #[{ on := 4, ground := Ground.data }, { on := 6, ground := Ground.data }], guard := none }) (v := (.slice (some ⟨gq, K62, none⟩) (B - K62) (cq - K62))) rfl (by kernel_rfl) (by kernel_rfl) (by kernel_rfl) (by kernel_rfl) (by kernel_rfl) (fun _ _ _ h => h) (⟨fun _ _ => trivial, fun _ _ h hb => Below.next h hb⟩ : Cls (fun _ => True) (BL w2)) ?_ ?_
   ·
    refine Or.inl ⟨rfl, fun w hSw => ?_⟩
    have e0 := HC1.out
    have e1 := HC2.out
    exact EffR.same (by go_simp)
   try simp only [Act.put, zA, zB, zC]
   refine wpAnyU_last (o := { dst := some 55, op := Op.call { callee := Callee.builtin Builtin.copy, args := #[Operand.tmp 50, Operand.tmp 54], argTypes := #[22, 22] }, type := 3, pos := "row.go:38", after := #[{ on := 3, ground := Ground.data }, { on := 7, ground := Ground.data }], guard := none }) (by kernel_rfl) (by kernel_rfl) rfl (fun w1 hb1 K hK => ?_)
   have hx := HT.below HX2.out hb1
   refine step_copy_wide rfl (.tmp 50) (.tmp 54) 22 22 rfl 5 1 Try.underlying22 u8_size gb (k * 64 + 1) 62 63 ⟨gq, K62, none⟩ (B - K62) (cq - K62) rfl rfl (bvs part) HPN.out (fun j v hv => ?_) (fun j hj => ⟨hx.isSome (by rw [List.length_set, List.length_set, HFL.out]; have := HPL.out; rw [bvs_length] at hj; omega), hx.frozen _⟩) (bs_oneCell _) ?_
   ·
    rw [add_none]
    exact Below.cell hb1 (World.block_lt_of_cell? w2 _ (HSR.out j v hv)) |>.trans (HSR.out j v hv)
   have HX3 := Lib.hid (hx.puts (o := k * 64 + 1) (vs := bvs part) (by rw [List.length_set, List.length_set, HFL.out, bvs_length]; have := HPL.out; omega))
   have HK3 := Lib.hid (Kept.trans (Kept.of_below hb1 |>.weaken (T := fun q => q = gb) (fun _ e => e.elim)) (setCells_kept gb (bvs part) (k * 64 + 1) w1) (fun _ _ e => e))
   clear hx
   refine hK.out _ _ ?_
   clear hK K
   try simp only [Act.put, zA, zB, zC]
   obtain ⟨w3, hw3⟩ : ∃ z, z = w1.setCells gb (k * 64 + 1) (bvs part) := ⟨_, rfl⟩
   rw [← hw3] at HX3 HK3 ⊢
   clear hw3 hb1
   go_wp2_with fail
   have hnew : splice (((flatW encB Lk).set (k * 64) (.int .u8 (mk.toNat : Int))).set (k * 64 + 63) (.int .u8 (mk.toNat : Int))) (k * 64 + 1) (bvs part) = flatW encB (Lk.set k (blockB gen by_ k)) := by
    rw [HPART.out, HK62N.out, HMK.out]
    exact marks_block (by rw [HLK.out]; omega) HZB.out
   rw [hnew] at HX3
   refine ⟨⟨k + 1, Lk.set k (blockB gen by_ k), by omega, by push_cast; rfl, HX3.out, ?_, HQ2.out.keptJ HK3.out (fun q hq e => HAP.out q hq e), by rw [List.length_set]; exact HLK.out, ?_⟩, by simp [intOf]; omega⟩
   ·
    exact HB.out.trans ((HK2.out.trans HK3.out (fun _ _ e => e)).below (fun q hq e => by have := HGB.out; omega) HB.out.size)
   ·
    exact rows_step hlt HLKE.out
  ·
   obtain rfl : k = m := by omega
   go_wp2_with fail
   go_ret2
   refine ⟨_, rfl, ?_, HB.out⟩
   rw [HROW.out, ← HLKE.out]
   exact HT.ownBl HTB.out HLK.out HGB.out (by omega)
end Cam
