import Derived.Test.YtlnclfiiplpaiaaPgB
import Derived.Test.YtlnclfiiplpaiaaJnLz
/- the page's journal: Begin refused, Append. -/
namespace Cam
open Go Go.RowKit Go.Proofs
theorem PBegin_big (w : World) (gl hf g : Nat) (Fl : Nat → Prop) (T : LT) (hl : PLX w gl hf Fl g T) (v : Value) (hgen : T.half.gen = 1099511627776) :
  Calls Try.prog 51 #[.pointer (some ⟨gl, 0, none⟩), v] w fun e w' => e = .returned (.int .i64 1) ∧ w = w' := by
 obtain ⟨vsn, vrc, h1, h2, h3, h4⟩ := hl
 have hx2 := h1.cell (j := 2) rfl
 rw [hgen] at hx2
 clear h1 h2 h3 h4 hgen
 go_enter Try.func51, Try.ntmps51
 go_wp2_with fail
 go_ret
 exact ⟨rfl, rfl⟩
theorem PBegin_full (w : World) (gl hf g n : Nat) (Fd Fl : Nat → Prop) (D : DK) (T : LT) (hd : PX w g Fd n D) (hl : PLX w gl hf Fl g T) (v : Value) (s : List UInt8) (hbs : Bs w v s)
  (hgen : T.half.gen < 1099511627776) (hs : s.length ≤ 65536) (hfit : n / 2 < (rowsOf (T.half.gen + 1) 0 s).length) :
  Calls Try.prog 51 #[.pointer (some ⟨gl, 0, none⟩), v] w fun e w' => e = .returned (.int .i64 9) ∧ w = w' := by
 have hrm := PRoom_x w g n Fd D hd gl hf Fl T hl
 obtain ⟨vsn, vrc, h1, h2, h3, h4⟩ := hl
 have hx2 := h1.cell (j := 2) rfl
 obtain ⟨ge, hge⟩ : ∃ z, z = T.half.gen := ⟨_, rfl⟩
 rw [← hge] at hgen hx2
 have hgb : (0 : Int) ≤ ge ∧ (ge : Int) < 1099511627776 := by omega
 have hge2 : ((ge : Int) == 1099511627776) = false := by rw [beq_eq_false_iff_ne]; omega
 obtain ⟨av, cap, rfl, hcap, hcm⟩ := hbs.shape
 obtain ⟨ls, hls⟩ : ∃ z, z = s.length := ⟨_, rfl⟩
 rw [rowsOf_length] at hfit
 rw [← hls] at hs hcap hfit ⊢
 have hls0 : (0 : Int) ≤ ls ∧ (ls : Int) ≤ 65536 := by omega
 have hbl := pBlocks_any w (ls + 21) (by omega)
 obtain ⟨rl, hrl⟩ : ∃ z, z = needN (ls + 21) := ⟨_, rfl⟩
 rw [← hrl, show ((ls + 21 : Nat) : Int) = (ls : Int) + 21 from by push_cast; rfl] at hbl
 obtain ⟨m, hm⟩ : ∃ z, z = n / 2 := ⟨_, rfl⟩
 rw [← hm] at hrm hfit
 rw [← hrl] at hfit
 have hrlN : decide (m < rl) = true := by simp; omega
 have hrlc : decide ((m : Int) < (rl : Int)) = true := by simp; omega
 clear h1 h2 h3 h4 hgen hs hfit hd hbs hge hls hrl hm
 go_enter Try.func51, Try.ntmps51
 go_wp2_with fail
 refine hbl.mono ?_
 clear hbl
 rintro e w' ⟨rfl, rfl⟩
 go_wp2_with fail
 refine hrm.mono ?_
 clear hrm
 rintro e w' ⟨rfl, rfl⟩
 go_wp2_with fail
 go_ret
 exact ⟨rfl, rfl⟩
theorem PAppend_state (w : World) (gl hf g : Nat) (Fl : Nat → Prop) (T : LT) (hl : PLX w gl hf Fl g T) (hbg : T.begun = false) (v : Value) :
  Calls Try.prog 56 #[.pointer (some ⟨gl, 0, none⟩), v] w fun e w' => e = .returned (.int .i64 14) ∧ w = w' := by
 obtain ⟨vsn, vrc, h1, h2, h3, h4⟩ := hl
 have hc := h1.cell (j := 6) rfl
 rw [hbg] at hc
 clear h1 h2 h3 h4 hbg
 go_enter Try.func56, Try.ntmps56
 go_wp2_with fail
 go_ret
 exact ⟨rfl, rfl⟩
theorem dWrites_append : ∀ (A B : List (List UInt8)) (D : DK) (k : Nat), dWrites D k (A ++ B) = if (dWrites D k A).1 = 0 then dWrites (dWrites D k A).2 (k + A.length) B else dWrites D k A
 | [], B, D, k => by simp [dWrites]
 | a :: A, B, D, k => by
  rw [List.cons_append]
  by_cases h : (dWrite D k a).1 = 0
  ·
   rw [dWrites_ok h, dWrites_ok h, dWrites_append A B, List.length_cons, Nat.add_assoc, Nat.add_comm 1]
  ·
   rw [dWrites_stop h, dWrites_stop h, if_neg h]
theorem dWrites_op : ∀ (A : List (List UInt8)) (D : DK) (k : Nat), (dWrites D k A).2.op.length ≤ D.op.length + A.length
 | [], D, k => by simp [dWrites]
 | a :: A, D, k => by
  have h1 := dWrite_op D k a
  by_cases h : (dWrite D k a).1 = 0
  ·
   rw [dWrites_ok h, List.length_cons]
   have := dWrites_op A (dWrite D k a).2 (k + 1)
   omega
  ·
   rw [dWrites_stop h, List.length_cons]
   show (dWrite D k a).2.op.length ≤ _
   omega
def PAppPost (w : World) (g gl : Nat) (Fd Fl : Nat → Prop) (n : Nat) (D : DK) (hf : Nat) (T : LT) (rs : List (List UInt8)) (e : Ending) (w' : World) : Prop :=
 e = .returned (.int .i64 (appR n D T rs).1) ∧ PJPost w g gl Fd Fl n (appR n D T rs).2.1 hf (appR n D T rs).2.2 w'
def SA18 (gl g hf ge : Nat) (a2 : Option Addr) (nr c2 bk at_ : Nat) (s1 : Option Addr) (s2 s3 : Nat) (x : World) : Prop := x.cell? ⟨gl, 0, none⟩ = some (.pointer (some ⟨g, 0, none⟩)) ∧ x.cell? ⟨gl, 1, none⟩ = some (.int .i64 (hf : Int)) ∧ x.cell? ⟨gl, 2, none⟩ = some (.int .i64 (ge : Int)) ∧ x.cell? ⟨gl, 4, none⟩ = some (.slice a2 nr c2) ∧ x.cell? ⟨bk, at_, none⟩ = some (.slice s1 s2 s3)
set_option maxRecDepth 100000 in
set_option maxHeartbeats 12800000 in
theorem PAppend_go (w : World) (gl hf g n : Nat) (Fd Fl : Nat → Prop) (D : DK) (T : LT) (hd : PX w g Fd n D) (hl : PLX w gl hf Fl g T) (hdis : ∀ k, Fd k → ¬ Fl k) (v : Value) (L : List SV) (rs : List (List UInt8)) (hrs : ∀ w', Kept (fun k => Fd k ∨ Fl k) w w' → Rs encS 1 w' v L ∧ RowsOf w' L rs)
  (hbg : T.begun = true) (hoff : D.off = false) (hhf : hf ≤ 1) (hfr : T.from_ = hf * (n / 2)) (hfi : T.half.fin ≤ n / 2) (hgen : T.half.gen ≤ 1099511627776) (hnr : T.half.recs.length ≤ 1000000) (hle : ∀ r ∈ rs, r.length ≤ 65536) (hns : rs.length ≤ 1000) (hop : D.op.length ≤ 500000) :
  Calls Try.prog 56 #[.pointer (some ⟨gl, 0, none⟩), v] w (PAppPost w g gl Fd Fl n D hf T rs) := by
 have HLX := Lib.hid hl
 have HDIS := Lib.hid hdis
 obtain ⟨vsn, vrc, h1, h2, h3, h4⟩ := hl
 obtain ⟨a1, n1, c1, a2, nr, c2, rfl, rfl, h2n⟩ := h2.named
 obtain ⟨fr, ⟨ge, sn, rc, fi⟩, bg⟩ := T
 simp only at hfr hfi hgen hnr hbg
 subst hbg
 have h1' : HT w gl 107 [.pointer (some ⟨g, 0, none⟩), .int .i64 (hf : Int), .int .i64 (ge : Int), .slice a1 n1 c1, .slice a2 nr c2, .int .i64 (fi : Int), .bool true] := h1
 have HTL := Lib.hid h1'
 have HHM := Lib.hid h2n
 have HGL := Lib.hid h3
 have HGLT := Lib.hid (h4 gl h3)
 have hnrr : nr = rc.length := by
  obtain ⟨vs, q1, q2, _⟩ := h2n.2.2
  obtain ⟨a9, c9, e9, _⟩ := q2.rs.shape
  simp only [Value.slice.injEq] at e9
  exact e9.2.1.trans q1
 have HNR := Lib.hid hnrr
 have hLN : L.length = rs.length := (hrs w (Kept.refl _ _)).2.1
 obtain ⟨av, cv, rfl, hcv, hcm⟩ := (hrs w (Kept.refl _ _)).1.shape
 rw [hLN] at hcv hrs ⊢
 obtain ⟨N, hN⟩ : ∃ z, z = rs.length := ⟨_, rfl⟩
 rw [← hN] at hns hrs hcv hLN ⊢
 have HLN := Lib.hid hLN
 have HAT : Hid (0 < N → ∃ bk off, av = some ⟨bk, off, none⟩) := fun hp => by
  obtain ⟨b, off, e, _⟩ := Sl.at (hrs w (Kept.refl _ _)).1.2 (by rw [flat_encS, List.length_map, hLN]; exact hp)
  exact ⟨b, off, e⟩
 have HCL : Hid (∀ w', Kept (fun k => Fd k ∨ Fl k) w w' → ∀ i (h : i < L.length), ∀ bk off, av = some ⟨bk, off, none⟩ → w'.cell? ⟨bk, off + i, none⟩ = some L[i].v) := fun w' hk i hi bk off e => by
  obtain ⟨b, o, e2, _, hc⟩ := Sl.at (hrs w' hk).1.2 (by rw [flat_encS, List.length_map]; omega)
  rw [e] at e2
  simp only [Option.some.injEq, Addr.mk.injEq, and_true] at e2
  obtain ⟨rfl, rfl⟩ := e2
  have h9 := hc i (by rw [flat_encS, List.length_map]; exact hi)
  rw [h9]
  simp [flat_encS]
 have hnr1 : nr ≤ 1000000 ∧ (0 : Int) ≤ nr ∧ (nr : Int) ≤ 1000000 := by omega
 have HN := Lib.hid hN
 have hx6 := h1'.cell (j := 6) rfl
 have HC5 := Lib.hid (h1'.cell (j := 5) rfl)
 have hn1 := hd.ok.n1
 obtain ⟨m, hm⟩ : ∃ z, z = n / 2 := ⟨_, rfl⟩
 have HFRM : Hid (fr = hf * (n / 2)) := hfr
 have hfb : fr + m ≤ n ∧ fi ≤ m ∧ m ≤ 32768 := by
  rcases (show hf = 0 ∨ hf = 1 by omega) with e | e
  ·
   rw [e] at hfr; omega
  ·
   rw [e] at hfr; omega
 have HM := Lib.hid hm
 have HGE := Lib.hid hgen
 have HLE := Lib.hid hle
 have HRS := Lib.hid hrs
 have HD := Lib.hid hd
 have HOFF := Lib.hid hoff
 have hgb : (0 : Int) ≤ ge ∧ (ge : Int) ≤ 1099511627776 := by omega
 clear h1 h1' h2 h2n h3 h4 hm hd hrs hdis hle hgen hN hnrr hoff hfr hfi hnr hLN
 go_enter Try.func56, Try.ntmps56
 go_wp2_with fail
 clear hx6
 go_loopw [5, 6] (fun v5 i wr => ∃ (k q : Nat), k ≤ N ∧ i = .int .i64 k ∧ v5 = .int .i64 q ∧ wr = w ∧ Hid (q = (recRows ge (nr + 1) (rs.take k)).length)) (fun _ i _ => N - (intOf i).toNat)
 case atStart => exact ⟨0, 0, Nat.zero_le _, rfl, rfl, rfl, by show _ = _; rw [List.take_zero]; rfl⟩
 case round =>
  obtain ⟨k, q, hk, rfl, rfl, rfl, HQ⟩ := hrel
  by_cases hlt : k < N
  ·
   have hkl : k < rs.length := by have := HN.out; omega
   have hkv : k < L.length := by have := HLN.out; omega
   obtain ⟨bk, off, rfl⟩ := HAT.out (by omega)
   obtain ⟨⟨s1, s2, s3⟩, hs⟩ : ∃ z, z = L[k] := ⟨_, rfl⟩
   have hcell : wr.cell? ⟨bk, off + k, none⟩ = some (.slice s1 s2 s3) := by
    have := HCL.out wr (Kept.refl _ _) k hkv bk off rfl
    rw [← hs] at this
    exact this
   have hbs : Bs wr (.slice s1 s2 s3) rs[k] := by
    have := (HRS.out wr (Kept.refl _ _)).2.2 k hkv hkl
    rw [← hs] at this
    exact this
   have hs2 : s2 = rs[k].length := by
    obtain ⟨a8, c8, e8, _⟩ := hbs.shape
    simp only [Value.slice.injEq] at e8
    exact e8.2.1
   have hsb : s2 ≤ 65536 ∧ (0 : Int) ≤ s2 ∧ (s2 : Int) ≤ 65536 := by have := HLE.out _ (List.getElem_mem hkl); omega
   obtain ⟨rn, hrn⟩ : ∃ z, z = needN (s2 + 21) := ⟨_, rfl⟩
   have hrb : rn ≤ 2000 := by rw [hrn]; unfold needN; omega
   have HQ2 : Hid (q + rn = (recRows ge (nr + 1) (rs.take (k + 1))).length) := by
    show _ = _
    rw [take_snoc rs k hkl, recRows_append, List.length_append, ← HQ.out, recRows, recRows, List.append_nil, rowsOf_length, ← hs2, hrn]
   have hqb : q ≤ 1058000 := by
    have h1 := recRows_most (g := ge) (rs.take k) (nr + 1) (fun x hx => HLE.out x (List.mem_of_mem_take hx))
    rw [← HQ.out, List.length_take] at h1
    omega
   have hbl := pBlocks_any wr (s2 + 21) (by omega)
   rw [show ((s2 + 21 : Nat) : Int) = (s2 : Int) + 21 from by push_cast; rfl, ← hrn] at hbl
   have hk0 : (0 : Int) ≤ k ∧ (k : Int) < N ∧ (0 : Int) ≤ q ∧ (q : Int) ≤ 1058000 ∧ (rn : Int) ≤ 2000 := by omega
   clear hs hbs hs2 hrn
   go_wp2_with fail
   refine hbl.mono ?_
   clear hbl
   rintro e w' ⟨rfl, rfl⟩
   go_wp2_with fail
   exact ⟨⟨k + 1, q + rn, by omega, by push_cast; rfl, by push_cast; rfl, (by first | rfl | trivial), HQ2⟩, by simp [intOf]; omega⟩
  ·
   obtain rfl : N = k := by omega
   obtain ⟨w, hw⟩ : ∃ z, z = wr := ⟨_, rfl⟩
   subst hw
   obtain ⟨ALL, hall⟩ : ∃ z, z = recRows ge (nr + 1) rs := ⟨_, rfl⟩
   obtain ⟨AL, hal⟩ : ∃ z, z = q := ⟨_, rfl⟩
   have HALL := Lib.hid hall
   have HAL : Hid (AL = ALL.length) := by
    show _ = _
    rw [hal, HQ.out, List.take_of_length_le (by have := HN.out; omega), hall]
   rw [← hal]
   have hab : AL ≤ 1058000 := by
    rw [HAL.out, hall]
    have h1 := recRows_most (g := ge) rs (nr + 1) HLE.out
    have := HN.out
    omega
   have HWF : Hid (IntKind.i64.wrap ((fi : Int) + AL) = (fi : Int) + AL) := IntWalk.i64_in _ (by omega)
   clear hall hal HQ
   go_upto_region 10 with fail
   refine wp_region_uni (S0 := (fun x => x.cell? ⟨gl, 5, none⟩ = some (.int .i64 (fi : Int)))) (S := BL w) 9 (by kernel_rfl) (Below.refl _ _).drew ?_
   refine wpAnyU_take (i := 0) (oi := { dst := some 38, op := Op.move (Operand.tmp 0), type := 69, pos := "ref.go:265", after := #[], guard := none }) (v := (.pointer (some ⟨gl, 0, none⟩))) rfl (by kernel_rfl) (by kernel_rfl) (by kernel_rfl) (by kernel_rfl) (by kernel_rfl) (fun _ _ _ h => h) (⟨fun x h => BL.cell h HC5.out, fun _ _ h hb => Below.next h hb⟩ : Cls (fun x => x.cell? ⟨gl, 5, none⟩ = some (.int .i64 (fi : Int))) (BL w)) ?_ ?_
   ·
    refine Or.inl ⟨rfl, fun w hSw => ?_⟩
    exact EffR.same (by go_simp)
   try simp only [Act.put, zA, zB, zC]
   refine wpAnyU_take (i := 1) (oi := { dst := some 39, op := Op.nilCheck (Operand.tmp 38), type := 0, pos := "ref.go:265", after := #[{ on := 0, ground := Ground.data }], guard := none }) (v := (.pointer (some ⟨gl, 0, none⟩))) rfl (by kernel_rfl) (by kernel_rfl) (by kernel_rfl) (by kernel_rfl) (by kernel_rfl) (fun _ _ _ h => h) (⟨fun x h => BL.cell h HC5.out, fun _ _ h hb => Below.next h hb⟩ : Cls (fun x => x.cell? ⟨gl, 5, none⟩ = some (.int .i64 (fi : Int))) (BL w)) ?_ ?_
   ·
    refine Or.inl ⟨rfl, fun w hSw => ?_⟩
    exact EffR.same (by go_simp)
   try simp only [Act.put, zA, zB, zC]
   refine wpAnyU_take (i := 2) (oi := { dst := some 40, op := Op.fieldAddr 107 (Operand.tmp 39) 5, type := 0, pos := "ref.go:265", after := #[{ on := 1, ground := Ground.data }], guard := none }) (v := (.pointer (some ⟨gl, 5, none⟩))) rfl (by kernel_rfl) (by kernel_rfl) (by kernel_rfl) (by kernel_rfl) (by kernel_rfl) (fun _ _ _ h => h) (⟨fun x h => BL.cell h HC5.out, fun _ _ h hb => Below.next h hb⟩ : Cls (fun x => x.cell? ⟨gl, 5, none⟩ = some (.int .i64 (fi : Int))) (BL w)) ?_ ?_
   ·
    refine Or.inl ⟨rfl, fun w hSw => ?_⟩
    exact EffR.same (by go_simp)
   try simp only [Act.put, zA, zB, zC]
   refine wpAnyU_take (i := 3) (oi := { dst := some 41, op := Op.load 3 (Operand.tmp 40), type := 3, pos := "ref.go:265", after := #[{ on := 2, ground := Ground.data }], guard := none }) (v := (.int .i64 (fi : Int))) rfl (by kernel_rfl) (by kernel_rfl) (by kernel_rfl) (by kernel_rfl) (by kernel_rfl) (fun _ _ _ h => h) (⟨fun x h => BL.cell h HC5.out, fun _ _ h hb => Below.next h hb⟩ : Cls (fun x => x.cell? ⟨gl, 5, none⟩ = some (.int .i64 (fi : Int))) (BL w)) ?_ ?_
   ·
    refine Or.inl ⟨rfl, fun w hSw => ?_⟩
    have e0 := hSw
    exact EffR.same (by go_simp)
   try simp only [Act.put, zA, zB, zC]
   refine wpAnyU_take (i := 4) (oi := { dst := some 42, op := Op.move (Operand.tmp 5), type := 3, pos := "ref.go:265", after := #[], guard := none }) (v := (.int .i64 (AL : Int))) rfl (by kernel_rfl) (by kernel_rfl) (by kernel_rfl) (by kernel_rfl) (by kernel_rfl) (fun _ _ _ h => h) (⟨fun x h => BL.cell h HC5.out, fun _ _ h hb => Below.next h hb⟩ : Cls (fun x => x.cell? ⟨gl, 5, none⟩ = some (.int .i64 (fi : Int))) (BL w)) ?_ ?_
   ·
    refine Or.inl ⟨rfl, fun w hSw => ?_⟩
    exact EffR.same (by go_simp)
   try simp only [Act.put, zA, zB, zC]
   refine wpAnyU_take (i := 5) (oi := { dst := some 43, op := Op.binOp BinOp.add 3 (Operand.tmp 41) (Operand.tmp 42) 3, type := 3, pos := "ref.go:265", after := #[{ on := 3, ground := Ground.data }, { on := 4, ground := Ground.data }], guard := none }) (v := (.int .i64 ((fi : Int) + AL))) rfl (by kernel_rfl) (by kernel_rfl) (by kernel_rfl) (by kernel_rfl) (by kernel_rfl) (fun _ _ _ h => h) (⟨fun x h => BL.cell h HC5.out, fun _ _ h hb => Below.next h hb⟩ : Cls (fun x => x.cell? ⟨gl, 5, none⟩ = some (.int .i64 (fi : Int))) (BL w)) ?_ ?_
   ·
    refine Or.inl ⟨rfl, fun w hSw => ?_⟩
    have e0 := HWF.out
    exact EffR.same (by go_simp)
   try simp only [Act.put, zA, zB, zC]
   refine wpAnyU_take (i := 6) (oi := { dst := some 44, op := Op.move (Operand.tmp 0), type := 69, pos := "ref.go:265", after := #[], guard := none }) (v := (.pointer (some ⟨gl, 0, none⟩))) rfl (by kernel_rfl) (by kernel_rfl) (by kernel_rfl) (by kernel_rfl) (by kernel_rfl) (fun _ _ _ h => h) (⟨fun x h => BL.cell h HC5.out, fun _ _ h hb => Below.next h hb⟩ : Cls (fun x => x.cell? ⟨gl, 5, none⟩ = some (.int .i64 (fi : Int))) (BL w)) ?_ ?_
   ·
    refine Or.inl ⟨rfl, fun w hSw => ?_⟩
    exact EffR.same (by go_simp)
   try simp only [Act.put, zA, zB, zC]
   refine wpAnyU_ready (rs := [7]) (by kernel_rfl) (by simp) ?_
   refine AllReadyU.cons (o := { dst := some 45, op := Op.call { callee := Callee.value (Operand.func 66), args := #[Operand.tmp 44], argTypes := #[69] }, type := 3, pos := "ref.go:265", after := #[{ on := 6, ground := Ground.data }], guard := none }) rfl (fun wA7 hA7 K hK => ?_) AllReadyU.nil
   have hrm := PRoom_x wA7 g n Fd D (HD.out.below hA7) gl hf Fl _ (HLX.out.below hA7)
   rw [← HM.out] at hrm
   go_simp
   refine hrm.mono ?_
   clear hrm
   rintro e0 w6 ⟨rfl, rfl⟩
   refine hK.out _ _ (BL w) (⟨fun x h => BL.cell h HC5.out, fun _ _ h hb => Below.next h hb⟩ : Cls (fun x => x.cell? ⟨gl, 5, none⟩ = some (.int .i64 (fi : Int))) (BL w)) hA7 ?_
   clear hK K
   try simp only [Act.put, zA, zB, zC]
   refine wpAnyU_take (i := 8) (oi := { dst := some 46, op := Op.binOp BinOp.gtr 3 (Operand.tmp 43) (Operand.tmp 45) 3, type := 4, pos := "ref.go:265", after := #[{ on := 5, ground := Ground.data }, { on := 7, ground := Ground.data }], guard := none }) (v := (.bool (decide ((m : Int) < (fi : Int) + AL)))) rfl (by kernel_rfl) (by kernel_rfl) (by kernel_rfl) (by kernel_rfl) (by kernel_rfl) (fun _ _ _ h => h) (⟨fun x h => BL.cell h HC5.out, fun _ _ h hb => Below.next h hb⟩ : Cls (fun x => x.cell? ⟨gl, 5, none⟩ = some (.int .i64 (fi : Int))) (BL w)) ?_ ?_
   ·
    refine Or.inl ⟨rfl, fun w hSw => ?_⟩
    exact EffR.same (by go_simp)
   try simp only [Act.put, zA, zB, zC]
   refine wpAnyU_done (by kernel_rfl) (fun w1 hb1 => ?_) _
   have HBQ := Lib.hid hb1
   clear hb1
   by_cases hfull : m < fi + AL
   ·
    have hfl : decide ((m : Int) < (fi : Int) + AL) = true := by simp; omega
    go_wp2_with fail
    go_ret
    have hres : appR n D (LT.mk fr ⟨ge, sn, rc, fi⟩ true) rs = (9, D, LT.mk fr ⟨ge, sn, rc, fi⟩ true) := by
     unfold appR
     rw [if_pos (by rw [← HNR.out, ← HALL.out, ← HAL.out, ← HM.out]; exact hfull)]
    unfold PAppPost
    rw [hres]
    exact ⟨rfl, PJPost.quit HLX.out (HD.out.below HBQ.out) ((Kept.of_below HBQ.out).weaken (fun _ e => e.elim)) (fun q e => .inl e) HDIS.out⟩
   ·
    have hfl : decide ((m : Int) < (fi : Int) + AL) = false := by simp; omega
    have hx0 := (HTL.out.below HBQ.out).cell (j := 0) rfl
    have hx5 := (HTL.out.below HBQ.out).cell (j := 5) rfl
    have hof := (HD.out.below HBQ.out).cell3
    rw [HOFF.out] at hof
    have hall2 : fi + AL ≤ m := by omega
    clear hfull
    go_wp2_with fail
    clear hx0 hx5 hof hfl
    go_loopw [7, 8] (fun v7 i wr => ∃ (k q : Nat) (Dk : DK) (F1 : Nat → Prop), k ≤ N ∧ i = .int .i64 k ∧ v7 = .int .i64 q ∧ PX wr g F1 n Dk ∧ Kept Fd w wr ∧ (∀ q, F1 q → Fd q ∨ w.heap.size ≤ q) ∧ Hid (dWrites D (fr + fi) ALL = dWrites Dk (fr + q) (recRows ge (nr + 1 + k) (rs.drop k))) ∧ Hid (q + (recRows ge (nr + 1 + k) (rs.drop k)).length = fi + AL) ∧ Hid (Dk.op.length ≤ D.op.length + q)) (fun _ i _ => N - (intOf i).toNat)
    case atStart => exact ⟨0, fi, D, Fd, Nat.zero_le _, rfl, rfl, HD.out.below HBQ.out, (Kept.of_below HBQ.out).weaken (fun _ e => e.elim), fun q e => .inl e, by show _ = _; rw [List.drop_zero, Nat.add_zero, HALL.out], by show _ = _; rw [List.drop_zero, Nat.add_zero, HAL.out, HALL.out], Nat.le_add_right _ _⟩
    case round =>
     obtain ⟨k, q, Dk, F1, hk, rfl, rfl, hdk, hkp, hf1, HREC, HLEN, HOP⟩ := hrel
     have HDK := Lib.hid hdk
     have HK := Lib.hid hkp
     have HF1 := Lib.hid hf1
     clear hdk hkp hf1
     by_cases hlt : k < N
     ·
      have hkl : k < rs.length := by have := HN.out; omega
      have hkv : k < L.length := by have := HLN.out; omega
      obtain ⟨bk, off, rfl⟩ := HAT.out (by omega)
      obtain ⟨⟨s1, s2, s3⟩, hs⟩ : ∃ z, z = L[k] := ⟨_, rfl⟩
      have HS : Hid (∀ w', Kept Fd w w' → SA18 gl g hf ge a2 nr c2 bk (off + k) s1 s2 s3 w') := fun w' hk' => by
       have hx := HTL.out.keptJ hk' (fun e => HDIS.out gl e HGL.out)
       refine ⟨hx.cell (j := 0) rfl, hx.cell (j := 1) rfl, hx.cell (j := 2) rfl, hx.cell (j := 4) rfl, ?_⟩
       have := HCL.out w' (hk'.weaken (fun _ e => .inl e)) k hkv bk off rfl
       rw [← hs] at this
       exact this
      obtain ⟨r, hr⟩ : ∃ z, z = rs[k] := ⟨_, rfl⟩
      have HRB : Hid (∀ w', Kept Fd w w' → Bs w' (.slice s1 s2 s3) r) := fun w' hk' => by
       have := (HRS.out w' (hk'.weaken (fun _ e => .inl e))).2.2 k hkv hkl
       rw [← hs, ← hr] at this
       exact this
      have hs2 : s2 = r.length := by
       obtain ⟨a8, c8, e8, _⟩ := (HRB.out wr HK.out).shape
       simp only [Value.slice.injEq] at e8
       exact e8.2.1
      have HRL : Hid (r.length ≤ 65536) := by show _ ≤ _; rw [hr]; exact HLE.out _ (List.getElem_mem hkl)
      have hsb : s2 ≤ 65536 ∧ (0 : Int) ≤ s2 ∧ (s2 : Int) ≤ 65536 := by have := HRL.out; omega
      obtain ⟨rn, hrn⟩ : ∃ z, z = needN (s2 + 21) := ⟨_, rfl⟩
      have hrb : rn ≤ 2000 := by rw [hrn]; unfold needN; omega
      have HRN := Lib.hid hrn
      have HRNN : Hid (rn = needN (r.length + 21)) := by show _ = _; rw [hrn, hs2]
      have HROW : Hid ((rowsOf ge (nr + 1 + k) r).length = rn) := by show _ = _; rw [rowsOf_length, HRNN.out]
      have HDRP : Hid (recRows ge (nr + 1 + k) (rs.drop k) = rowsOf ge (nr + 1 + k) r ++ recRows ge (nr + 1 + k + 1) (rs.drop (k + 1))) := by
       show _ = _
       rw [List.drop_eq_getElem_cons hkl, recRows, ← hr]
      have hqb : q + rn ≤ fi + AL := by
       have h1 := HLEN.out
       rw [HDRP.out, List.length_append, HROW.out] at h1
       omega
      obtain ⟨E, hE⟩ : ∃ z, z = (dWrites Dk (fr + q) (rowsOf ge (nr + 1 + k) r)).1 := ⟨_, rfl⟩
      obtain ⟨Dn, hDn⟩ : ∃ z, z = (dWrites Dk (fr + q) (rowsOf ge (nr + 1 + k) r)).2 := ⟨_, rfl⟩
      have HE := Lib.hid hE
      have HDN := Lib.hid hDn
      have hk0 : (0 : Int) ≤ k ∧ (k : Int) < N ∧ (N : Int) ≤ 1000 ∧ (0 : Int) ≤ q ∧ (q : Int) + rn ≤ 32768 := by omega
      have HW1 : Hid (IntKind.i64.wrap ((nr : Int) + 1) = (nr : Int) + 1) := IntWalk.i64_in _ (by omega)
      have HW2 : Hid (IntKind.i64.wrap ((nr : Int) + 1 + k) = (nr : Int) + 1 + k) := IntWalk.i64_in _ (by omega)
      clear hs hr hs2 hrn hE hDn
      go_upto_region 18 with fail
      refine wp_region_uni (S0 := (SA18 gl g hf ge a2 nr c2 bk (off + k) s1 s2 s3)) (S := BL wr) 32 (by kernel_rfl) (Below.refl _ _).drew ?_
      refine wpAnyU_take (i := 0) (oi := { dst := some 64, op := Op.move (Operand.tmp 0), type := 69, pos := "ref.go:273", after := #[], guard := none }) (v := (.pointer (some ⟨gl, 0, none⟩))) rfl (by kernel_rfl) (by kernel_rfl) (by kernel_rfl) (by kernel_rfl) (by kernel_rfl) (fun _ _ _ h => h) (⟨fun x h => HS.out x (HK.out.next h), fun _ _ h hb => Below.next h hb⟩ : Cls (SA18 gl g hf ge a2 nr c2 bk (off + k) s1 s2 s3) (BL wr)) ?_ ?_
      ·
       refine Or.inl ⟨rfl, fun w hSw => ?_⟩
       exact EffR.same (by go_simp)
      try simp only [Act.put, zA, zB, zC]
      refine wpAnyU_take (i := 1) (oi := { dst := some 65, op := Op.nilCheck (Operand.tmp 64), type := 0, pos := "ref.go:273", after := #[{ on := 0, ground := Ground.data }], guard := none }) (v := (.pointer (some ⟨gl, 0, none⟩))) rfl (by kernel_rfl) (by kernel_rfl) (by kernel_rfl) (by kernel_rfl) (by kernel_rfl) (fun _ _ _ h => h) (⟨fun x h => HS.out x (HK.out.next h), fun _ _ h hb => Below.next h hb⟩ : Cls (SA18 gl g hf ge a2 nr c2 bk (off + k) s1 s2 s3) (BL wr)) ?_ ?_
      ·
       refine Or.inl ⟨rfl, fun w hSw => ?_⟩
       exact EffR.same (by go_simp)
      try simp only [Act.put, zA, zB, zC]
      refine wpAnyU_take (i := 2) (oi := { dst := some 66, op := Op.fieldAddr 107 (Operand.tmp 65) 0, type := 0, pos := "ref.go:273", after := #[{ on := 1, ground := Ground.data }], guard := none }) (v := (.pointer (some ⟨gl, 0, none⟩))) rfl (by kernel_rfl) (by kernel_rfl) (by kernel_rfl) (by kernel_rfl) (by kernel_rfl) (fun _ _ _ h => h) (⟨fun x h => HS.out x (HK.out.next h), fun _ _ h hb => Below.next h hb⟩ : Cls (SA18 gl g hf ge a2 nr c2 bk (off + k) s1 s2 s3) (BL wr)) ?_ ?_
      ·
       refine Or.inl ⟨rfl, fun w hSw => ?_⟩
       exact EffR.same (by go_simp)
      try simp only [Act.put, zA, zB, zC]
      refine wpAnyU_take (i := 3) (oi := { dst := some 67, op := Op.load 67 (Operand.tmp 66), type := 67, pos := "ref.go:273", after := #[{ on := 2, ground := Ground.data }], guard := none }) (v := (.pointer (some ⟨g, 0, none⟩))) rfl (by kernel_rfl) (by kernel_rfl) (by kernel_rfl) (by kernel_rfl) (by kernel_rfl) (fun _ _ _ h => h) (⟨fun x h => HS.out x (HK.out.next h), fun _ _ h hb => Below.next h hb⟩ : Cls (SA18 gl g hf ge a2 nr c2 bk (off + k) s1 s2 s3) (BL wr)) ?_ ?_
      ·
       refine Or.inl ⟨rfl, fun w hSw => ?_⟩
       have e0 := hSw.1
       exact EffR.same (by go_simp)
      try simp only [Act.put, zA, zB, zC]
      refine wpAnyU_take (i := 4) (oi := { dst := some 68, op := Op.move (Operand.tmp 0), type := 69, pos := "ref.go:273", after := #[], guard := none }) (v := (.pointer (some ⟨gl, 0, none⟩))) rfl (by kernel_rfl) (by kernel_rfl) (by kernel_rfl) (by kernel_rfl) (by kernel_rfl) (fun _ _ _ h => h) (⟨fun x h => HS.out x (HK.out.next h), fun _ _ h hb => Below.next h hb⟩ : Cls (SA18 gl g hf ge a2 nr c2 bk (off + k) s1 s2 s3) (BL wr)) ?_ ?_
      ·
       refine Or.inl ⟨rfl, fun w hSw => ?_⟩
       exact EffR.same (by go_simp)
      try simp only [Act.put, zA, zB, zC]
      refine wpAnyU_take (i := 5) (oi := { dst := some 69, op := Op.nilCheck (Operand.tmp 68), type := 0, pos := "ref.go:273", after := #[{ on := 4, ground := Ground.data }], guard := none }) (v := (.pointer (some ⟨gl, 0, none⟩))) rfl (by kernel_rfl) (by kernel_rfl) (by kernel_rfl) (by kernel_rfl) (by kernel_rfl) (fun _ _ _ h => h) (⟨fun x h => HS.out x (HK.out.next h), fun _ _ h hb => Below.next h hb⟩ : Cls (SA18 gl g hf ge a2 nr c2 bk (off + k) s1 s2 s3) (BL wr)) ?_ ?_
      ·
       refine Or.inl ⟨rfl, fun w hSw => ?_⟩
       exact EffR.same (by go_simp)
      try simp only [Act.put, zA, zB, zC]
      refine wpAnyU_take (i := 6) (oi := { dst := some 70, op := Op.fieldAddr 107 (Operand.tmp 69) 1, type := 0, pos := "ref.go:273", after := #[{ on := 5, ground := Ground.data }], guard := none }) (v := (.pointer (some ⟨gl, 1, none⟩))) rfl (by kernel_rfl) (by kernel_rfl) (by kernel_rfl) (by kernel_rfl) (by kernel_rfl) (fun _ _ _ h => h) (⟨fun x h => HS.out x (HK.out.next h), fun _ _ h hb => Below.next h hb⟩ : Cls (SA18 gl g hf ge a2 nr c2 bk (off + k) s1 s2 s3) (BL wr)) ?_ ?_
      ·
       refine Or.inl ⟨rfl, fun w hSw => ?_⟩
       exact EffR.same (by go_simp)
      try simp only [Act.put, zA, zB, zC]
      refine wpAnyU_take (i := 7) (oi := { dst := some 71, op := Op.load 3 (Operand.tmp 70), type := 3, pos := "ref.go:273", after := #[{ on := 6, ground := Ground.data }], guard := none }) (v := (.int .i64 (hf : Int))) rfl (by kernel_rfl) (by kernel_rfl) (by kernel_rfl) (by kernel_rfl) (by kernel_rfl) (fun _ _ _ h => h) (⟨fun x h => HS.out x (HK.out.next h), fun _ _ h hb => Below.next h hb⟩ : Cls (SA18 gl g hf ge a2 nr c2 bk (off + k) s1 s2 s3) (BL wr)) ?_ ?_
      ·
       refine Or.inl ⟨rfl, fun w hSw => ?_⟩
       have e0 := hSw.2.1
       exact EffR.same (by go_simp)
      try simp only [Act.put, zA, zB, zC]
      refine wpAnyU_take (i := 8) (oi := { dst := some 72, op := Op.move (Operand.tmp 7), type := 3, pos := "ref.go:273", after := #[], guard := none }) (v := (.int .i64 (q : Int))) rfl (by kernel_rfl) (by kernel_rfl) (by kernel_rfl) (by kernel_rfl) (by kernel_rfl) (fun _ _ _ h => h) (⟨fun x h => HS.out x (HK.out.next h), fun _ _ h hb => Below.next h hb⟩ : Cls (SA18 gl g hf ge a2 nr c2 bk (off + k) s1 s2 s3) (BL wr)) ?_ ?_
      ·
       refine Or.inl ⟨rfl, fun w hSw => ?_⟩
       exact EffR.same (by go_simp)
      try simp only [Act.put, zA, zB, zC]
      refine wpAnyU_take (i := 9) (oi := { dst := some 73, op := Op.move (Operand.tmp 0), type := 69, pos := "ref.go:273", after := #[], guard := none }) (v := (.pointer (some ⟨gl, 0, none⟩))) rfl (by kernel_rfl) (by kernel_rfl) (by kernel_rfl) (by kernel_rfl) (by kernel_rfl) (fun _ _ _ h => h) (⟨fun x h => HS.out x (HK.out.next h), fun _ _ h hb => Below.next h hb⟩ : Cls (SA18 gl g hf ge a2 nr c2 bk (off + k) s1 s2 s3) (BL wr)) ?_ ?_
      ·
       refine Or.inl ⟨rfl, fun w hSw => ?_⟩
       exact EffR.same (by go_simp)
      try simp only [Act.put, zA, zB, zC]
      refine wpAnyU_take (i := 10) (oi := { dst := some 74, op := Op.nilCheck (Operand.tmp 73), type := 0, pos := "ref.go:273", after := #[{ on := 9, ground := Ground.data }], guard := none }) (v := (.pointer (some ⟨gl, 0, none⟩))) rfl (by kernel_rfl) (by kernel_rfl) (by kernel_rfl) (by kernel_rfl) (by kernel_rfl) (fun _ _ _ h => h) (⟨fun x h => HS.out x (HK.out.next h), fun _ _ h hb => Below.next h hb⟩ : Cls (SA18 gl g hf ge a2 nr c2 bk (off + k) s1 s2 s3) (BL wr)) ?_ ?_
      ·
       refine Or.inl ⟨rfl, fun w hSw => ?_⟩
       exact EffR.same (by go_simp)
      try simp only [Act.put, zA, zB, zC]
      refine wpAnyU_take (i := 11) (oi := { dst := some 75, op := Op.fieldAddr 107 (Operand.tmp 74) 2, type := 0, pos := "ref.go:273", after := #[{ on := 10, ground := Ground.data }], guard := none }) (v := (.pointer (some ⟨gl, 2, none⟩))) rfl (by kernel_rfl) (by kernel_rfl) (by kernel_rfl) (by kernel_rfl) (by kernel_rfl) (fun _ _ _ h => h) (⟨fun x h => HS.out x (HK.out.next h), fun _ _ h hb => Below.next h hb⟩ : Cls (SA18 gl g hf ge a2 nr c2 bk (off + k) s1 s2 s3) (BL wr)) ?_ ?_
      ·
       refine Or.inl ⟨rfl, fun w hSw => ?_⟩
       exact EffR.same (by go_simp)
      try simp only [Act.put, zA, zB, zC]
      refine wpAnyU_take (i := 12) (oi := { dst := some 76, op := Op.load 3 (Operand.tmp 75), type := 3, pos := "ref.go:273", after := #[{ on := 11, ground := Ground.data }], guard := none }) (v := (.int .i64 (ge : Int))) rfl (by kernel_rfl) (by kernel_rfl) (by kernel_rfl) (by kernel_rfl) (by kernel_rfl) (fun _ _ _ h => h) (⟨fun x h => HS.out x (HK.out.next h), fun _ _ h hb => Below.next h hb⟩ : Cls (SA18 gl g hf ge a2 nr c2 bk (off + k) s1 s2 s3) (BL wr)) ?_ ?_
      ·
       refine Or.inl ⟨rfl, fun w hSw => ?_⟩
       have e0 := hSw.2.2.1
       exact EffR.same (by go_simp)
      try simp only [Act.put, zA, zB, zC]
      refine wpAnyU_take (i := 13) (oi := { dst := some 77, op := Op.move (Operand.tmp 0), type := 69, pos := "ref.go:273", after := #[], guard := none }) (v := (.pointer (some ⟨gl, 0, none⟩))) rfl (by kernel_rfl) (by kernel_rfl) (by kernel_rfl) (by kernel_rfl) (by kernel_rfl) (fun _ _ _ h => h) (⟨fun x h => HS.out x (HK.out.next h), fun _ _ h hb => Below.next h hb⟩ : Cls (SA18 gl g hf ge a2 nr c2 bk (off + k) s1 s2 s3) (BL wr)) ?_ ?_
      ·
       refine Or.inl ⟨rfl, fun w hSw => ?_⟩
       exact EffR.same (by go_simp)
      try simp only [Act.put, zA, zB, zC]
      refine wpAnyU_take (i := 14) (oi := { dst := some 78, op := Op.nilCheck (Operand.tmp 77), type := 0, pos := "ref.go:273", after := #[{ on := 13, ground := Ground.data }], guard := none }) (v := (.pointer (some ⟨gl, 0, none⟩))) rfl (by kernel_rfl) (by kernel_rfl) (by kernel_rfl) (by kernel_rfl) (by kernel_rfl) (fun _ _ _ h => h) (⟨fun x h => HS.out x (HK.out.next h), fun _ _ h hb => Below.next h hb⟩ : Cls (SA18 gl g hf ge a2 nr c2 bk (off + k) s1 s2 s3) (BL wr)) ?_ ?_
      ·
       refine Or.inl ⟨rfl, fun w hSw => ?_⟩
       exact EffR.same (by go_simp)
      try simp only [Act.put, zA, zB, zC]
      refine wpAnyU_take (i := 15) (oi := { dst := some 79, op := Op.fieldAddr 107 (Operand.tmp 78) 2, type := 0, pos := "ref.go:273", after := #[{ on := 14, ground := Ground.data }], guard := none }) (v := (.pointer (some ⟨gl, 2, none⟩))) rfl (by kernel_rfl) (by kernel_rfl) (by kernel_rfl) (by kernel_rfl) (by kernel_rfl) (fun _ _ _ h => h) (⟨fun x h => HS.out x (HK.out.next h), fun _ _ h hb => Below.next h hb⟩ : Cls (SA18 gl g hf ge a2 nr c2 bk (off + k) s1 s2 s3) (BL wr)) ?_ ?_
      ·
       refine Or.inl ⟨rfl, fun w hSw => ?_⟩
       exact EffR.same (by go_simp)
      try simp only [Act.put, zA, zB, zC]
      refine wpAnyU_take (i := 16) (oi := { dst := some 80, op := Op.load 3 (Operand.tmp 79), type := 3, pos := "ref.go:273", after := #[{ on := 15, ground := Ground.data }], guard := none }) (v := (.int .i64 (ge : Int))) rfl (by kernel_rfl) (by kernel_rfl) (by kernel_rfl) (by kernel_rfl) (by kernel_rfl) (fun _ _ _ h => h) (⟨fun x h => HS.out x (HK.out.next h), fun _ _ h hb => Below.next h hb⟩ : Cls (SA18 gl g hf ge a2 nr c2 bk (off + k) s1 s2 s3) (BL wr)) ?_ ?_
      ·
       refine Or.inl ⟨rfl, fun w hSw => ?_⟩
       have e0 := hSw.2.2.1
       exact EffR.same (by go_simp)
      try simp only [Act.put, zA, zB, zC]
      refine wpAnyU_take (i := 17) (oi := { dst := some 81, op := Op.move (Operand.tmp 0), type := 69, pos := "ref.go:273", after := #[], guard := none }) (v := (.pointer (some ⟨gl, 0, none⟩))) rfl (by kernel_rfl) (by kernel_rfl) (by kernel_rfl) (by kernel_rfl) (by kernel_rfl) (fun _ _ _ h => h) (⟨fun x h => HS.out x (HK.out.next h), fun _ _ h hb => Below.next h hb⟩ : Cls (SA18 gl g hf ge a2 nr c2 bk (off + k) s1 s2 s3) (BL wr)) ?_ ?_
      ·
       refine Or.inl ⟨rfl, fun w hSw => ?_⟩
       exact EffR.same (by go_simp)
      try simp only [Act.put, zA, zB, zC]
      refine wpAnyU_take (i := 18) (oi := { dst := some 82, op := Op.nilCheck (Operand.tmp 81), type := 0, pos := "ref.go:273", after := #[{ on := 17, ground := Ground.data }], guard := none }) (v := (.pointer (some ⟨gl, 0, none⟩))) rfl (by kernel_rfl) (by kernel_rfl) (by kernel_rfl) (by kernel_rfl) (by kernel_rfl) (fun _ _ _ h => h) (⟨fun x h => HS.out x (HK.out.next h), fun _ _ h hb => Below.next h hb⟩ : Cls (SA18 gl g hf ge a2 nr c2 bk (off + k) s1 s2 s3) (BL wr)) ?_ ?_
      ·
       refine Or.inl ⟨rfl, fun w hSw => ?_⟩
       exact EffR.same (by go_simp)
      try simp only [Act.put, zA, zB, zC]
      refine wpAnyU_take (i := 19) (oi := { dst := some 83, op := Op.fieldAddr 107 (Operand.tmp 82) 4, type := 0, pos := "ref.go:273", after := #[{ on := 18, ground := Ground.data }], guard := none }) (v := (.pointer (some ⟨gl, 4, none⟩))) rfl (by kernel_rfl) (by kernel_rfl) (by kernel_rfl) (by kernel_rfl) (by kernel_rfl) (fun _ _ _ h => h) (⟨fun x h => HS.out x (HK.out.next h), fun _ _ h hb => Below.next h hb⟩ : Cls (SA18 gl g hf ge a2 nr c2 bk (off + k) s1 s2 s3) (BL wr)) ?_ ?_
      ·
       refine Or.inl ⟨rfl, fun w hSw => ?_⟩
       exact EffR.same (by go_simp)
      try simp only [Act.put, zA, zB, zC]
      refine wpAnyU_take (i := 20) (oi := { dst := some 84, op := Op.load 23 (Operand.tmp 83), type := 23, pos := "ref.go:273", after := #[{ on := 19, ground := Ground.data }], guard := none }) (v := (.slice a2 nr c2)) rfl (by kernel_rfl) (by kernel_rfl) (by kernel_rfl) (by kernel_rfl) (by kernel_rfl) (fun _ _ _ h => h) (⟨fun x h => HS.out x (HK.out.next h), fun _ _ h hb => Below.next h hb⟩ : Cls (SA18 gl g hf ge a2 nr c2 bk (off + k) s1 s2 s3) (BL wr)) ?_ ?_
      ·
       refine Or.inl ⟨rfl, fun w hSw => ?_⟩
       have e0 := hSw.2.2.2.1
       exact EffR.same (by go_simp)
      try simp only [Act.put, zA, zB, zC]
      refine wpAnyU_take (i := 21) (oi := { dst := some 85, op := Op.call { callee := Callee.builtin Builtin.len, args := #[Operand.tmp 84], argTypes := #[23] }, type := 3, pos := "ref.go:273", after := #[{ on := 20, ground := Ground.data }], guard := none }) (v := (.int .i64 (nr : Int))) rfl (by kernel_rfl) (by kernel_rfl) (by kernel_rfl) (by kernel_rfl) (by kernel_rfl) (fun _ _ _ h => h) (⟨fun x h => HS.out x (HK.out.next h), fun _ _ h hb => Below.next h hb⟩ : Cls (SA18 gl g hf ge a2 nr c2 bk (off + k) s1 s2 s3) (BL wr)) ?_ ?_
      ·
       refine Or.inl ⟨rfl, fun w hSw => ?_⟩
       exact EffR.same (by go_simp)
      try simp only [Act.put, zA, zB, zC]
      refine wpAnyU_take (i := 22) (oi := { dst := some 86, op := Op.binOp BinOp.add 3 (Operand.tmp 85) (Operand.const (Value.int IntKind.i64 1)) 3, type := 3, pos := "ref.go:273", after := #[{ on := 21, ground := Ground.data }], guard := none }) (v := (.int .i64 ((nr : Int) + 1))) rfl (by kernel_rfl) (by kernel_rfl) (by kernel_rfl) (by kernel_rfl) (by kernel_rfl) (fun _ _ _ h => h) (⟨fun x h => HS.out x (HK.out.next h), fun _ _ h hb => Below.next h hb⟩ : Cls (SA18 gl g hf ge a2 nr c2 bk (off + k) s1 s2 s3) (BL wr)) ?_ ?_
      ·
       refine Or.inl ⟨rfl, fun w hSw => ?_⟩
       have e0 := HW1.out
       exact EffR.same (by go_simp)
      try simp only [Act.put, zA, zB, zC]
      refine wpAnyU_take (i := 23) (oi := { dst := some 87, op := Op.move (Operand.tmp 8), type := 3, pos := "ref.go:273", after := #[], guard := none }) (v := (.int .i64 (k : Int))) rfl (by kernel_rfl) (by kernel_rfl) (by kernel_rfl) (by kernel_rfl) (by kernel_rfl) (fun _ _ _ h => h) (⟨fun x h => HS.out x (HK.out.next h), fun _ _ h hb => Below.next h hb⟩ : Cls (SA18 gl g hf ge a2 nr c2 bk (off + k) s1 s2 s3) (BL wr)) ?_ ?_
      ·
       refine Or.inl ⟨rfl, fun w hSw => ?_⟩
       exact EffR.same (by go_simp)
      try simp only [Act.put, zA, zB, zC]
      refine wpAnyU_take (i := 24) (oi := { dst := some 88, op := Op.binOp BinOp.add 3 (Operand.tmp 86) (Operand.tmp 87) 3, type := 3, pos := "ref.go:273", after := #[{ on := 22, ground := Ground.data }, { on := 23, ground := Ground.data }], guard := none }) (v := (.int .i64 ((nr : Int) + 1 + k))) rfl (by kernel_rfl) (by kernel_rfl) (by kernel_rfl) (by kernel_rfl) (by kernel_rfl) (fun _ _ _ h => h) (⟨fun x h => HS.out x (HK.out.next h), fun _ _ h hb => Below.next h hb⟩ : Cls (SA18 gl g hf ge a2 nr c2 bk (off + k) s1 s2 s3) (BL wr)) ?_ ?_
      ·
       refine Or.inl ⟨rfl, fun w hSw => ?_⟩
       have e0 := HW2.out
       exact EffR.same (by go_simp)
      try simp only [Act.put, zA, zB, zC]
      refine wpAnyU_take (i := 25) (oi := { dst := some 89, op := Op.move (Operand.tmp 1), type := 23, pos := "ref.go:273", after := #[], guard := none }) (v := (.slice (some ⟨bk, off, none⟩) N cv)) rfl (by kernel_rfl) (by kernel_rfl) (by kernel_rfl) (by kernel_rfl) (by kernel_rfl) (fun _ _ _ h => h) (⟨fun x h => HS.out x (HK.out.next h), fun _ _ h hb => Below.next h hb⟩ : Cls (SA18 gl g hf ge a2 nr c2 bk (off + k) s1 s2 s3) (BL wr)) ?_ ?_
      ·
       refine Or.inl ⟨rfl, fun w hSw => ?_⟩
       exact EffR.same (by go_simp)
      try simp only [Act.put, zA, zB, zC]
      refine wpAnyU_take (i := 26) (oi := { dst := some 90, op := Op.move (Operand.tmp 8), type := 3, pos := "ref.go:273", after := #[], guard := none }) (v := (.int .i64 (k : Int))) rfl (by kernel_rfl) (by kernel_rfl) (by kernel_rfl) (by kernel_rfl) (by kernel_rfl) (fun _ _ _ h => h) (⟨fun x h => HS.out x (HK.out.next h), fun _ _ h hb => Below.next h hb⟩ : Cls (SA18 gl g hf ge a2 nr c2 bk (off + k) s1 s2 s3) (BL wr)) ?_ ?_
      ·
       refine Or.inl ⟨rfl, fun w hSw => ?_⟩
       exact EffR.same (by go_simp)
      try simp only [Act.put, zA, zB, zC]
      refine wpAnyU_take (i := 27) (oi := { dst := some 91, op := Op.indexAddr 23 (Operand.tmp 89) (Operand.tmp 90), type := 0, pos := "ref.go:273", after := #[{ on := 25, ground := Ground.data }, { on := 26, ground := Ground.data }], guard := none }) (v := (.pointer (some ⟨bk, off + k, none⟩))) rfl (by kernel_rfl) (by kernel_rfl) (by kernel_rfl) (by kernel_rfl) (by kernel_rfl) (fun _ _ _ h => h) (⟨fun x h => HS.out x (HK.out.next h), fun _ _ h hb => Below.next h hb⟩ : Cls (SA18 gl g hf ge a2 nr c2 bk (off + k) s1 s2 s3) (BL wr)) ?_ ?_
      ·
       refine Or.inl ⟨rfl, fun w hSw => ?_⟩
       have hq : ¬ N ≤ k := (by omega)
       exact EffR.same (by go_simp)
      try simp only [Act.put, zA, zB, zC]
      refine wpAnyU_take (i := 28) (oi := { dst := some 92, op := Op.load 22 (Operand.tmp 91), type := 22, pos := "ref.go:273", after := #[{ on := 27, ground := Ground.data }], guard := none }) (v := (.slice s1 s2 s3)) rfl (by kernel_rfl) (by kernel_rfl) (by kernel_rfl) (by kernel_rfl) (by kernel_rfl) (fun _ _ _ h => h) (⟨fun x h => HS.out x (HK.out.next h), fun _ _ h hb => Below.next h hb⟩ : Cls (SA18 gl g hf ge a2 nr c2 bk (off + k) s1 s2 s3) (BL wr)) ?_ ?_
      ·
       refine Or.inl ⟨rfl, fun w hSw => ?_⟩
       have e0 := hSw.2.2.2.2
       exact EffR.same (by go_simp)
      try simp only [Act.put, zA, zB, zC]
      refine wpAnyU_ready (rs := [29]) (by kernel_rfl) (by simp) ?_
      refine AllReadyU.cons (o := { dst := some 93, op := Op.call { callee := Callee.value (Operand.func 22), args := #[Operand.tmp 80, Operand.tmp 88, Operand.tmp 92], argTypes := #[3, 3, 22] }, type := 22, pos := "ref.go:273", after := #[{ on := 16, ground := Ground.data }, { on := 24, ground := Ground.data }, { on := 28, ground := Ground.data }], guard := none }) rfl (fun wA29 hA29 K hK => ?_) AllReadyU.nil
      have hse := refSeal_any wA29 (.slice s1 s2 s3) ge (nr + 1 + k) r (HRB.out wA29 (HK.out.next hA29)) HGE.out (by omega) HRL.out
      rw [Int.natCast_add, Int.natCast_add, show ((1 : Nat) : Int) = 1 from rfl] at hse
      go_simp
      refine hse.mono ?_
      clear hse
      rintro e0 w6 ⟨vS, rfl, hvS, hb6⟩
      obtain ⟨p1, p2, p3, rfl, _, hvS2⟩ := hvS.named
      refine hK.out _ _ (fun x => BL wr x ∧ OwnB 5 x wr.heap.size (.slice p1 p2 p3) (sealB ge (nr + 1 + k) r)) (⟨fun x h => HS.out x (HK.out.next h.1), fun _ _ h hb => ⟨Below.next h.1 hb, OwnB.below h.2 hb⟩⟩ : Cls (SA18 gl g hf ge a2 nr c2 bk (off + k) s1 s2 s3) (fun x => BL wr x ∧ OwnB 5 x wr.heap.size (.slice p1 p2 p3) (sealB ge (nr + 1 + k) r))) ⟨Below.next hA29 hb6, hvS2.base (Below.size hA29)⟩ ?_
      clear hvS hvS2 hb6
      clear hK K
      try simp only [Act.put, zA, zB, zC]
      refine wpAnyU_ready (rs := [30]) (by kernel_rfl) (by simp) ?_
      refine AllReadyU.cons (o := { dst := some 94, op := Op.call { callee := Callee.value (Operand.func 67), args := #[Operand.tmp 67, Operand.tmp 71, Operand.tmp 72, Operand.tmp 76, Operand.tmp 93], argTypes := #[67, 3, 3, 3, 22] }, type := 27, pos := "ref.go:273", after := #[{ on := 3, ground := Ground.data }, { on := 7, ground := Ground.data }, { on := 8, ground := Ground.data }, { on := 12, ground := Ground.data }, { on := 29, ground := Ground.data }, { on := 29, ground := Ground.chain }], guard := none }) rfl (fun wA30 hA30 K hK => ?_) AllReadyU.nil
      have hown := hA30.2
      have hpu := pput_any wA30 g n F1 Dk (HDK.out.below hA30.1) hf q ge (.slice p1 p2 p3) (sealB ge (nr + 1 + k) r) (fun w' hk' => (hown.keptJ hk' (fun z hz e => by have h1 := OwnB.ge hown z hz; have h3 := HDK.out.lt z e; omega)).bs) (by rw [sealB_length, ← HRNN.out, ← HFRM.out]; omega) HGE.out (by rw [sealB_length]; have := HRL.out; omega) (by rw [sealB_length, ← HRNN.out]; have := HOP.out; omega)
      rw [putL_rows _ _ _ (sealB_length _ _ _), ← HFRM.out, ← HE.out, ← HDN.out] at hpu
      go_simp
      refine hpu.mono ?_
      clear hpu
      rintro e0 w7 ⟨rfl, F2, hd7, hk7, hf7⟩
      have HK7 : Hid (Kept Fd w w7) := (HK.out.next hA30.1).trans hk7 (fun i hi e => by
       rcases HF1.out i e with e | e
       ·
        exact e
       ·
        omega)
      have HF7 : Hid (∀ k, F2 k → Fd k ∨ w.heap.size ≤ k) := fun k e => by
       rcases hf7 k e with e | e
       ·
        exact HF1.out k e
       ·
        have h1 := HK.out.size; have h2 := Below.size hA30.1; right; omega
      have HD7 := Lib.hid hd7
      refine hK.out _ _ (BL w7) (⟨fun x h => HS.out x (HK7.out.next h), fun _ _ h hb => Below.next h hb⟩ : Cls (SA18 gl g hf ge a2 nr c2 bk (off + k) s1 s2 s3) (BL w7)) (Below.refl _ _) ?_
      clear hown hd7 hk7 hf7
      clear hK K
      try simp only [Act.put, zA, zB, zC]
      refine wpAnyU_take (i := 31) (oi := { dst := some 9, op := Op.assign (Operand.tmp 94), type := 27, pos := "ref.go:273", after := #[{ on := 30, ground := Ground.data }, { on := 30, ground := Ground.chain }, { on := 0, ground := Ground.phase }, { on := 1, ground := Ground.phase }, { on := 2, ground := Ground.phase }, { on := 3, ground := Ground.phase }, { on := 4, ground := Ground.phase }, { on := 5, ground := Ground.phase }, { on := 6, ground := Ground.phase }, { on := 7, ground := Ground.phase }, { on := 8, ground := Ground.phase }, { on := 9, ground := Ground.phase }, { on := 10, ground := Ground.phase }, { on := 11, ground := Ground.phase }, { on := 12, ground := Ground.phase }, { on := 13, ground := Ground.phase }, { on := 14, ground := Ground.phase }, { on := 15, ground := Ground.phase }, { on := 16, ground := Ground.phase }, { on := 17, ground := Ground.phase }, { on := 18, ground := Ground.phase }, { on := 19, ground := Ground.phase }, { on := 20, ground := Ground.phase }, { on := 21, ground := Ground.phase }, { on := 22, ground := Ground.phase }, { on := 23, ground := Ground.phase }, { on := 24, ground := Ground.phase }, { on := 25, ground := Ground.phase }, { on := 26, ground := Ground.phase }, { on := 27, ground := Ground.phase }, { on := 28, ground := Ground.phase }, { on := 29, ground := Ground.phase }, { on := 30, ground := Ground.phase }], guard := none }) (v := (.int .i64 E)) rfl (by kernel_rfl) (by kernel_rfl) (by kernel_rfl) (by kernel_rfl) (by kernel_rfl) (fun _ _ _ h => h) (⟨fun x h => HS.out x (HK7.out.next h), fun _ _ h hb => Below.next h hb⟩ : Cls (SA18 gl g hf ge a2 nr c2 bk (off + k) s1 s2 s3) (BL w7)) ?_ ?_
      ·
       refine Or.inl ⟨rfl, fun w hSw => ?_⟩
       exact EffR.same (by go_simp)
      try simp only [Act.put, zA, zB, zC]
      refine wpAnyU_done (by kernel_rfl) (fun w1 hb1 => ?_) _
      have HD8 := Lib.hid (HD7.out.below hb1)
      have HK8 := Lib.hid (HK7.out.next hb1)
      clear hb1 HD7
      by_cases h0 : E = 0
      ·
       have h01 : ((E : Int) != 0) = false := by rw [h0]; rfl
       have H00 := Lib.hid h0
       have hbl := pBlocks_any w1 (s2 + 21) (by omega)
       rw [show ((s2 + 21 : Nat) : Int) = (s2 : Int) + 21 from by push_cast; rfl, ← HRN.out] at hbl
       have hcell := (HS.out w1 HK8.out).2.2.2.2
       clear h0
       go_wp2_with fail
       refine hbl.mono ?_
       clear hbl
       rintro e w' ⟨rfl, rfl⟩
       go_wp2_with fail
       refine ⟨⟨k + 1, q + rn, Dn, F2, by omega, by push_cast; rfl, by push_cast; rfl, HD8.out, HK8.out, HF7.out, ?_, ?_, ?_⟩, by simp [intOf]; omega⟩
       ·
        show dWrites D (fr + fi) ALL = _
        rw [HREC.out, HDRP.out, dWrites_append, if_pos (by rw [← HE.out]; exact H00.out), ← HDN.out, HROW.out, Nat.add_assoc]
        rw [show nr + 1 + k + 1 = nr + 1 + (k + 1) by omega]
       ·
        show _ + _ = _
        have h1 := HLEN.out
        rw [HDRP.out, List.length_append, HROW.out, show nr + 1 + k + 1 = nr + 1 + (k + 1) by omega] at h1
        omega
       ·
        show _ ≤ _
        rw [HDN.out]
        have h1 := dWrites_op (rowsOf ge (nr + 1 + k) r) Dk (fr + q)
        rw [HROW.out] at h1
        have := HOP.out
        omega
      ·
       have h01 : ((E : Int) != 0) = true := by rw [bne_iff_ne]; exact h0
       have H00 := Lib.hid h0
       clear h0
       go_wp2_with fail
       go_ret
       have hw : dWrites D (fr + fi) ALL = (E, Dn) := by
        rw [HREC.out, HDRP.out, dWrites_append, if_neg (by rw [← HE.out]; exact H00.out), HE.out, HDN.out]
       have hres : appR n D (LT.mk fr ⟨ge, sn, rc, fi⟩ true) rs = (E, Dn, LT.mk fr ⟨ge, sn, rc, fi⟩ true) := by
        unfold appR
        rw [if_neg (by rw [← HNR.out, ← HALL.out, ← HAL.out, ← HM.out]; show ¬ m < fi + AL; omega), ← HNR.out, ← HALL.out, hw, if_neg H00.out]
       unfold PAppPost
       rw [hres]
       exact ⟨rfl, PJPost.quit HLX.out HD8.out HK8.out HF7.out HDIS.out⟩
     ·
      obtain rfl : N = k := by omega
      obtain ⟨w1, hw1⟩ : ∃ z, z = wr := ⟨_, rfl⟩
      obtain ⟨Dn, hDn⟩ : ∃ z, z = Dk := ⟨_, rfl⟩
      obtain ⟨F2, hF2⟩ : ∃ z, z = F1 := ⟨_, rfl⟩
      have HD4 : Hid (PX w1 g F2 n Dn) := by rw [hw1, hDn, hF2]; exact HDK.out
      have HK4 : Hid (Kept Fd w w1) := by rw [hw1]; exact HK.out
      have HF3 : Hid (∀ q, F2 q → Fd q ∨ w.heap.size ≤ q) := by rw [hF2]; exact HF1.out
      have HFIN : Hid (dWrites D (fr + fi) ALL = (0, Dn)) := by
       show _ = _
       rw [HREC.out, List.drop_of_length_le (by have := HN.out; omega), hDn]
       rfl
      have hqe : q = fi + AL := by
       have h1 := HLEN.out
       rw [List.drop_of_length_le (by have := HN.out; omega)] at h1
       simpa [recRows] using h1
      subst hqe
      have HT1 : Hid (HT w1 gl 107 [.pointer (some ⟨g, 0, none⟩), .int .i64 (hf : Int), .int .i64 (ge : Int), .slice a1 n1 c1, .slice a2 nr c2, .int .i64 (fi : Int), .bool true]) := HT.keptJ HTL.out HK4.out (fun e => HDIS.out gl e HGL.out)
      have HFLT : Hid (∀ q, Fl q → q < w.heap.size) := fun q e => HLX.out.lt q e
      obtain ⟨hsn1, hsnF, vs0, q1, q2, q3, q4⟩ := HHM.out.kept HK4.out (fun q e1 e2 => HDIS.out q e2 e1)
      have HSN2 := Lib.hid hsn1
      have HSNF := Lib.hid hsnF
      have HO2 := Lib.hid q2
      have HB0 : Hid (∀ x, (Value.slice a2 nr c2).ownBlock = some x → Fl x ∨ w1.heap.size ≤ x) := fun x e => .inl (q3 x e)
      have HVS0 : Hid (vs0.length = nr) := by show _ = _; rw [q1, HNR.out]
      have HA0 : Hid (∀ i (h1 : i < vs0.length) (h2 : i < (rc ++ rs.take 0).length), OwnB 5 w1 0 vs0[i].v (rc ++ rs.take 0)[i] ∧ ∀ q, vs0[i].v.ownBlock = some q → Fl q ∨ w1.heap.size ≤ q) := fun i h1 h2 => by
       have h3 : i < rc.length := by rw [← HNR.out, ← HVS0.out]; exact h1
       have h9 := q4 i h1 h3
       have e9 : (rc ++ rs.take 0)[i] = rc[i] := by simp
       rw [e9]
       exact ⟨h9.1, fun x e => .inl (h9.2 x e)⟩
      have HK5 : Hid (Kept (fun k => Fd k ∨ Fl k) w w1) := HK4.out.weaken (fun q e => .inl e)
      have HSZ1 : Hid (w.heap.size ≤ w1.heap.size) := HK4.out.size
      clear hsn1 hsnF q1 q2 q3 q4 hDn hF2 HDK HK HF1 HREC HLEN HOP
      rw [← hw1]
      clear hw1
      go_wp2_with fail
      go_loopw [10] (fun i wr => ∃ (k2 : Nat) (vs : List SV) (a : Option Addr) (q c : Nat), k2 ≤ N ∧ i = .int .i64 k2 ∧ HT wr gl 107 [.pointer (some ⟨g, 0, none⟩), .int .i64 (hf : Int), .int .i64 (ge : Int), .slice a1 n1 c1, .slice a q c, .int .i64 (fi : Int), .bool true] ∧ OwnR encS 1 22 wr 0 (.slice a q c) vs ∧ vs.length = nr + k2 ∧ (∀ x, (Value.slice a q c).ownBlock = some x → Fl x ∨ w1.heap.size ≤ x) ∧ Hid (∀ i (h1 : i < vs.length) (h2 : i < (rc ++ rs.take k2).length), OwnB 5 wr 0 vs[i].v (rc ++ rs.take k2)[i] ∧ ∀ q, vs[i].v.ownBlock = some q → Fl q ∨ w1.heap.size ≤ q) ∧ OwnB 5 wr 0 (.slice a1 n1 c1) sn ∧ PX wr g F2 n Dn ∧ Kept (fun k => Fd k ∨ Fl k) w wr ∧ w1.heap.size ≤ wr.heap.size) (fun i _ => N - (intOf i).toNat)
      case atStart => exact ⟨0, vs0, a2, nr, c2, Nat.zero_le _, rfl, HT1.out, HO2.out, HVS0.out, HB0.out, HA0.out, HSN2.out, HD4.out, HK5.out, Nat.le_refl _⟩
      case round =>
       clear HT1 HSN2 HO2 HA0 HK5 HB0 HVS0 vs0
       obtain ⟨k2, vs, a, q, c, hk2, rfl, htr, hos, hvs, hob, HALS, hsnp, hdr, hkr, hszr⟩ := hrel
       have HTR := Lib.hid htr
       have HOS := Lib.hid hos
       have HVS := Lib.hid hvs
       have HOB := Lib.hid hob
       have HSNP := Lib.hid hsnp
       have HDR := Lib.hid hdr
       have HKR := Lib.hid hkr
       have HSZR := Lib.hid hszr
       clear htr hos hvs hob hsnp hdr hkr hszr
       by_cases hlt2 : k2 < N
       ·
        have hkl : k2 < rs.length := by have := HN.out; omega
        have hkv : k2 < L.length := by have := HLN.out; omega
        obtain ⟨bk, off, rfl⟩ := HAT.out (by omega)
        obtain ⟨⟨s1, s2, s3⟩, hs⟩ : ∃ z, z = L[k2] := ⟨_, rfl⟩
        have hcell : wr.cell? ⟨bk, off + k2, none⟩ = some (.slice s1 s2 s3) := by
         have := HCL.out wr HKR.out k2 hkv bk off rfl
         rw [← hs] at this
         exact this
        have HCL2 : Hid (∀ w', Kept (fun k => Fd k ∨ Fl k) w w' → ∀ i (h : i < L.length), w'.cell? ⟨bk, off + i, none⟩ = some L[i].v) := fun w' hk i h => HCL.out w' hk i h bk off rfl
        have HSK : Hid (L[k2].v = .slice s1 s2 s3) := by show _ = _; rw [← hs]; rfl
        have hbs : Bs wr (.slice s1 s2 s3) rs[k2] := by
         have := (HRS.out wr HKR.out).2.2 k2 hkv hkl
         rw [← hs] at this
         exact this
        have HCK := Lib.hid hcell
        obtain ⟨r, hr⟩ : ∃ z, z = rs[k2] := ⟨_, rfl⟩
        rw [← hr] at hbs
        have HR := Lib.hid hr
        have HRL : Hid (r.length ≤ 65536) := by show _ ≤ _; rw [hr]; exact HLE.out _ (List.getElem_mem hkl)
        have HBR : Hid (Bs wr (.slice s1 s2 s3) r) := hbs
        have HL4 := Lib.hid (HTR.out.cell (j := 4) rfl)
        have hk0 : (0 : Int) ≤ k2 ∧ (k2 : Int) < N := by omega
        have hle5 : (vs.length + [((none, 0, 0) : SV)].length) * 24 ≤ 140737488355328 := by rw [HVS.out]; simp; omega
        clear hs hbs hr hcell
        go_upto_region 26 with fail
        refine wp_region_uni (S0 := (fun x => x.cell? ⟨gl, 4, none⟩ = some (.slice a q c) ∧ x.cell? ⟨bk, off + k2, none⟩ = some (.slice s1 s2 s3))) (S := BL wr) 15 (by kernel_rfl) (Below.refl _ _).drew ?_
        refine wpAnyU_take (i := 0) (oi := { dst := some 113, op := Op.move (Operand.tmp 0), type := 69, pos := "ref.go:281", after := #[], guard := none }) (v := (.pointer (some ⟨gl, 0, none⟩))) rfl (by kernel_rfl) (by kernel_rfl) (by kernel_rfl) (by kernel_rfl) (by kernel_rfl) (fun _ _ _ h => h) (⟨fun x h => ⟨BL.cell h HL4.out, BL.cell h HCK.out⟩, fun _ _ h hb => Below.next h hb⟩ : Cls (fun x => x.cell? ⟨gl, 4, none⟩ = some (.slice a q c) ∧ x.cell? ⟨bk, off + k2, none⟩ = some (.slice s1 s2 s3)) (BL wr)) ?_ ?_
        ·
         refine Or.inl ⟨rfl, fun w hSw => ?_⟩
         exact EffR.same (by go_simp)
        try simp only [Act.put, zA, zB, zC]
        refine wpAnyU_take (i := 1) (oi := { dst := some 114, op := Op.move (Operand.tmp 0), type := 69, pos := "ref.go:281", after := #[], guard := none }) (v := (.pointer (some ⟨gl, 0, none⟩))) rfl (by kernel_rfl) (by kernel_rfl) (by kernel_rfl) (by kernel_rfl) (by kernel_rfl) (fun _ _ _ h => h) (⟨fun x h => ⟨BL.cell h HL4.out, BL.cell h HCK.out⟩, fun _ _ h hb => Below.next h hb⟩ : Cls (fun x => x.cell? ⟨gl, 4, none⟩ = some (.slice a q c) ∧ x.cell? ⟨bk, off + k2, none⟩ = some (.slice s1 s2 s3)) (BL wr)) ?_ ?_
        ·
         refine Or.inl ⟨rfl, fun w hSw => ?_⟩
         exact EffR.same (by go_simp)
        try simp only [Act.put, zA, zB, zC]
        refine wpAnyU_take (i := 2) (oi := { dst := some 115, op := Op.nilCheck (Operand.tmp 114), type := 0, pos := "ref.go:281", after := #[{ on := 1, ground := Ground.data }], guard := none }) (v := (.pointer (some ⟨gl, 0, none⟩))) rfl (by kernel_rfl) (by kernel_rfl) (by kernel_rfl) (by kernel_rfl) (by kernel_rfl) (fun _ _ _ h => h) (⟨fun x h => ⟨BL.cell h HL4.out, BL.cell h HCK.out⟩, fun _ _ h hb => Below.next h hb⟩ : Cls (fun x => x.cell? ⟨gl, 4, none⟩ = some (.slice a q c) ∧ x.cell? ⟨bk, off + k2, none⟩ = some (.slice s1 s2 s3)) (BL wr)) ?_ ?_
        ·
         refine Or.inl ⟨rfl, fun w hSw => ?_⟩
         exact EffR.same (by go_simp)
        try simp only [Act.put, zA, zB, zC]
        refine wpAnyU_take (i := 3) (oi := { dst := some 116, op := Op.fieldAddr 107 (Operand.tmp 115) 4, type := 0, pos := "ref.go:281", after := #[{ on := 2, ground := Ground.data }], guard := none }) (v := (.pointer (some ⟨gl, 4, none⟩))) rfl (by kernel_rfl) (by kernel_rfl) (by kernel_rfl) (by kernel_rfl) (by kernel_rfl) (fun _ _ _ h => h) (⟨fun x h => ⟨BL.cell h HL4.out, BL.cell h HCK.out⟩, fun _ _ h hb => Below.next h hb⟩ : Cls (fun x => x.cell? ⟨gl, 4, none⟩ = some (.slice a q c) ∧ x.cell? ⟨bk, off + k2, none⟩ = some (.slice s1 s2 s3)) (BL wr)) ?_ ?_
        ·
         refine Or.inl ⟨rfl, fun w hSw => ?_⟩
         exact EffR.same (by go_simp)
        try simp only [Act.put, zA, zB, zC]
        refine wpAnyU_take (i := 4) (oi := { dst := some 117, op := Op.load 23 (Operand.tmp 116), type := 23, pos := "ref.go:281", after := #[{ on := 3, ground := Ground.data }], guard := none }) (v := (.slice a q c)) rfl (by kernel_rfl) (by kernel_rfl) (by kernel_rfl) (by kernel_rfl) (by kernel_rfl) (fun _ _ _ h => h) (⟨fun x h => ⟨BL.cell h HL4.out, BL.cell h HCK.out⟩, fun _ _ h hb => Below.next h hb⟩ : Cls (fun x => x.cell? ⟨gl, 4, none⟩ = some (.slice a q c) ∧ x.cell? ⟨bk, off + k2, none⟩ = some (.slice s1 s2 s3)) (BL wr)) ?_ ?_
        ·
         refine Or.inl ⟨rfl, fun w hSw => ?_⟩
         have e0 := hSw.1
         exact EffR.same (by go_simp)
        try simp only [Act.put, zA, zB, zC]
        refine wpAnyU_take (i := 5) (oi := { dst := some 118, op := Op.move (Operand.tmp 11), type := 22, pos := "ref.go:281", after := #[], guard := none }) (v := (.slice none 0 0)) rfl (by kernel_rfl) (by kernel_rfl) (by kernel_rfl) (by kernel_rfl) (by kernel_rfl) (fun _ _ _ h => h) (⟨fun x h => ⟨BL.cell h HL4.out, BL.cell h HCK.out⟩, fun _ _ h hb => Below.next h hb⟩ : Cls (fun x => x.cell? ⟨gl, 4, none⟩ = some (.slice a q c) ∧ x.cell? ⟨bk, off + k2, none⟩ = some (.slice s1 s2 s3)) (BL wr)) ?_ ?_
        ·
         refine Or.inl ⟨rfl, fun w hSw => ?_⟩
         exact EffR.same (by go_simp)
        try simp only [Act.put, zA, zB, zC]
        refine wpAnyU_take (i := 6) (oi := { dst := some 119, op := Op.move (Operand.tmp 1), type := 23, pos := "ref.go:281", after := #[], guard := none }) (v := (.slice (some ⟨bk, off, none⟩) N cv)) rfl (by kernel_rfl) (by kernel_rfl) (by kernel_rfl) (by kernel_rfl) (by kernel_rfl) (fun _ _ _ h => h) (⟨fun x h => ⟨BL.cell h HL4.out, BL.cell h HCK.out⟩, fun _ _ h hb => Below.next h hb⟩ : Cls (fun x => x.cell? ⟨gl, 4, none⟩ = some (.slice a q c) ∧ x.cell? ⟨bk, off + k2, none⟩ = some (.slice s1 s2 s3)) (BL wr)) ?_ ?_
        ·
         refine Or.inl ⟨rfl, fun w hSw => ?_⟩
         exact EffR.same (by go_simp)
        try simp only [Act.put, zA, zB, zC]
        refine wpAnyU_take (i := 7) (oi := { dst := some 120, op := Op.move (Operand.tmp 10), type := 3, pos := "ref.go:281", after := #[], guard := none }) (v := (.int .i64 (k2 : Int))) rfl (by kernel_rfl) (by kernel_rfl) (by kernel_rfl) (by kernel_rfl) (by kernel_rfl) (fun _ _ _ h => h) (⟨fun x h => ⟨BL.cell h HL4.out, BL.cell h HCK.out⟩, fun _ _ h hb => Below.next h hb⟩ : Cls (fun x => x.cell? ⟨gl, 4, none⟩ = some (.slice a q c) ∧ x.cell? ⟨bk, off + k2, none⟩ = some (.slice s1 s2 s3)) (BL wr)) ?_ ?_
        ·
         refine Or.inl ⟨rfl, fun w hSw => ?_⟩
         exact EffR.same (by go_simp)
        try simp only [Act.put, zA, zB, zC]
        refine wpAnyU_take (i := 8) (oi := { dst := some 121, op := Op.indexAddr 23 (Operand.tmp 119) (Operand.tmp 120), type := 0, pos := "ref.go:281", after := #[{ on := 6, ground := Ground.data }, { on := 7, ground := Ground.data }], guard := none }) (v := (.pointer (some ⟨bk, off + k2, none⟩))) rfl (by kernel_rfl) (by kernel_rfl) (by kernel_rfl) (by kernel_rfl) (by kernel_rfl) (fun _ _ _ h => h) (⟨fun x h => ⟨BL.cell h HL4.out, BL.cell h HCK.out⟩, fun _ _ h hb => Below.next h hb⟩ : Cls (fun x => x.cell? ⟨gl, 4, none⟩ = some (.slice a q c) ∧ x.cell? ⟨bk, off + k2, none⟩ = some (.slice s1 s2 s3)) (BL wr)) ?_ ?_
        ·
         refine Or.inl ⟨rfl, fun w hSw => ?_⟩
         have hq : ¬ N ≤ k2 := (by omega)
         exact EffR.same (by go_simp)
        try simp only [Act.put, zA, zB, zC]
        refine wpAnyU_take (i := 9) (oi := { dst := some 122, op := Op.load 22 (Operand.tmp 121), type := 22, pos := "ref.go:281", after := #[{ on := 8, ground := Ground.data }], guard := none }) (v := (.slice s1 s2 s3)) rfl (by kernel_rfl) (by kernel_rfl) (by kernel_rfl) (by kernel_rfl) (by kernel_rfl) (fun _ _ _ h => h) (⟨fun x h => ⟨BL.cell h HL4.out, BL.cell h HCK.out⟩, fun _ _ h hb => Below.next h hb⟩ : Cls (fun x => x.cell? ⟨gl, 4, none⟩ = some (.slice a q c) ∧ x.cell? ⟨bk, off + k2, none⟩ = some (.slice s1 s2 s3)) (BL wr)) ?_ ?_
        ·
         refine Or.inl ⟨rfl, fun w hSw => ?_⟩
         have e0 := hSw.2
         exact EffR.same (by go_simp)
        try simp only [Act.put, zA, zB, zC]
        refine wpAnyU_ready (rs := [10]) (by kernel_rfl) (by simp) ?_
        refine AllReadyU.cons (o := { dst := some 123, op := Op.call { callee := Callee.builtin Builtin.append, args := #[Operand.tmp 118, Operand.tmp 122], argTypes := #[22, 22] }, type := 22, pos := "ref.go:281", after := #[{ on := 5, ground := Ground.data }, { on := 9, ground := Ground.data }], guard := none }) rfl (fun wA10 hA10 K hK => ?_) AllReadyU.nil
        have hsrc := HBR.out.mono hA10
        refine step_append_bytes (v := .slice none 0 0) (l := []) (m := r) rfl (.tmp 118) (.tmp 122) 22 rfl (base := wr.heap.size) elem_u8 rfl rfl (OwnB.empty _ _ _) hsrc (by have := HRL.out; simp; omega) (Below.size hA10) ?_
        intro p1 p2 p3 w5 Hn5 ho5 hb5 hg5
        refine hK.out _ _ (fun x => BL wr x ∧ OwnB 5 x wr.heap.size (.slice p1 p2 p3) r) (⟨fun x h => ⟨BL.cell h.1 HL4.out, BL.cell h.1 HCK.out⟩, fun _ _ h hb => ⟨Below.next h.1 hb, OwnB.below h.2 hb⟩⟩ : Cls (fun x => x.cell? ⟨gl, 4, none⟩ = some (.slice a q c) ∧ x.cell? ⟨bk, off + k2, none⟩ = some (.slice s1 s2 s3)) (fun x => BL wr x ∧ OwnB 5 x wr.heap.size (.slice p1 p2 p3) r)) ⟨Below.trans hA10 hb5, ho5⟩ ?_
        clear hsrc ho5 hb5 hg5 Hn5
        clear hK K
        try simp only [Act.put, zA, zB, zC]
        refine wpAnyU_ready (rs := [11]) (by kernel_rfl) (by simp) ?_
        refine AllReadyU.cons (o := { dst := some 124, op := Op.buildSlice 23 1 #[(0, Operand.tmp 123)], type := 23, pos := "ref.go:281", after := #[{ on := 10, ground := Ground.data }], guard := none }) rfl (fun wA11 hA11 K hK => ?_) AllReadyU.nil
        go_simp
        have hbx : Below wA11.heap.size wA11 (wA11.alloc (.cells #[.slice p1 p2 p3] 22)) := (Below.refl _ _).alloc (Nat.le_refl _) _
        have hone : Rs encS 1 (wA11.alloc (.cells #[.slice p1 p2 p3] 22)) (.slice (some ⟨wA11.heap.size, 0, none⟩) 1 1) [((p1, p2, p3) : SV)] := Rs.one encS_len wA11 ((p1, p2, p3) : SV) 22
        obtain ⟨gx, hgx⟩ : ∃ gx, gx = wA11.heap.size := ⟨_, rfl⟩
        rw [← hgx] at hone ⊢
        refine hK.out _ _ (fun x => BL wr x ∧ OwnB 5 x wr.heap.size (.slice p1 p2 p3) r ∧ Rs encS 1 x (.slice (some ⟨gx, 0, none⟩) 1 1) [((p1, p2, p3) : SV)]) (⟨fun x h => ⟨BL.cell h.1 HL4.out, BL.cell h.1 HCK.out⟩, fun _ _ h hb => ⟨Below.next h.1 hb, OwnB.below h.2.1 hb, Rs.mono h.2.2 hb⟩⟩ : Cls (fun x => x.cell? ⟨gl, 4, none⟩ = some (.slice a q c) ∧ x.cell? ⟨bk, off + k2, none⟩ = some (.slice s1 s2 s3)) (fun x => BL wr x ∧ OwnB 5 x wr.heap.size (.slice p1 p2 p3) r ∧ Rs encS 1 x (.slice (some ⟨gx, 0, none⟩) 1 1) [((p1, p2, p3) : SV)])) ⟨Below.next hA11.1 hbx, OwnB.below hA11.2 hbx, hone⟩ ?_
        clear hgx hone hbx
        clear hK K
        try simp only [Act.put, zA, zB, zC]
        refine wpAnyU_ready (rs := [12]) (by kernel_rfl) (by simp) ?_
        refine AllReadyU.cons (o := { dst := some 125, op := Op.call { callee := Callee.builtin Builtin.append, args := #[Operand.tmp 117, Operand.tmp 124], argTypes := #[23, 23] }, type := 23, pos := "ref.go:281", after := #[{ on := 4, ground := Ground.data }, { on := 11, ground := Ground.data }, { on := 10, ground := Ground.chain }], guard := none }) rfl (fun wA12 hA12 K hK => ?_) AllReadyU.nil
        have ho5 := OwnR.below HOS.out hA12.1
        have hx5 := HT.below HTR.out hA12.1
        refine step_append_rows (v := .slice a q c) (vx := .slice (some ⟨gx, 0, none⟩) 1 1) rfl (.tmp 117) (.tmp 124) 23 rfl (L := vs) (M := [((p1, p2, p3) : SV)]) (base := 0) elem_s rfl rfl ho5 hA12.2.2 encS_one hle5 (by decide) (Nat.zero_le _) ?_
        intro a9 n9 c9 w9 Hn9 ho9 hg9 hat9 _
        have hty : ∀ k, (Value.slice a q c).ownBlock = some k → ∃ cur fr, wA12.heap[k]? = some (.cells cur 22 fr) := fun k hk => ownsRow_type ho5.2 hk
        have hx9 := HT.grownApart hx5 hg9 hty (by decide)
        have hp9 := OwnB.grownApart (OwnB.below HSNP.out hA12.1) hg9 hty (by decide)
        have hv9 := OwnB.grownApart hA12.2.1 hg9 hty (by decide)
        have HAL9 : Hid (∀ i (h1 : i < vs.length) (h2 : i < (rc ++ rs.take k2).length), OwnB 5 w9 0 vs[i].v (rc ++ rs.take k2)[i]) := fun i h1 h2 => OwnB.grownApart (OwnB.below (HALS.out i h1 h2).1 hA12.1) hg9 hty (by decide)
        have hkg := Kept.of_grown hg9
        have hd9 := (HDR.out.below hA12.1).kept hkg (fun q e1 e2 => by
         rcases HOB.out q e2 with e | e
         ·
          rcases HF3.out q e1 with e3 | e3
          ·
           exact HDIS.out q e3 e
          ·
           have := HFLT.out q e; omega
         ·
          have := HD4.out.lt q e1; omega)
        have HK9 : Hid (Kept (fun k => Fd k ∨ Fl k) w w9) := (HKR.out.next hA12.1).trans hkg (fun i hi e => by
         rcases HOB.out i e with e | e
         ·
          exact .inr e
         ·
          have := HSZ1.out; omega)
        have HOB9 : Hid (∀ q, (Value.slice a9 n9 c9).ownBlock = some q → Fl q ∨ w1.heap.size ≤ q) := fun q hq => by
         rcases hat9.out with e | e
         ·
          rw [e] at hq; exact HOB.out q hq
         ·
          rw [e] at hq
          cases hq
          right; have := HSZR.out; have := Below.size hA12.1; omega
        have HPB : Hid (∀ q, (Value.slice p1 p2 p3).ownBlock = some q → Fl q ∨ w1.heap.size ≤ q) := fun q hq => by
         have := OwnB.ge hA12.2.1 q hq
         right; have := HSZR.out; omega
        have hs9 : w1.heap.size ≤ w9.heap.size := Nat.le_trans HSZR.out (Nat.le_trans (Below.size hA12.1) hkg.size)
        have y4 := hx9.cell (j := 4) rfl
        have y5 := HCL.out w9 HK9.out k2 hkv bk off rfl
        have HX9 := Lib.hid hx9
        have HP9 := Lib.hid hp9
        have HV9 := Lib.hid hv9
        have HO9 := Lib.hid ho9
        have HD9 := Lib.hid hd9
        rw [HSK.out] at y5
        refine hK.out _ _ (BL w9) (⟨fun x h => ⟨BL.cell h y4, BL.cell h y5⟩, fun _ _ h hb => Below.next h hb⟩ : Cls (fun x => x.cell? ⟨gl, 4, none⟩ = some (.slice a q c) ∧ x.cell? ⟨bk, off + k2, none⟩ = some (.slice s1 s2 s3)) (BL w9)) (Below.refl _ _) ?_
        clear ho5 hx5 hty hx9 hp9 hv9 ho9 hg9 hkg hd9 hat9
        clear hK K
        try simp only [Act.put, zA, zB, zC]
        refine wpAnyU_take (i := 13) (oi := { dst := some 126, op := Op.nilCheck (Operand.tmp 113), type := 0, pos := "ref.go:281", after := #[{ on := 0, ground := Ground.data }, { on := 0, ground := Ground.phase }, { on := 1, ground := Ground.phase }, { on := 2, ground := Ground.phase }, { on := 3, ground := Ground.phase }, { on := 4, ground := Ground.phase }, { on := 5, ground := Ground.phase }, { on := 6, ground := Ground.phase }, { on := 7, ground := Ground.phase }, { on := 8, ground := Ground.phase }, { on := 9, ground := Ground.phase }, { on := 10, ground := Ground.phase }, { on := 11, ground := Ground.phase }, { on := 12, ground := Ground.phase }], guard := none }) (v := (.pointer (some ⟨gl, 0, none⟩))) rfl (by kernel_rfl) (by kernel_rfl) (by kernel_rfl) (by kernel_rfl) (by kernel_rfl) (fun _ _ _ h => h) (⟨fun x h => ⟨BL.cell h y4, BL.cell h y5⟩, fun _ _ h hb => Below.next h hb⟩ : Cls (fun x => x.cell? ⟨gl, 4, none⟩ = some (.slice a q c) ∧ x.cell? ⟨bk, off + k2, none⟩ = some (.slice s1 s2 s3)) (BL w9)) ?_ ?_
        ·
         refine Or.inl ⟨rfl, fun w hSw => ?_⟩
         exact EffR.same (by go_simp)
        try simp only [Act.put, zA, zB, zC]
        refine wpAnyU_take (i := 14) (oi := { dst := some 127, op := Op.fieldAddr 107 (Operand.tmp 126) 4, type := 0, pos := "ref.go:281", after := #[{ on := 13, ground := Ground.data }, { on := 0, ground := Ground.phase }, { on := 1, ground := Ground.phase }, { on := 2, ground := Ground.phase }, { on := 3, ground := Ground.phase }, { on := 4, ground := Ground.phase }, { on := 5, ground := Ground.phase }, { on := 6, ground := Ground.phase }, { on := 7, ground := Ground.phase }, { on := 8, ground := Ground.phase }, { on := 9, ground := Ground.phase }, { on := 10, ground := Ground.phase }, { on := 11, ground := Ground.phase }, { on := 12, ground := Ground.phase }], guard := none }) (v := (.pointer (some ⟨gl, 4, none⟩))) rfl (by kernel_rfl) (by kernel_rfl) (by kernel_rfl) (by kernel_rfl) (by kernel_rfl) (fun _ _ _ h => h) (⟨fun x h => ⟨BL.cell h y4, BL.cell h y5⟩, fun _ _ h hb => Below.next h hb⟩ : Cls (fun x => x.cell? ⟨gl, 4, none⟩ = some (.slice a q c) ∧ x.cell? ⟨bk, off + k2, none⟩ = some (.slice s1 s2 s3)) (BL w9)) ?_ ?_
        ·
         refine Or.inl ⟨rfl, fun w hSw => ?_⟩
         exact EffR.same (by go_simp)
        try simp only [Act.put, zA, zB, zC]
        refine wpAnyU_last (o := { dst := none, op := Op.store 23 (Operand.tmp 127) (Operand.tmp 125), type := 0, pos := "ref.go:281", after := #[{ on := 14, ground := Ground.data }, { on := 12, ground := Ground.data }, { on := 12, ground := Ground.chain }, { on := 0, ground := Ground.phase }, { on := 1, ground := Ground.phase }, { on := 2, ground := Ground.phase }, { on := 3, ground := Ground.phase }, { on := 4, ground := Ground.phase }, { on := 5, ground := Ground.phase }, { on := 6, ground := Ground.phase }, { on := 7, ground := Ground.phase }, { on := 8, ground := Ground.phase }, { on := 9, ground := Ground.phase }, { on := 10, ground := Ground.phase }, { on := 11, ground := Ground.phase }, { on := 12, ground := Ground.phase }], guard := none }) (by kernel_rfl) (by kernel_rfl) rfl (fun w1x hb1 K hK => ?_)
        have hxF := HT.below HX9.out hb1
        have c4 := hxF.cell (j := 4) rfl
        have f4 := hxF.frozen 4
        have HXF : Hid (HT (w1x.setCell ⟨gl, 4, none⟩ (.slice a9 n9 c9)) gl 107 [.pointer (some ⟨g, 0, none⟩), .int .i64 (hf : Int), .int .i64 (ge : Int), .slice a1 n1 c1, .slice a9 n9 c9, .int .i64 (fi : Int), .bool true]) := hxF.put 4 (.slice a9 n9 c9)
        have HKF := Lib.hid (Kept.pre hb1 ((Kept.refl (fun q => q = gl) w1x).setCell ⟨gl, 4, none⟩ (.slice a9 n9 c9) rfl))
        clear hxF
        go_simp
        refine hK.out _ _ ?_
        clear hK K
        try simp only [Act.put]
        clear c4 f4
        obtain ⟨wF, hwF⟩ : ∃ z, z = w1x.setCell ⟨gl, 4, none⟩ (.slice a9 n9 c9) := ⟨_, rfl⟩
        rw [← hwF] at HXF HKF ⊢
        clear hwF hb1
        go_wp2_with fail
        have hgF : ¬ F2 gl := fun e => by
         rcases HF3.out gl e with e | e
         ·
          exact HDIS.out gl e HGL.out
         ·
          have := HGLT.out; omega
        refine ⟨⟨k2 + 1, vs ++ [((p1, p2, p3) : SV)], a9, n9, c9, by omega, by push_cast; rfl, HXF.out, ?_, ?_, HOB9.out, ?_, ?_, ?_, ?_, Nat.le_trans hs9 HKF.out.size⟩, by simp [intOf]; omega⟩
        ·
         exact OwnR.keptL HO9.out HX9.out (by decide) HKF.out
        ·
         rw [List.length_append, HVS.out, List.length_singleton]; omega
        ·
         have hz : (rc ++ rs.take (k2 + 1)) = (rc ++ rs.take k2) ++ [r] := by rw [take_snoc rs k2 hkl, ← HR.out, List.append_assoc]
         rw [hz]
         have hln : vs.length = (rc ++ rs.take k2).length := by rw [HVS.out, List.length_append, List.length_take, HNR.out]; omega
         intro i h1 h2
         refine ⟨recs_snoc hln (fun i h1 h2 => OwnB.keptL (HAL9.out i h1 h2) HX9.out (by decide) HKF.out) (OwnB.keptL (HV9.out.base (Nat.zero_le _)) HX9.out (by decide) HKF.out) i h1 h2, ?_⟩
         by_cases hi : i < vs.length
         ·
          have e1 : (vs ++ [((p1, p2, p3) : SV)])[i] = vs[i] := List.getElem_append_left hi
          rw [e1]
          exact (HALS.out i hi (by omega)).2
         ·
          have hiv : i = vs.length := by simp at h1; omega
          subst hiv
          have e1 : (vs ++ [((p1, p2, p3) : SV)])[vs.length] = ((p1, p2, p3) : SV) := by simp
          rw [e1]
          exact HPB.out
        ·
         exact OwnB.keptL HP9.out HX9.out (by decide) HKF.out
        ·
         exact HD9.out.kept HKF.out (fun q e1 e2 => hgF (by rw [← e2]; exact e1))
        ·
         exact HK9.out.trans HKF.out (fun i _ e => by rw [e]; exact .inr HGL.out)
       ·
        obtain rfl : N = k2 := by omega
        have hx5 := HTR.out.cell (j := 5) rfl
        have hf5 := HTR.out.frozen 5
        have HKS : Hid (Kept (fun q => q = gl) wr (wr.setCell ⟨gl, 5, none⟩ (.int .i64 ((fi : Int) + AL)))) := (Kept.refl _ wr).setCell ⟨gl, 5, none⟩ _ rfl
        have HTS : Hid (HT (wr.setCell ⟨gl, 5, none⟩ (.int .i64 ((fi : Int) + AL))) gl 107 [.pointer (some ⟨g, 0, none⟩), .int .i64 (hf : Int), .int .i64 (ge : Int), .slice a1 n1 c1, .slice a q c, .int .i64 ((fi : Int) + AL), .bool true]) := HTR.out.put 5 (.int .i64 ((fi : Int) + AL))
        go_wp2_with fail
        go_ret
        obtain ⟨wF, hwF⟩ : ∃ z, z = wr.setCell ⟨gl, 5, none⟩ (.int .i64 ((fi : Int) + AL)) := ⟨_, rfl⟩
        rw [← hwF] at HKS HTS ⊢
        clear hwF hx5 hf5
        have hgF : ¬ F2 gl := fun e => by
         rcases HF3.out gl e with e | e
         ·
          exact HDIS.out gl e HGL.out
         ·
          have := HGLT.out; omega
        have hres : appR n D (LT.mk fr ⟨ge, sn, rc, fi⟩ true) rs = (0, Dn, LT.mk fr ⟨ge, sn, rc ++ rs, fi + AL⟩ true) := by
         unfold appR
         rw [if_neg (by rw [← HNR.out, ← HALL.out, ← HAL.out, ← HM.out]; show ¬ m < fi + AL; omega), ← HNR.out, ← HALL.out, HFIN.out, if_pos rfl, ← HAL.out]
        unfold PAppPost
        rw [hres]
        have hsnp := OwnB.keptL HSNP.out HTR.out (by decide) HKS.out
        have hors := OwnR.keptL HOS.out HTR.out (by decide) HKS.out
        refine ⟨rfl, F2, fun x => (Fl x ∨ w1.heap.size ≤ x) ∧ x < wF.heap.size, HDR.out.kept HKS.out (fun q e1 e2 => hgF (by rw [← e2]; exact e1)), ⟨.slice a1 n1 c1, .slice a q c, ?_, ⟨hsnp, fun x e => ⟨.inl (HSNF.out x e), OwnB.lt hsnp x e⟩, vs, ?_, hors, fun x e => ⟨HOB.out x e, OwnR.lt hors x e⟩, fun i h1 h2 => ?_⟩, ⟨.inl HGL.out, HTS.out.lt⟩, fun x e => e.2⟩, fun x e1 e2 => ?_, HKR.out.trans HKS.out (fun i _ e => by rw [e]; exact .inr HGL.out), fun x e => ?_⟩
        ·
         show HT _ _ _ [.pointer (some ⟨g, 0, none⟩), .int .i64 (hf : Int), .int .i64 (ge : Int), .slice a1 n1 c1, .slice a q c, .int .i64 ((fi + AL : Nat) : Int), .bool true]
         rw [Int.natCast_add]
         exact HTS.out
        ·
         rw [HVS.out, HNR.out, List.length_append, HN.out]
        ·
         have hz : rs.take N = rs := List.take_of_length_le (by have := HN.out; omega)
         have h9 := HALS.out i h1 (by rw [hz]; exact h2)
         have e9 : (rc ++ rs.take N)[i]'(by rw [hz]; exact h2) = (rc ++ rs)[i] := by congr 1; rw [hz]
         rw [e9] at h9
         have h8 := OwnB.keptL h9.1 HTR.out (by decide) HKS.out
         exact ⟨h8, fun x e => ⟨h9.2 x e, OwnB.lt h8 x e⟩⟩
        ·
         rcases e2.1 with e3 | e3
         ·
          rcases HF3.out x e1 with e4 | e4
          ·
           exact HDIS.out x e4 e3
          ·
           have := HFLT.out x e3; omega
         ·
          have := HD4.out.lt x e1; omega
        ·
         have := HSZ1.out
         rcases e with e | e
         ·
          rcases HF3.out x e with e4 | e4
          ·
           exact .inl e4
          ·
           right; right; omega
         ·
          rcases e.1 with e | e
          ·
           exact .inr (.inl e)
          ·
           right; right; omega
end Cam
