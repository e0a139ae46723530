import Derived.Test.YtlnclfiiplpaiaaJnH
/- journal: (*Log).Append. -/
namespace Cam
open Go Go.RowKit Go.Proofs
theorem HT.own_ne {w : World} {gl k : Nat} {t e : TypeId} {C : List Value} {v : Value} {base size n : Nat} {xs : List Value} (hx : HT w gl t C) (h : w.ownsRow base e size v n xs) (hne : e ≠ t) (hk : v.ownBlock = some k) : ¬ k = gl := fun e1 => by
 obtain ⟨cur, fr, h3⟩ := ownsRow_type h hk
 unfold HT at hx
 rw [e1, hx] at h3
 have := Option.some.inj h3
 simp only [Obj.cells.injEq] at this
 exact hne this.2.1.symm
theorem OwnB.keptL {w w' : World} {base gl : Nat} {t : TypeId} {v : Value} {l : List UInt8} {C : List Value} (h : OwnB 5 w base v l) (hx : HT w gl t C) (hne : 5 ≠ t) (hk : Kept (fun q => q = gl) w w') : OwnB 5 w' base v l := h.keptJ hk (fun _ e => hx.own_ne h hne e)
theorem OwnR.keptL {α : Type} {enc : α → List Value} {K : Nat} {w w' : World} {base gl : Nat} {t e : TypeId} {v : Value} {L : List α} {C : List Value} (h : OwnR enc K e w base v L) (hx : HT w gl t C) (hne : e ≠ t) (hk : Kept (fun q => q = gl) w w') : OwnR enc K e w' base v L := h.keptJ hk (fun _ e1 => hx.own_ne h.2 hne e1)
theorem Bss.at1 {w : World} {a : Option Addr} {n c : Nat} {ls : List (List UInt8)} (h : Bss w (.slice a n c) ls) (hp : 0 < ls.length) :
  ∃ b off, a = some ⟨b, off, none⟩ ∧ ∀ i (hi : i < ls.length), ∃ s : SV, w.cell? ⟨b, off + i, none⟩ = some s.v ∧ Bs w s.v ls[i] := by
 obtain ⟨vs, h1, h2, h3⟩ := h
 obtain ⟨b, off, rfl, _, hc⟩ := Sl.at h2 (by omega)
 refine ⟨b, off, rfl, fun i hi => ?_⟩
 have hb := h3 i hi (by omega)
 obtain ⟨a9, c9, e9, _⟩ := hb.shape
 refine ⟨(a9, ls[i].length, c9), ?_, ?_⟩
 ·
  rw [hc i (by omega), e9]; rfl
 ·
  rw [e9] at hb; exact hb
theorem Bss.len {w : World} {v : Value} {ls : List (List UInt8)} (h : Bss w v ls) : ∃ a c, v = .slice a ls.length c ∧ ls.length ≤ c ∧ c ≤ 9223372036854775807 := by
 obtain ⟨vs, h1, h2, h3⟩ := h
 exact Sl.shape h2
theorem recRows_most {g : Nat} : ∀ (rs : List (List UInt8)) (k : Nat), (∀ r ∈ rs, r.length ≤ 65536) → (recRows g k rs).length ≤ 1058 * rs.length
 | [], _, _ => by simp [recRows]
 | r :: rs, k, h => by
  have ih := recRows_most (g := g) rs (k + 1) (fun x hx => h x (by simp [hx]))
  have h1 : (rowsOf g k r).length ≤ 1058 := by rw [rowsOf_length]; unfold needN; have := h r (by simp); omega
  rw [recRows, List.length_append, List.length_cons]
  omega
noncomputable def appR (n : Nat) (D : DK) (T : LT) (rs : List (List UInt8)) : Int × DK × LT :=
 if n / 2 < T.half.fin + (recRows T.half.gen (T.half.recs.length + 1) rs).length then (9, D, T)
 else if (dWrites D (T.from_ + T.half.fin) (recRows T.half.gen (T.half.recs.length + 1) rs)).1 = 0 then (0, (dWrites D (T.from_ + T.half.fin) (recRows T.half.gen (T.half.recs.length + 1) rs)).2, ⟨T.from_, ⟨T.half.gen, T.half.snap, T.half.recs ++ rs, T.half.fin + (recRows T.half.gen (T.half.recs.length + 1) rs).length⟩, T.begun⟩)
 else ((dWrites D (T.from_ + T.half.fin) (recRows T.half.gen (T.half.recs.length + 1) rs)).1, (dWrites D (T.from_ + T.half.fin) (recRows T.half.gen (T.half.recs.length + 1) rs)).2, T)
def AppPost (w : World) (g gl : Nat) (Fd Fl : Nat → Prop) (n : Nat) (D : DK) (T : LT) (rs : List (List UInt8)) (e : Ending) (w' : World) : Prop :=
 e = .returned (.int .i64 (appR n D T rs).1) ∧ JPost w g gl Fd Fl n (appR n D T rs).2.1 (appR n D T rs).2.2 w'
theorem Append_state (w : World) (gl g : Nat) (Fl : Nat → Prop) (T : LT) (hl : LX w gl Fl g T) (hbg : T.begun = false) (v : Value) :
  Calls Try.prog 15 #[.pointer (some ⟨gl, 0, none⟩), v] w fun e w' => e = .returned (.int .i64 14) ∧ w = w' := by
 obtain ⟨vsn, vrc, h1, h2, h3, h4⟩ := hl
 have hc := h1.cell (j := 6) rfl
 rw [hbg] at hc
 clear h1 h2 h3 h4 hbg
 go_enter Try.func15, Try.ntmps15
 go_wp2_with fail
 go_ret
 exact ⟨rfl, rfl⟩
set_option maxRecDepth 100000 in
set_option maxHeartbeats 6400000 in
theorem Append_go (w : World) (gl g n : Nat) (Fd Fl : Nat → Prop) (D : DK) (T : LT) (hd : DX w g Fd n D) (hl : LX w gl Fl g T) (hdis : ∀ k, Fd k → ¬ Fl k) (v : Value) (rs : List (List UInt8)) (hrs : ∀ w', Kept (fun k => Fd k ∨ Fl k) w w' → Bss w' v rs)
  (hbg : T.begun = true) (hoff : D.off = false) (hfr : T.from_ ≤ n / 2) (hfi : T.half.fin ≤ n / 2) (hgen : T.half.gen ≤ 1099511627776) (hnr : T.half.recs.length ≤ 1000000) (hle : ∀ r ∈ rs, r.length ≤ 65536) (hns : rs.length ≤ 1000) (hop : D.op.length ≤ 500000) :
  Calls Try.prog 15 #[.pointer (some ⟨gl, 0, none⟩), v] w (AppPost w g gl Fd Fl n D T rs) := by
 have HLX := Lib.hid hl
 have HDIS := Lib.hid hdis
 obtain ⟨vsn, vrc, h1, h2, h3, h4⟩ := hl
 obtain ⟨a1, n1, c1, a2, nr, c2, rfl, rfl, h2n⟩ := h2.named
 obtain ⟨fr, ⟨ge, sn, rc, fi⟩, bg⟩ := T
 simp only at hfr hfi hgen hnr hbg
 subst hbg
 have h1' : HT w gl 89 [.pointer (some ⟨g, 0, none⟩), .int .i64 (fr : Int), .int .i64 (ge : Int), .slice a1 n1 c1, .slice a2 nr c2, .int .i64 (fi : Int), .bool true] := h1
 have HTL := Lib.hid h1'
 have HHM := Lib.hid h2n
 have HGL := Lib.hid h3
 have HGLT := Lib.hid (h4 gl h3)
 have hnrr : nr = rc.length := by
  obtain ⟨vs, q1, q2, _⟩ := h2n.2.2
  obtain ⟨a9, c9, e9, _⟩ := q2.rs.shape
  simp only [Value.slice.injEq] at e9
  exact e9.2.1.trans q1
 have HNR := Lib.hid hnrr
 obtain ⟨av, cv, rfl, hcv, hcm⟩ := (hrs w (Kept.refl _ _)).len
 obtain ⟨N, hN⟩ : ∃ z, z = rs.length := ⟨_, rfl⟩
 rw [← hN] at hns hrs hcv ⊢
 have hnr1 : nr ≤ 1000000 ∧ (0 : Int) ≤ nr ∧ (nr : Int) ≤ 1000000 := by omega
 have HN := Lib.hid hN
 have hx6 := h1'.cell (j := 6) rfl
 have hn1 := hd.ok.n1
 obtain ⟨m, hm⟩ : ∃ z, z = n / 2 := ⟨_, rfl⟩
 have hfb : fr ≤ m ∧ fi ≤ m ∧ m ≤ 32768 ∧ m + m ≤ n := by omega
 have HM := Lib.hid hm
 have HGE := Lib.hid hgen
 have HLE := Lib.hid hle
 have HRS := Lib.hid hrs
 have HD := Lib.hid hd
 have HOFF := Lib.hid hoff
 clear h1 h1' h2 h2n h3 h4 hm hd hrs hdis hle hgen hN hnrr hoff hfr hfi hnr
 go_enter Try.func15, Try.ntmps15
 go_wp2_with fail
 clear hx6
 go_loopw [5, 20] (fun v5 i wr => ∃ (k : Nat) (a : Option Addr) (q c : Nat), k ≤ N ∧ i = .int .i64 k ∧ v5 = .slice a q c ∧ OwnR encB 64 36 wr w.heap.size (.slice a q c) (recRows ge (nr + 1) (rs.take k)) ∧ Below w.heap.size w wr) (fun _ i _ => N - (intOf i).toNat)
 case atStart => exact ⟨0, none, 0, 0, Nat.zero_le _, rfl, rfl, OwnR.empty encB_len _ _ _, Below.refl _ _⟩
 case round =>
  obtain ⟨k, a5, q5, c5, hk, rfl, rfl, ho, hb⟩ := hrel
  have HO := Lib.hid ho
  have HB := Lib.hid hb
  clear ho hb
  by_cases hlt : k < N
  ·
   have hkl : k < rs.length := by have := HN.out; omega
   obtain ⟨bk, off, rfl, hcx⟩ := Bss.at1 (HRS.out wr ((Kept.of_below HB.out).weaken (fun _ e => e.elim))) (by omega)
   obtain ⟨⟨s1, s2, s3⟩, hs, hbs⟩ := hcx k hkl
   have hcell : wr.cell? ⟨bk, off + k, none⟩ = some (.slice s1 s2 s3) := hs
   obtain ⟨r, hr⟩ : ∃ z, z = rs[k] := ⟨_, rfl⟩
   rw [← hr] at hbs
   have HR := Lib.hid hr
   have HRL : Hid (r.length ≤ 65536) := by rw [hr]; exact HLE.out _ (List.getElem_mem _)
   have HBR : Hid (Bs wr (.slice s1 s2 s3) r) := hbs
   have HLR := Lib.hid (HTL.out.below HB.out)
   have HL2 := Lib.hid (HLR.out.cell (j := 2) rfl)
   have HL4 := Lib.hid (HLR.out.cell (j := 4) rfl)
   have HW1 : Hid (IntKind.i64.wrap ((nr : Int) + (k : Int)) = (nr : Int) + k) := IntWalk.i64_in _ (by omega)
   have HW2 : Hid (IntKind.i64.wrap ((nr : Int) + (k : Int) + 1) = (nr : Int) + k + 1) := IntWalk.i64_in _ (by omega)
   have hk0 : (0 : Int) ≤ k ∧ (k : Int) < N := by omega
   clear hcx hs hbs hr
   go_upto_region 7 with fail
   refine wp_region_bl 21 (by kernel_rfl) ?_
   refine wpAnyU_take (i := 0) (oi := { dst := some 26, op := Op.move (Operand.tmp 0), type := 30, pos := "journal.go:143", after := #[], guard := none }) (v := (.pointer (some ⟨gl, 0, none⟩))) rfl (by kernel_rfl) (by kernel_rfl) (by kernel_rfl) (by kernel_rfl) (by kernel_rfl) (fun _ _ _ h => h) (BL.cls wr) ?_ ?_
   ·
    refine Or.inl ⟨rfl, fun w hSw => ?_⟩
    exact EffR.same (by go_simp)
   try simp only [Act.put, zA, zB, zC]
   refine wpAnyU_take (i := 1) (oi := { dst := some 27, op := Op.nilCheck (Operand.tmp 26), type := 0, pos := "journal.go:143", after := #[{ on := 0, ground := Ground.data }], guard := none }) (v := (.pointer (some ⟨gl, 0, none⟩))) rfl (by kernel_rfl) (by kernel_rfl) (by kernel_rfl) (by kernel_rfl) (by kernel_rfl) (fun _ _ _ h => h) (BL.cls wr) ?_ ?_
   ·
    refine Or.inl ⟨rfl, fun w hSw => ?_⟩
    exact EffR.same (by go_simp)
   try simp only [Act.put, zA, zB, zC]
   refine wpAnyU_take (i := 2) (oi := { dst := some 28, op := Op.fieldAddr 89 (Operand.tmp 27) 1, type := 0, pos := "journal.go:143", after := #[{ on := 1, ground := Ground.data }], guard := none }) (v := (.pointer (some ⟨gl, 1, none⟩))) rfl (by kernel_rfl) (by kernel_rfl) (by kernel_rfl) (by kernel_rfl) (by kernel_rfl) (fun _ _ _ h => h) (BL.cls wr) ?_ ?_
   ·
    refine Or.inl ⟨rfl, fun w hSw => ?_⟩
    exact EffR.same (by go_simp)
   try simp only [Act.put, zA, zB, zC]
   refine wpAnyU_take (i := 3) (oi := { dst := some 29, op := Op.fieldAddr 84 (Operand.tmp 28) 1, type := 0, pos := "journal.go:143", after := #[{ on := 2, ground := Ground.data }], guard := none }) (v := (.pointer (some ⟨gl, 2, none⟩))) rfl (by kernel_rfl) (by kernel_rfl) (by kernel_rfl) (by kernel_rfl) (by kernel_rfl) (fun _ _ _ h => h) (BL.cls wr) ?_ ?_
   ·
    refine Or.inl ⟨rfl, fun w hSw => ?_⟩
    exact EffR.same (by go_simp)
   try simp only [Act.put, zA, zB, zC]
   refine wpAnyU_take (i := 4) (oi := { dst := some 30, op := Op.load 3 (Operand.tmp 29), type := 3, pos := "journal.go:143", after := #[{ on := 3, ground := Ground.data }], guard := none }) (v := (.int .i64 (ge : Int))) rfl (by kernel_rfl) (by kernel_rfl) (by kernel_rfl) (by kernel_rfl) (by kernel_rfl) (fun _ _ _ h => h) (BL.cls wr) ?_ ?_
   ·
    refine Or.inl ⟨rfl, fun w hSw => ?_⟩
    have e0 := BL.cell hSw HL2.out
    exact EffR.same (by go_simp)
   try simp only [Act.put, zA, zB, zC]
   refine wpAnyU_take (i := 5) (oi := { dst := some 31, op := Op.move (Operand.tmp 0), type := 30, pos := "journal.go:143", after := #[], guard := none }) (v := (.pointer (some ⟨gl, 0, none⟩))) rfl (by kernel_rfl) (by kernel_rfl) (by kernel_rfl) (by kernel_rfl) (by kernel_rfl) (fun _ _ _ h => h) (BL.cls wr) ?_ ?_
   ·
    refine Or.inl ⟨rfl, fun w hSw => ?_⟩
    exact EffR.same (by go_simp)
   try simp only [Act.put, zA, zB, zC]
   refine wpAnyU_take (i := 6) (oi := { dst := some 32, op := Op.nilCheck (Operand.tmp 31), type := 0, pos := "journal.go:143", after := #[{ on := 5, ground := Ground.data }], guard := none }) (v := (.pointer (some ⟨gl, 0, none⟩))) rfl (by kernel_rfl) (by kernel_rfl) (by kernel_rfl) (by kernel_rfl) (by kernel_rfl) (fun _ _ _ h => h) (BL.cls wr) ?_ ?_
   ·
    refine Or.inl ⟨rfl, fun w hSw => ?_⟩
    exact EffR.same (by go_simp)
   try simp only [Act.put, zA, zB, zC]
   refine wpAnyU_take (i := 7) (oi := { dst := some 33, op := Op.fieldAddr 89 (Operand.tmp 32) 1, type := 0, pos := "journal.go:143", after := #[{ on := 6, ground := Ground.data }], guard := none }) (v := (.pointer (some ⟨gl, 1, none⟩))) rfl (by kernel_rfl) (by kernel_rfl) (by kernel_rfl) (by kernel_rfl) (by kernel_rfl) (fun _ _ _ h => h) (BL.cls wr) ?_ ?_
   ·
    refine Or.inl ⟨rfl, fun w hSw => ?_⟩
    exact EffR.same (by go_simp)
   try simp only [Act.put, zA, zB, zC]
   refine wpAnyU_take (i := 8) (oi := { dst := some 34, op := Op.fieldAddr 84 (Operand.tmp 33) 3, type := 0, pos := "journal.go:143", after := #[{ on := 7, ground := Ground.data }], guard := none }) (v := (.pointer (some ⟨gl, 4, none⟩))) rfl (by kernel_rfl) (by kernel_rfl) (by kernel_rfl) (by kernel_rfl) (by kernel_rfl) (fun _ _ _ h => h) (BL.cls wr) ?_ ?_
   ·
    refine Or.inl ⟨rfl, fun w hSw => ?_⟩
    exact EffR.same (by go_simp)
   try simp only [Act.put, zA, zB, zC]
   refine wpAnyU_take (i := 9) (oi := { dst := some 35, op := Op.load 23 (Operand.tmp 34), type := 23, pos := "journal.go:143", after := #[{ on := 8, ground := Ground.data }], guard := none }) (v := (.slice a2 nr c2)) rfl (by kernel_rfl) (by kernel_rfl) (by kernel_rfl) (by kernel_rfl) (by kernel_rfl) (fun _ _ _ h => h) (BL.cls wr) ?_ ?_
   ·
    refine Or.inl ⟨rfl, fun w hSw => ?_⟩
    have e0 := BL.cell hSw HL4.out
    exact EffR.same (by go_simp)
   try simp only [Act.put, zA, zB, zC]
   refine wpAnyU_take (i := 10) (oi := { dst := some 36, op := Op.call { callee := Callee.builtin Builtin.len, args := #[Operand.tmp 35], argTypes := #[23] }, type := 3, pos := "journal.go:143", after := #[{ on := 9, ground := Ground.data }], guard := none }) (v := (.int .i64 (nr : Int))) rfl (by kernel_rfl) (by kernel_rfl) (by kernel_rfl) (by kernel_rfl) (by kernel_rfl) (fun _ _ _ h => h) (BL.cls wr) ?_ ?_
   ·
    refine Or.inl ⟨rfl, fun w hSw => ?_⟩
    exact EffR.same (by go_simp)
   try simp only [Act.put, zA, zB, zC]
   refine wpAnyU_take (i := 11) (oi := { dst := some 37, op := Op.move (Operand.tmp 6), type := 3, pos := "journal.go:143", after := #[], guard := none }) (v := (.int .i64 (k : Int))) rfl (by kernel_rfl) (by kernel_rfl) (by kernel_rfl) (by kernel_rfl) (by kernel_rfl) (fun _ _ _ h => h) (BL.cls wr) ?_ ?_
   ·
    refine Or.inl ⟨rfl, fun w hSw => ?_⟩
    exact EffR.same (by go_simp)
   try simp only [Act.put, zA, zB, zC]
   refine wpAnyU_take (i := 12) (oi := { dst := some 38, op := Op.binOp BinOp.add 3 (Operand.tmp 36) (Operand.tmp 37) 3, type := 3, pos := "journal.go:143", after := #[{ on := 10, ground := Ground.data }, { on := 11, ground := Ground.data }], guard := none }) (v := (.int .i64 ((nr : Int) + (k : Int)))) rfl (by kernel_rfl) (by kernel_rfl) (by kernel_rfl) (by kernel_rfl) (by kernel_rfl) (fun _ _ _ h => h) (BL.cls wr) ?_ ?_
   ·
    refine Or.inl ⟨rfl, fun w hSw => ?_⟩
    have e0 := HW1.out
    exact EffR.same (by go_simp)
   try simp only [Act.put, zA, zB, zC]
   refine wpAnyU_take (i := 13) (oi := { dst := some 39, op := Op.binOp BinOp.add 3 (Operand.tmp 38) (Operand.const (Value.int IntKind.i64 1)) 3, type := 3, pos := "journal.go:143", after := #[{ on := 12, ground := Ground.data }], guard := none }) (v := (.int .i64 ((nr : Int) + (k : Int) + 1))) rfl (by kernel_rfl) (by kernel_rfl) (by kernel_rfl) (by kernel_rfl) (by kernel_rfl) (fun _ _ _ h => h) (BL.cls wr) ?_ ?_
   ·
    refine Or.inl ⟨rfl, fun w hSw => ?_⟩
    have e0 := HW2.out
    exact EffR.same (by go_simp)
   try simp only [Act.put, zA, zB, zC]
   refine wpAnyU_take (i := 14) (oi := { dst := some 40, op := Op.move (Operand.tmp 7), type := 22, pos := "journal.go:143", after := #[], guard := none }) (v := (.slice s1 s2 s3)) rfl (by kernel_rfl) (by kernel_rfl) (by kernel_rfl) (by kernel_rfl) (by kernel_rfl) (fun _ _ _ h => h) (BL.cls wr) ?_ ?_
   ·
    refine Or.inl ⟨rfl, fun w hSw => ?_⟩
    exact EffR.same (by go_simp)
   try simp only [Act.put, zA, zB, zC]
   refine wpAnyU_ready (rs := [15]) (by kernel_rfl) (by simp) ?_
   refine AllReadyU.cons (o := { dst := some 41, op := Op.call { callee := Callee.value (Operand.func 42), args := #[Operand.tmp 30, Operand.tmp 39, Operand.tmp 40], argTypes := #[3, 3, 22] }, type := 90, pos := "journal.go:143", after := #[{ on := 4, ground := Ground.data }, { on := 13, ground := Ground.data }, { on := 14, ground := Ground.data }], guard := none }) rfl (fun wA15 hA15 K hK => ?_) AllReadyU.nil
   have hro := rowed_ok wA15 (.slice s1 s2 s3) ge (nr + k + 1) r (Bs.mono HBR.out hA15) HGE.out (by omega) HRL.out
   rw [Int.natCast_add, Int.natCast_add, show ((1 : Nat) : Int) = 1 from rfl] at hro
   go_simp
   refine hro.mono ?_
   rintro e0 w5 ⟨v5, rfl, hv5, hb5⟩
   obtain ⟨p1, p2, p3, rfl, _, hv6⟩ := hv5.named
   refine hK.out _ _ (fun x => BL wr x ∧ OwnR encB 64 36 x wr.heap.size (.slice p1 p2 p3) (rowsOf ge (nr + k + 1) r)) (Cls.and (BL.cls wr) (fun _ _ h hb => OwnR.below h hb)) ⟨Below.next hA15 hb5, hv6.base (Below.size hA15)⟩ ?_
   clear hro hv5 hv6 hb5
   clear hK K
   try simp only [Act.put, zA, zB, zC]
   refine wpAnyU_take (i := 16) (oi := { dst := some 25, op := Op.move (Operand.tmp 41), type := 90, pos := "journal.go:143", after := #[{ on := 15, ground := Ground.data }], guard := none }) (v := (.tuple #[.slice p1 p2 p3, .int .i64 0])) rfl (by kernel_rfl) (by kernel_rfl) (by kernel_rfl) (by kernel_rfl) (by kernel_rfl) (fun _ _ _ h => h) (Cls.and (BL.cls wr) (fun _ _ h hb => OwnR.below h hb)) ?_ ?_
   ·
    refine Or.inl ⟨rfl, fun w hSw => ?_⟩
    exact EffR.same (by go_simp)
   try simp only [Act.put, zA, zB, zC]
   refine wpAnyU_take (i := 17) (oi := { dst := some 42, op := Op.extract (Operand.tmp 25) 0, type := 75, pos := "journal.go:143", after := #[{ on := 16, ground := Ground.data }], guard := none }) (v := (.slice p1 p2 p3)) rfl (by kernel_rfl) (by kernel_rfl) (by kernel_rfl) (by kernel_rfl) (by kernel_rfl) (fun _ _ _ h => h) (Cls.and (BL.cls wr) (fun _ _ h hb => OwnR.below h hb)) ?_ ?_
   ·
    refine Or.inl ⟨rfl, fun w hSw => ?_⟩
    exact EffR.same (by go_simp)
   try simp only [Act.put, zA, zB, zC]
   refine wpAnyU_take (i := 18) (oi := { dst := some 43, op := Op.extract (Operand.tmp 25) 1, type := 27, pos := "journal.go:143", after := #[{ on := 16, ground := Ground.data }, { on := 19, ground := Ground.gcOnly Departure.lateStores }], guard := none }) (v := (.int .i64 0)) rfl (by kernel_rfl) (by kernel_rfl) (by kernel_rfl) (by kernel_rfl) (by kernel_rfl) (fun _ _ _ h => h) (Cls.and (BL.cls wr) (fun _ _ h hb => OwnR.below h hb)) ?_ ?_
   ·
    refine Or.inl ⟨rfl, fun w hSw => ?_⟩
    exact EffR.same (by go_simp)
   try simp only [Act.put, zA, zB, zC]
   refine wpAnyU_take (i := 19) (oi := { dst := some 8, op := Op.assign (Operand.tmp 42), type := 75, pos := "journal.go:143", after := #[{ on := 17, ground := Ground.data }, { on := 15, ground := Ground.chain }, { on := 0, ground := Ground.phase }, { on := 1, ground := Ground.phase }, { on := 2, ground := Ground.phase }, { on := 3, ground := Ground.phase }, { on := 4, ground := Ground.phase }, { on := 5, ground := Ground.phase }, { on := 6, ground := Ground.phase }, { on := 7, ground := Ground.phase }, { on := 8, ground := Ground.phase }, { on := 9, ground := Ground.phase }, { on := 10, ground := Ground.phase }, { on := 11, ground := Ground.phase }, { on := 12, ground := Ground.phase }, { on := 13, ground := Ground.phase }, { on := 14, ground := Ground.phase }, { on := 15, ground := Ground.phase }, { on := 16, ground := Ground.phase }, { on := 17, ground := Ground.phase }, { on := 18, ground := Ground.textOnly Departure.lateStores }], guard := none }) (v := (.slice p1 p2 p3)) rfl (by kernel_rfl) (by kernel_rfl) (by kernel_rfl) (by kernel_rfl) (by kernel_rfl) (fun _ _ _ h => h) (Cls.and (BL.cls wr) (fun _ _ h hb => OwnR.below h hb)) ?_ ?_
   ·
    refine Or.inl ⟨rfl, fun w hSw => ?_⟩
    exact EffR.same (by go_simp)
   try simp only [Act.put, zA, zB, zC]
   refine wpAnyU_take (i := 20) (oi := { dst := some 9, op := Op.assign (Operand.tmp 43), type := 27, pos := "journal.go:143", after := #[{ on := 18, ground := Ground.data }, { on := 19, ground := Ground.chain }, { on := 0, ground := Ground.phase }, { on := 1, ground := Ground.phase }, { on := 2, ground := Ground.phase }, { on := 3, ground := Ground.phase }, { on := 4, ground := Ground.phase }, { on := 5, ground := Ground.phase }, { on := 6, ground := Ground.phase }, { on := 7, ground := Ground.phase }, { on := 8, ground := Ground.phase }, { on := 9, ground := Ground.phase }, { on := 10, ground := Ground.phase }, { on := 11, ground := Ground.phase }, { on := 12, ground := Ground.phase }, { on := 13, ground := Ground.phase }, { on := 14, ground := Ground.phase }, { on := 15, ground := Ground.phase }, { on := 16, ground := Ground.phase }, { on := 17, ground := Ground.phase }, { on := 18, ground := Ground.phase }, { on := 19, ground := Ground.phase }], guard := none }) (v := (.int .i64 0)) rfl (by kernel_rfl) (by kernel_rfl) (by kernel_rfl) (by kernel_rfl) (by kernel_rfl) (fun _ _ _ h => h) (Cls.and (BL.cls wr) (fun _ _ h hb => OwnR.below h hb)) ?_ ?_
   ·
    refine Or.inl ⟨rfl, fun w hSw => ?_⟩
    exact EffR.same (by go_simp)
   try simp only [Act.put, zA, zB, zC]
   refine wpAnyU_done (by kernel_rfl) (fun w1 hb1 => ?_) _
   have HV1 := Lib.hid hb1.2
   have HB1 := Lib.hid hb1.1
   clear hb1
   have hsz := HB.out.size
   have HO1 := Lib.hid (HO.out.below HB1.out)
   have hz1 : w.heap.size ≤ w1.heap.size := Nat.le_trans hsz (Below.size HB1.out)
   have hle : ((recRows ge (nr + 1) (rs.take k)).length + (rowsOf ge (nr + k + 1) r).length) * 64 ≤ 140737488355328 := by
    have h1 := recRows_most (g := ge) (rs.take k) (nr + 1) (fun x hx => HLE.out x (List.mem_of_mem_take hx))
    have h2 : (rs.take k).length ≤ 1000 := by rw [List.length_take]; omega
    have h3 : (rowsOf ge (nr + k + 1) r).length ≤ 1058 := by rw [rowsOf_length]; unfold needN; have := HRL.out; omega
    omega
   go_wp2_with (first
    | (at_builtin; refine wpList_append_rows (v := .slice a5 q5 c5) rfl (.tmp 47) (.tmp 48) 75 rfl (L := recRows ge (nr + 1) (rs.take k)) (M := rowsOf ge (nr + k + 1) r) (base := w.heap.size) elem_blk rfl rfl HO1.out HV1.out.rs encB_one hle (by decide) hz1 ?_; intro a9 n9 c9 w9 Hn9 ho9 hg9 hat9 hb9)
    | fail)
   refine ⟨⟨k + 1, a9, n9, c9, by omega, by push_cast; rfl, rfl, ?_, HB.out.trans ((HB1.out.mono hsz).trans hb9)⟩, by simp [intOf]; omega⟩
   rw [take_snoc rs k hkl, recRows_append, List.length_take, Nat.min_eq_left (by omega), ← HR.out]
   have e9 : recRows ge (nr + 1 + k) [r] = rowsOf ge (nr + k + 1) r := by rw [recRows, recRows, List.append_nil, show nr + 1 + k = nr + k + 1 by omega]
   rw [e9]
   exact ho9
  ·
   obtain rfl : k = N := by omega
   obtain ⟨ALL, hall⟩ : ∃ z, z = recRows ge (nr + 1) rs := ⟨_, rfl⟩
   have HAO : Hid (OwnR encB 64 36 wr w.heap.size (.slice a5 q5 c5) ALL) := by
    have h9 := HO.out
    rw [List.take_of_length_le (by have := HN.out; omega), ← hall] at h9
    exact h9
   have HALL : Hid (ALL = recRows ge (rc.length + 1) rs) := by show _ = _; rw [hall, HNR.out]
   obtain ⟨_, q9, c9, e9, hq5, h9x⟩ := HAO.out.named
   clear h9x
   simp only [Value.slice.injEq] at e9
   have hq6 : q5 = ALL.length := by rw [e9.2.1]; exact hq5.out
   have hqb : q5 ≤ 1058000 := by
    rw [hq6, HALL.out]
    have h1 := recRows_most (g := ge) rs (rc.length + 1) HLE.out
    have := HN.out
    omega
   have HAL := Lib.hid hq6
   clear hall HO e9 hq5 hq6
   have HLR := Lib.hid (HTL.out.below HB.out)
   have hx0 := HLR.out.cell (j := 0) rfl
   have hx5 := HLR.out.cell (j := 5) rfl
   have hW : IntKind.i64.wrap ((m : Int) - (fi : Int)) = (m : Int) - fi := IntWalk.i64_in _ (by omega)
   have HSZ := fun nq => Lib.hid (size_any (wr.drewN nq) g n Fd D (HD.out.below (below_drewN' HB.out nq)))
   rw [← HM.out] at HSZ
   go_wp2_with fail
   go_quiet ((exact quiet_left ((HSZ _).out)))
   clear hW
   have HBQ := Lib.hid (below_drewN' HB.out nq)
   have HAQ : Hid (OwnR encB 64 36 (wr.drewN nq) w.heap.size (.slice a5 q5 c5) ALL) := HAO.out
   clear hx0 hx5 HLR HAO HB HSZ
   generalize wr.drewN nq = wv at HBQ HAQ ⊢
   have HTV := Lib.hid (HTL.out.below HBQ.out)
   by_cases hfull : (m : Int) - fi < q5
   ·
    have hfl : decide ((m : Int) - (fi : Int) < (q5 : Int)) = true := by simpa using hfull
    go_wp2_with fail
    go_ret
    have hres : appR n D (LT.mk fr ⟨ge, sn, rc, fi⟩ true) rs = (9, D, LT.mk fr ⟨ge, sn, rc, fi⟩ true) := by
     unfold appR
     rw [if_pos (by rw [← HALL.out, ← HAL.out, ← HM.out]; show m < fi + q5; omega)]
    unfold AppPost
    rw [hres]
    exact ⟨rfl, JPost.quit (wb := wv) HLX.out (HD.out.below HBQ.out) HBQ.out (Kept.refl _ _) (fun q e => .inl e) HDIS.out⟩
   ·
    have hfl : decide ((m : Int) - (fi : Int) < (q5 : Int)) = false := by simpa using hfull
    have hx0 := HTV.out.cell (j := 0) rfl
    have hof := Off_x wv g n Fd D (HD.out.below HBQ.out)
    rw [HOFF.out] at hof
    go_wp2_with fail
    refine hof.mono ?_
    rintro e w' ⟨rfl, rfl⟩
    clear hof hx0
    have HDV := Lib.hid (HD.out.below HBQ.out)
    have HKV : Hid (Kept Fd w wv) := (Kept.of_below HBQ.out).weaken (fun _ e => e.elim)
    have HGC : Hid (∀ w', Kept Fd wv w' → w'.cell? ⟨gl, 0, none⟩ = some (.pointer (some ⟨g, 0, none⟩))) := fun w' hk' => (HT.keptJ HTV.out hk' (fun e => HDIS.out gl e HGL.out)).cell (j := 0) rfl
    have HRB : Hid (∀ w', Kept Fd wv w' → Rs encB 64 w' (.slice a5 q5 c5) ALL) := fun w' hk' => (OwnR.keptJ HAQ.out hk' (fun q hq e => by have := OwnR.ge HAQ.out q hq; have := HD.out.lt q e; omega)).rs
    have HC1 := Lib.hid (HTV.out.cell (j := 1) rfl)
    have HC5 := Lib.hid (HTV.out.cell (j := 5) rfl)
    have HW3 : Hid (IntKind.i64.wrap ((fr : Int) + (fi : Int)) = (fr : Int) + fi) := IntWalk.i64_in _ (by omega)
    obtain ⟨E, hE⟩ : ∃ z, z = (dWrites D (fr + fi) ALL).1 := ⟨_, rfl⟩
    obtain ⟨Dn, hDn⟩ : ∃ z, z = (dWrites D (fr + fi) ALL).2 := ⟨_, rfl⟩
    have HE := Lib.hid hE
    have HDN := Lib.hid hDn
    clear hE hDn
    have h64 : ∀ b ∈ ALL, b.length = 64 := by rw [HALL.out]; exact recRows_64
    have H64 := Lib.hid h64
    clear h64
    go_upto_region 16 with fail
    refine wp_region_uni (S0 := (fun x => x.cell? ⟨gl, 1, none⟩ = some (.int .i64 (fr : Int)) ∧ x.cell? ⟨gl, 5, none⟩ = some (.int .i64 (fi : Int)))) (S := BL wv) 15 (by kernel_rfl) (Below.refl _ _).drew ?_
    refine wpAnyU_take (i := 0) (oi := { dst := some 72, op := Op.move (Operand.tmp 0), type := 30, pos := "journal.go:155", after := #[], guard := none }) (v := (.pointer (some ⟨gl, 0, none⟩))) rfl (by kernel_rfl) (by kernel_rfl) (by kernel_rfl) (by kernel_rfl) (by kernel_rfl) (fun _ _ _ h => h) (⟨fun x h => ⟨BL.cell h HC1.out, BL.cell h HC5.out⟩, fun _ _ h hb => Below.next h hb⟩ : Cls (fun x => x.cell? ⟨gl, 1, none⟩ = some (.int .i64 (fr : Int)) ∧ x.cell? ⟨gl, 5, none⟩ = some (.int .i64 (fi : Int))) (BL wv)) ?_ ?_
    ·
     refine Or.inl ⟨rfl, fun w hSw => ?_⟩
     exact EffR.same (by go_simp)
    try simp only [Act.put, zA, zB, zC]
    refine wpAnyU_take (i := 1) (oi := { dst := some 73, op := Op.move (Operand.tmp 0), type := 30, pos := "journal.go:155", after := #[], guard := none }) (v := (.pointer (some ⟨gl, 0, none⟩))) rfl (by kernel_rfl) (by kernel_rfl) (by kernel_rfl) (by kernel_rfl) (by kernel_rfl) (fun _ _ _ h => h) (⟨fun x h => ⟨BL.cell h HC1.out, BL.cell h HC5.out⟩, fun _ _ h hb => Below.next h hb⟩ : Cls (fun x => x.cell? ⟨gl, 1, none⟩ = some (.int .i64 (fr : Int)) ∧ x.cell? ⟨gl, 5, none⟩ = some (.int .i64 (fi : Int))) (BL wv)) ?_ ?_
    ·
     refine Or.inl ⟨rfl, fun w hSw => ?_⟩
     exact EffR.same (by go_simp)
    try simp only [Act.put, zA, zB, zC]
    refine wpAnyU_take (i := 2) (oi := { dst := some 74, op := Op.nilCheck (Operand.tmp 73), type := 0, pos := "journal.go:155", after := #[{ on := 1, ground := Ground.data }], guard := none }) (v := (.pointer (some ⟨gl, 0, none⟩))) rfl (by kernel_rfl) (by kernel_rfl) (by kernel_rfl) (by kernel_rfl) (by kernel_rfl) (fun _ _ _ h => h) (⟨fun x h => ⟨BL.cell h HC1.out, BL.cell h HC5.out⟩, fun _ _ h hb => Below.next h hb⟩ : Cls (fun x => x.cell? ⟨gl, 1, none⟩ = some (.int .i64 (fr : Int)) ∧ x.cell? ⟨gl, 5, none⟩ = some (.int .i64 (fi : Int))) (BL wv)) ?_ ?_
    ·
     refine Or.inl ⟨rfl, fun w hSw => ?_⟩
     exact EffR.same (by go_simp)
    try simp only [Act.put, zA, zB, zC]
    refine wpAnyU_take (i := 3) (oi := { dst := some 75, op := Op.fieldAddr 89 (Operand.tmp 74) 1, type := 0, pos := "journal.go:155", after := #[{ on := 2, ground := Ground.data }], guard := none }) (v := (.pointer (some ⟨gl, 1, none⟩))) rfl (by kernel_rfl) (by kernel_rfl) (by kernel_rfl) (by kernel_rfl) (by kernel_rfl) (fun _ _ _ h => h) (⟨fun x h => ⟨BL.cell h HC1.out, BL.cell h HC5.out⟩, fun _ _ h hb => Below.next h hb⟩ : Cls (fun x => x.cell? ⟨gl, 1, none⟩ = some (.int .i64 (fr : Int)) ∧ x.cell? ⟨gl, 5, none⟩ = some (.int .i64 (fi : Int))) (BL wv)) ?_ ?_
    ·
     refine Or.inl ⟨rfl, fun w hSw => ?_⟩
     exact EffR.same (by go_simp)
    try simp only [Act.put, zA, zB, zC]
    refine wpAnyU_take (i := 4) (oi := { dst := some 76, op := Op.fieldAddr 84 (Operand.tmp 75) 0, type := 0, pos := "journal.go:155", after := #[{ on := 3, ground := Ground.data }], guard := none }) (v := (.pointer (some ⟨gl, 1, none⟩))) rfl (by kernel_rfl) (by kernel_rfl) (by kernel_rfl) (by kernel_rfl) (by kernel_rfl) (fun _ _ _ h => h) (⟨fun x h => ⟨BL.cell h HC1.out, BL.cell h HC5.out⟩, fun _ _ h hb => Below.next h hb⟩ : Cls (fun x => x.cell? ⟨gl, 1, none⟩ = some (.int .i64 (fr : Int)) ∧ x.cell? ⟨gl, 5, none⟩ = some (.int .i64 (fi : Int))) (BL wv)) ?_ ?_
    ·
     refine Or.inl ⟨rfl, fun w hSw => ?_⟩
     exact EffR.same (by go_simp)
    try simp only [Act.put, zA, zB, zC]
    refine wpAnyU_take (i := 5) (oi := { dst := some 77, op := Op.load 3 (Operand.tmp 76), type := 3, pos := "journal.go:155", after := #[{ on := 4, ground := Ground.data }], guard := none }) (v := (.int .i64 (fr : Int))) rfl (by kernel_rfl) (by kernel_rfl) (by kernel_rfl) (by kernel_rfl) (by kernel_rfl) (fun _ _ _ h => h) (⟨fun x h => ⟨BL.cell h HC1.out, BL.cell h HC5.out⟩, fun _ _ h hb => Below.next h hb⟩ : Cls (fun x => x.cell? ⟨gl, 1, none⟩ = some (.int .i64 (fr : Int)) ∧ x.cell? ⟨gl, 5, none⟩ = some (.int .i64 (fi : Int))) (BL wv)) ?_ ?_
    ·
     refine Or.inl ⟨rfl, fun w hSw => ?_⟩
     have e0 := hSw.1
     exact EffR.same (by go_simp)
    try simp only [Act.put, zA, zB, zC]
    refine wpAnyU_take (i := 6) (oi := { dst := some 78, op := Op.move (Operand.tmp 0), type := 30, pos := "journal.go:155", after := #[], guard := none }) (v := (.pointer (some ⟨gl, 0, none⟩))) rfl (by kernel_rfl) (by kernel_rfl) (by kernel_rfl) (by kernel_rfl) (by kernel_rfl) (fun _ _ _ h => h) (⟨fun x h => ⟨BL.cell h HC1.out, BL.cell h HC5.out⟩, fun _ _ h hb => Below.next h hb⟩ : Cls (fun x => x.cell? ⟨gl, 1, none⟩ = some (.int .i64 (fr : Int)) ∧ x.cell? ⟨gl, 5, none⟩ = some (.int .i64 (fi : Int))) (BL wv)) ?_ ?_
    ·
     refine Or.inl ⟨rfl, fun w hSw => ?_⟩
     exact EffR.same (by go_simp)
    try simp only [Act.put, zA, zB, zC]
    refine wpAnyU_take (i := 7) (oi := { dst := some 79, op := Op.nilCheck (Operand.tmp 78), type := 0, pos := "journal.go:155", after := #[{ on := 6, ground := Ground.data }], guard := none }) (v := (.pointer (some ⟨gl, 0, none⟩))) rfl (by kernel_rfl) (by kernel_rfl) (by kernel_rfl) (by kernel_rfl) (by kernel_rfl) (fun _ _ _ h => h) (⟨fun x h => ⟨BL.cell h HC1.out, BL.cell h HC5.out⟩, fun _ _ h hb => Below.next h hb⟩ : Cls (fun x => x.cell? ⟨gl, 1, none⟩ = some (.int .i64 (fr : Int)) ∧ x.cell? ⟨gl, 5, none⟩ = some (.int .i64 (fi : Int))) (BL wv)) ?_ ?_
    ·
     refine Or.inl ⟨rfl, fun w hSw => ?_⟩
     exact EffR.same (by go_simp)
    try simp only [Act.put, zA, zB, zC]
    refine wpAnyU_take (i := 8) (oi := { dst := some 80, op := Op.fieldAddr 89 (Operand.tmp 79) 1, type := 0, pos := "journal.go:155", after := #[{ on := 7, ground := Ground.data }], guard := none }) (v := (.pointer (some ⟨gl, 1, none⟩))) rfl (by kernel_rfl) (by kernel_rfl) (by kernel_rfl) (by kernel_rfl) (by kernel_rfl) (fun _ _ _ h => h) (⟨fun x h => ⟨BL.cell h HC1.out, BL.cell h HC5.out⟩, fun _ _ h hb => Below.next h hb⟩ : Cls (fun x => x.cell? ⟨gl, 1, none⟩ = some (.int .i64 (fr : Int)) ∧ x.cell? ⟨gl, 5, none⟩ = some (.int .i64 (fi : Int))) (BL wv)) ?_ ?_
    ·
     refine Or.inl ⟨rfl, fun w hSw => ?_⟩
     exact EffR.same (by go_simp)
    try simp only [Act.put, zA, zB, zC]
    refine wpAnyU_take (i := 9) (oi := { dst := some 81, op := Op.fieldAddr 84 (Operand.tmp 80) 4, type := 0, pos := "journal.go:155", after := #[{ on := 8, ground := Ground.data }], guard := none }) (v := (.pointer (some ⟨gl, 5, none⟩))) rfl (by kernel_rfl) (by kernel_rfl) (by kernel_rfl) (by kernel_rfl) (by kernel_rfl) (fun _ _ _ h => h) (⟨fun x h => ⟨BL.cell h HC1.out, BL.cell h HC5.out⟩, fun _ _ h hb => Below.next h hb⟩ : Cls (fun x => x.cell? ⟨gl, 1, none⟩ = some (.int .i64 (fr : Int)) ∧ x.cell? ⟨gl, 5, none⟩ = some (.int .i64 (fi : Int))) (BL wv)) ?_ ?_
    ·
     refine Or.inl ⟨rfl, fun w hSw => ?_⟩
     exact EffR.same (by go_simp)
    try simp only [Act.put, zA, zB, zC]
    refine wpAnyU_take (i := 10) (oi := { dst := some 82, op := Op.load 3 (Operand.tmp 81), type := 3, pos := "journal.go:155", after := #[{ on := 9, ground := Ground.data }], guard := none }) (v := (.int .i64 (fi : Int))) rfl (by kernel_rfl) (by kernel_rfl) (by kernel_rfl) (by kernel_rfl) (by kernel_rfl) (fun _ _ _ h => h) (⟨fun x h => ⟨BL.cell h HC1.out, BL.cell h HC5.out⟩, fun _ _ h hb => Below.next h hb⟩ : Cls (fun x => x.cell? ⟨gl, 1, none⟩ = some (.int .i64 (fr : Int)) ∧ x.cell? ⟨gl, 5, none⟩ = some (.int .i64 (fi : Int))) (BL wv)) ?_ ?_
    ·
     refine Or.inl ⟨rfl, fun w hSw => ?_⟩
     have e0 := hSw.2
     exact EffR.same (by go_simp)
    try simp only [Act.put, zA, zB, zC]
    refine wpAnyU_take (i := 11) (oi := { dst := some 83, op := Op.binOp BinOp.add 3 (Operand.tmp 77) (Operand.tmp 82) 3, type := 3, pos := "journal.go:155", after := #[{ on := 5, ground := Ground.data }, { on := 10, ground := Ground.data }], guard := none }) (v := (.int .i64 ((fr : Int) + (fi : Int)))) rfl (by kernel_rfl) (by kernel_rfl) (by kernel_rfl) (by kernel_rfl) (by kernel_rfl) (fun _ _ _ h => h) (⟨fun x h => ⟨BL.cell h HC1.out, BL.cell h HC5.out⟩, fun _ _ h hb => Below.next h hb⟩ : Cls (fun x => x.cell? ⟨gl, 1, none⟩ = some (.int .i64 (fr : Int)) ∧ x.cell? ⟨gl, 5, none⟩ = some (.int .i64 (fi : Int))) (BL wv)) ?_ ?_
    ·
     refine Or.inl ⟨rfl, fun w hSw => ?_⟩
     have e0 := HW3.out
     exact EffR.same (by go_simp)
    try simp only [Act.put, zA, zB, zC]
    refine wpAnyU_take (i := 12) (oi := { dst := some 84, op := Op.move (Operand.tmp 5), type := 75, pos := "journal.go:155", after := #[], guard := none }) (v := (.slice a5 q5 c5)) rfl (by kernel_rfl) (by kernel_rfl) (by kernel_rfl) (by kernel_rfl) (by kernel_rfl) (fun _ _ _ h => h) (⟨fun x h => ⟨BL.cell h HC1.out, BL.cell h HC5.out⟩, fun _ _ h hb => Below.next h hb⟩ : Cls (fun x => x.cell? ⟨gl, 1, none⟩ = some (.int .i64 (fr : Int)) ∧ x.cell? ⟨gl, 5, none⟩ = some (.int .i64 (fi : Int))) (BL wv)) ?_ ?_
    ·
     refine Or.inl ⟨rfl, fun w hSw => ?_⟩
     exact EffR.same (by go_simp)
    try simp only [Act.put, zA, zB, zC]
    refine wpAnyU_ready (rs := [13]) (by kernel_rfl) (by simp) ?_
    refine AllReadyU.cons (o := { dst := some 85, op := Op.call { callee := Callee.value (Operand.func 43), args := #[Operand.tmp 72, Operand.tmp 83, Operand.tmp 84], argTypes := #[30, 3, 75] }, type := 27, pos := "journal.go:155", after := #[{ on := 0, ground := Ground.data }, { on := 11, ground := Ground.data }, { on := 12, ground := Ground.data }], guard := none }) rfl (fun wA13 hA13 K hK => ?_) AllReadyU.nil
    have hKA : Kept Fd w wA13 := HKV.out.next hA13
    have hwr := write_any wA13 gl g n Fd D (HDV.out.below hA13) (fun w' hk => HGC.out w' (Kept.pre hA13 hk)) (fr + fi) (.slice a5 q5 c5) ALL H64.out (fun w' hk => HRB.out w' (Kept.pre hA13 hk)) (by rw [← HAL.out]; omega) (by rw [← HAL.out]; omega)
    rw [Int.natCast_add] at hwr
    go_simp
    refine hwr.mono ?_
    rintro e0 w3 ⟨he0, F2, hd3, hk3, hf3⟩
    rw [← HE.out] at he0
    rw [← HDN.out] at hd3
    subst he0
    clear hwr
    have HK3 : Hid (Kept Fd w w3) := hKA.trans hk3 (fun _ _ e => e)
    have HKN3 : Hid (Kept Fd wv w3) := Kept.pre hA13 hk3
    have hx3 := HT.keptJ HTL.out HK3.out (fun e => HDIS.out gl e HGL.out)
    have hc31 := hx3.cell (j := 1) rfl
    have hc35 := hx3.cell (j := 5) rfl
    have HF3 : Hid (∀ q, F2 q → Fd q ∨ wv.heap.size ≤ q) := fun q e => by
     rcases hf3 q e with e | e
     ·
      exact .inl e
     ·
      have := Below.size hA13; right; omega
    have HD3 := Lib.hid hd3
    refine hK.out _ _ (BL w3) (⟨fun x h => ⟨BL.cell h hc31, BL.cell h hc35⟩, fun _ _ h hb => Below.next h hb⟩ : Cls (fun x => x.cell? ⟨gl, 1, none⟩ = some (.int .i64 (fr : Int)) ∧ x.cell? ⟨gl, 5, none⟩ = some (.int .i64 (fi : Int))) (BL w3)) (Below.refl _ _) ?_
    clear hx3 hd3 hf3 hk3 hKA
    clear hK K
    try simp only [Act.put, zA, zB, zC]
    refine wpAnyU_take (i := 14) (oi := { dst := some 10, op := Op.assign (Operand.tmp 85), type := 27, pos := "journal.go:155", after := #[{ on := 13, ground := Ground.data }, { on := 13, ground := Ground.chain }, { on := 0, ground := Ground.phase }, { on := 1, ground := Ground.phase }, { on := 2, ground := Ground.phase }, { on := 3, ground := Ground.phase }, { on := 4, ground := Ground.phase }, { on := 5, ground := Ground.phase }, { on := 6, ground := Ground.phase }, { on := 7, ground := Ground.phase }, { on := 8, ground := Ground.phase }, { on := 9, ground := Ground.phase }, { on := 10, ground := Ground.phase }, { on := 11, ground := Ground.phase }, { on := 12, ground := Ground.phase }, { on := 13, ground := Ground.phase }], guard := none }) (v := (.int .i64 E)) rfl (by kernel_rfl) (by kernel_rfl) (by kernel_rfl) (by kernel_rfl) (by kernel_rfl) (fun _ _ _ h => h) (⟨fun x h => ⟨BL.cell h hc31, BL.cell h hc35⟩, fun _ _ h hb => Below.next h hb⟩ : Cls (fun x => x.cell? ⟨gl, 1, none⟩ = some (.int .i64 (fr : Int)) ∧ x.cell? ⟨gl, 5, none⟩ = some (.int .i64 (fi : Int))) (BL w3)) ?_ ?_
    ·
     refine Or.inl ⟨rfl, fun w hSw => ?_⟩
     exact EffR.same (by go_simp)
    try simp only [Act.put, zA, zB, zC]
    refine wpAnyU_done (by kernel_rfl) (fun w1 hb1 => ?_) _
    have HB3 := Lib.hid hb1
    have HKN4 := Lib.hid (HKN3.out.next hb1)
    have HD4 := Lib.hid (HD3.out.below hb1)
    have HK4 := Lib.hid (HK3.out.next hb1)
    clear hb1
    by_cases h0 : E = 0
    ·
     have h01 : ((E : Int) != 0) = false := by rw [h0]; rfl
     have H00 := Lib.hid h0
     clear h0
     have hT1 := HT.keptJ HTV.out HKN4.out (fun e => HDIS.out gl e HGL.out)
     have hx5 := hT1.cell (j := 5) rfl
     have hf5 := hT1.frozen 5
     have HT1 := Lib.hid hT1
     have HFLT : Hid (∀ q, Fl q → q < w.heap.size) := fun q e => HLX.out.lt q e
     have hfs : fi + q5 ≤ m := by omega
     have hKS : Kept (fun q => q = gl) w1 (w1.setCell ⟨gl, 5, none⟩ (.int .i64 ((fi : Int) + (q5 : Int)))) := (Kept.refl _ w1).setCell ⟨gl, 5, none⟩ _ rfl
     have HTS : Hid (HT (w1.setCell ⟨gl, 5, none⟩ (.int .i64 ((fi : Int) + (q5 : Int)))) gl 89 [.pointer (some ⟨g, 0, none⟩), .int .i64 (fr : Int), .int .i64 (ge : Int), .slice a1 n1 c1, .slice a2 nr c2, .int .i64 ((fi : Int) + (q5 : Int)), .bool true]) := hT1.put 5 (.int .i64 ((fi : Int) + (q5 : Int)))
     have hgF0 : ¬ F2 gl := fun e => by
      rcases HF3.out gl e with e | e
      ·
       exact HDIS.out gl e HGL.out
      ·
       have := HGLT.out; have := HBQ.out.size; omega
     have HDS := Lib.hid (HD4.out.kept hKS (fun q e1 e2 => hgF0 (by rw [← e2]; exact e1)))
     obtain ⟨hsn1, hsnF, vs0, q1, q2, q3, q4⟩ := (HHM.out.below HBQ.out).kept HKN4.out (fun q e1 e2 => HDIS.out q e2 e1)
     have HSN2 := Lib.hid (OwnB.keptL hsn1 hT1 (by decide) hKS)
     have HSNF := Lib.hid hsnF
     have HO2 := Lib.hid (OwnR.keptL q2 hT1 (by decide) hKS)
     have HB0 : Hid (∀ x, (Value.slice a2 nr c2).ownBlock = some x → Fl x ∨ w1.heap.size ≤ x) := fun x e => .inl (q3 x e)
     have HVS0 : Hid (vs0.length = nr) := by show _ = _; rw [q1, HNR.out]
     have HA0 : Hid (∀ i (h1 : i < vs0.length) (h2 : i < (rc ++ rs.take 0).length), OwnB 5 (w1.setCell ⟨gl, 5, none⟩ (.int .i64 ((fi : Int) + (q5 : Int)))) 0 vs0[i].v (rc ++ rs.take 0)[i] ∧ ∀ q, vs0[i].v.ownBlock = some q → Fl q ∨ w1.heap.size ≤ q) := fun i h1 h2 => by
      have h3 : i < rc.length := by rw [← HNR.out, ← HVS0.out]; exact h1
      have h9 := q4 i h1 h3
      have e9 : (rc ++ rs.take 0)[i] = rc[i] := by simp
      rw [e9]
      exact ⟨OwnB.keptL h9.1 hT1 (by decide) hKS, fun q e => .inl (h9.2 q e)⟩
     clear hsn1 hsnF q1 q2 q3 q4
     have HKS : Hid (Kept (fun k => Fd k ∨ Fl k) w (w1.setCell ⟨gl, 5, none⟩ (.int .i64 ((fi : Int) + (q5 : Int))))) := ((Kept.pre HBQ.out HKN4.out).weaken (fun q e => .inl e)).trans hKS (fun i _ e => by rw [e]; exact .inr HGL.out)
     have HSZ1 : Hid (w.heap.size ≤ w1.heap.size) := Nat.le_trans HBQ.out.size HKN4.out.size
     have HSZS : Hid (w1.heap.size ≤ (w1.setCell ⟨gl, 5, none⟩ (.int .i64 ((fi : Int) + (q5 : Int)))).heap.size) := hKS.size
     clear hT1 hKS hgF0
     go_wp2_with fail
     clear hx5 hf5
     generalize (w1.setCell ⟨gl, 5, none⟩ (.int .i64 ((fi : Int) + (q5 : Int)))) = wS at HTS HDS HSN2 HO2 HA0 HKS HSZS ⊢
     go_loopw [102] (fun i wr => ∃ (k2 : Nat) (vs : List SV) (a : Option Addr) (q c : Nat), k2 ≤ k ∧ i = .int .i64 k2 ∧ HT wr gl 89 [.pointer (some ⟨g, 0, none⟩), .int .i64 (fr : Int), .int .i64 (ge : Int), .slice a1 n1 c1, .slice a q c, .int .i64 ((fi : Int) + (q5 : Int)), .bool true] ∧ OwnR encS 1 22 wr 0 (.slice a q c) vs ∧ vs.length = nr + k2 ∧ (∀ x, (Value.slice a q c).ownBlock = some x → Fl x ∨ w1.heap.size ≤ x) ∧ Hid (∀ i (h1 : i < vs.length) (h2 : i < (rc ++ rs.take k2).length), OwnB 5 wr 0 vs[i].v (rc ++ rs.take k2)[i] ∧ ∀ q, vs[i].v.ownBlock = some q → Fl q ∨ w1.heap.size ≤ q) ∧ OwnB 5 wr 0 (.slice a1 n1 c1) sn ∧ DX wr g F2 n Dn ∧ Kept (fun k => Fd k ∨ Fl k) w wr ∧ w1.heap.size ≤ wr.heap.size) (fun i _ => k - (intOf i).toNat)
     case atStart => exact ⟨0, vs0, a2, nr, c2, Nat.zero_le _, rfl, HTS.out, HO2.out, HVS0.out, HB0.out, HA0.out, HSN2.out, HDS.out, HKS.out, HSZS.out⟩
     case round =>
      clear HTS HDS HSN2 HO2 HA0 HKS HSZS HB0 HVS0 wS vs0
      obtain ⟨k2, vs, a, q, c, hk2, rfl, htr, hos, hvs, hob, HALS, hsnp, hdr, hkr, hszr⟩ := hrel
      have HTR := Lib.hid htr
      have HOS := Lib.hid hos
      have HVS := Lib.hid hvs
      have HOB := Lib.hid hob
      have HSNP := Lib.hid hsnp
      have HDR := Lib.hid hdr
      have HKR := Lib.hid hkr
      have HSZR := Lib.hid hszr
      clear htr hos hvs hob hsnp hdr hkr hszr
      by_cases hlt2 : k2 < k
      ·
       have hkl : k2 < rs.length := by have := HN.out; omega
       obtain ⟨bk, off, rfl, hcx⟩ := Bss.at1 (HRS.out wr HKR.out) (by omega)
       obtain ⟨⟨s1, s2, s3⟩, hs, hbs⟩ := hcx k2 hkl
       have hcell : wr.cell? ⟨bk, off + k2, none⟩ = some (.slice s1 s2 s3) := hs
       obtain ⟨r, hr⟩ : ∃ z, z = rs[k2] := ⟨_, rfl⟩
       rw [← hr] at hbs
       have HR := Lib.hid hr
       have HRL : Hid (r.length ≤ 1000000) := by show _ ≤ _; have := HLE.out _ (List.getElem_mem hkl); rw [hr]; omega
       have HBR : Hid (Bs wr (.slice s1 s2 s3) r) := hbs
       have HL4 := Lib.hid (HTR.out.cell (j := 4) rfl)
       have hk0 : (0 : Int) ≤ k2 ∧ (k2 : Int) < k := by omega
       have hle5 : (vs.length + [((none, 0, 0) : SV)].length) * 24 ≤ 140737488355328 := by rw [HVS.out]; simp; omega
       clear hcx hs hbs hr
       go_upto_region 23 with fail
       refine wp_region_uni (S0 := (fun x => x.cell? ⟨gl, 4, none⟩ = some (.slice a q c))) (S := BL wr) 13 (by kernel_rfl) (Below.refl _ _).drew ?_
       refine wpAnyU_take (i := 0) (oi := { dst := some 106, op := Op.move (Operand.tmp 0), type := 30, pos := "journal.go:161", after := #[], guard := none }) (v := (.pointer (some ⟨gl, 0, none⟩))) rfl (by kernel_rfl) (by kernel_rfl) (by kernel_rfl) (by kernel_rfl) (by kernel_rfl) (fun _ _ _ h => h) (⟨fun x h => BL.cell h HL4.out, fun _ _ h hb => Below.next h hb⟩ : Cls (fun x => x.cell? ⟨gl, 4, none⟩ = some (.slice a q c)) (BL wr)) ?_ ?_
       ·
        refine Or.inl ⟨rfl, fun w hSw => ?_⟩
        exact EffR.same (by go_simp)
       try simp only [Act.put, zA, zB, zC]
       refine wpAnyU_take (i := 1) (oi := { dst := some 107, op := Op.move (Operand.tmp 0), type := 30, pos := "journal.go:161", after := #[], guard := none }) (v := (.pointer (some ⟨gl, 0, none⟩))) rfl (by kernel_rfl) (by kernel_rfl) (by kernel_rfl) (by kernel_rfl) (by kernel_rfl) (fun _ _ _ h => h) (⟨fun x h => BL.cell h HL4.out, fun _ _ h hb => Below.next h hb⟩ : Cls (fun x => x.cell? ⟨gl, 4, none⟩ = some (.slice a q c)) (BL wr)) ?_ ?_
       ·
        refine Or.inl ⟨rfl, fun w hSw => ?_⟩
        exact EffR.same (by go_simp)
       try simp only [Act.put, zA, zB, zC]
       refine wpAnyU_take (i := 2) (oi := { dst := some 108, op := Op.nilCheck (Operand.tmp 107), type := 0, pos := "journal.go:161", after := #[{ on := 1, ground := Ground.data }], guard := none }) (v := (.pointer (some ⟨gl, 0, none⟩))) rfl (by kernel_rfl) (by kernel_rfl) (by kernel_rfl) (by kernel_rfl) (by kernel_rfl) (fun _ _ _ h => h) (⟨fun x h => BL.cell h HL4.out, fun _ _ h hb => Below.next h hb⟩ : Cls (fun x => x.cell? ⟨gl, 4, none⟩ = some (.slice a q c)) (BL wr)) ?_ ?_
       ·
        refine Or.inl ⟨rfl, fun w hSw => ?_⟩
        exact EffR.same (by go_simp)
       try simp only [Act.put, zA, zB, zC]
       refine wpAnyU_take (i := 3) (oi := { dst := some 109, op := Op.fieldAddr 89 (Operand.tmp 108) 1, type := 0, pos := "journal.go:161", after := #[{ on := 2, ground := Ground.data }], guard := none }) (v := (.pointer (some ⟨gl, 1, none⟩))) rfl (by kernel_rfl) (by kernel_rfl) (by kernel_rfl) (by kernel_rfl) (by kernel_rfl) (fun _ _ _ h => h) (⟨fun x h => BL.cell h HL4.out, fun _ _ h hb => Below.next h hb⟩ : Cls (fun x => x.cell? ⟨gl, 4, none⟩ = some (.slice a q c)) (BL wr)) ?_ ?_
       ·
        refine Or.inl ⟨rfl, fun w hSw => ?_⟩
        exact EffR.same (by go_simp)
       try simp only [Act.put, zA, zB, zC]
       refine wpAnyU_take (i := 4) (oi := { dst := some 110, op := Op.fieldAddr 84 (Operand.tmp 109) 3, type := 0, pos := "journal.go:161", after := #[{ on := 3, ground := Ground.data }], guard := none }) (v := (.pointer (some ⟨gl, 4, none⟩))) rfl (by kernel_rfl) (by kernel_rfl) (by kernel_rfl) (by kernel_rfl) (by kernel_rfl) (fun _ _ _ h => h) (⟨fun x h => BL.cell h HL4.out, fun _ _ h hb => Below.next h hb⟩ : Cls (fun x => x.cell? ⟨gl, 4, none⟩ = some (.slice a q c)) (BL wr)) ?_ ?_
       ·
        refine Or.inl ⟨rfl, fun w hSw => ?_⟩
        exact EffR.same (by go_simp)
       try simp only [Act.put, zA, zB, zC]
       refine wpAnyU_take (i := 5) (oi := { dst := some 111, op := Op.load 23 (Operand.tmp 110), type := 23, pos := "journal.go:161", after := #[{ on := 4, ground := Ground.data }], guard := none }) (v := (.slice a q c)) rfl (by kernel_rfl) (by kernel_rfl) (by kernel_rfl) (by kernel_rfl) (by kernel_rfl) (fun _ _ _ h => h) (⟨fun x h => BL.cell h HL4.out, fun _ _ h hb => Below.next h hb⟩ : Cls (fun x => x.cell? ⟨gl, 4, none⟩ = some (.slice a q c)) (BL wr)) ?_ ?_
       ·
        refine Or.inl ⟨rfl, fun w hSw => ?_⟩
        have e0 := hSw
        exact EffR.same (by go_simp)
       try simp only [Act.put, zA, zB, zC]
       refine wpAnyU_take (i := 6) (oi := { dst := some 112, op := Op.move (Operand.tmp 12), type := 22, pos := "journal.go:161", after := #[], guard := none }) (v := (.slice s1 s2 s3)) rfl (by kernel_rfl) (by kernel_rfl) (by kernel_rfl) (by kernel_rfl) (by kernel_rfl) (fun _ _ _ h => h) (⟨fun x h => BL.cell h HL4.out, fun _ _ h hb => Below.next h hb⟩ : Cls (fun x => x.cell? ⟨gl, 4, none⟩ = some (.slice a q c)) (BL wr)) ?_ ?_
       ·
        refine Or.inl ⟨rfl, fun w hSw => ?_⟩
        exact EffR.same (by go_simp)
       try simp only [Act.put, zA, zB, zC]
       refine wpAnyU_ready (rs := [7]) (by kernel_rfl) (by simp) ?_
       refine AllReadyU.cons (o := { dst := some 113, op := Op.call { callee := Callee.value (Operand.func 45), args := #[Operand.tmp 112], argTypes := #[22] }, type := 22, pos := "journal.go:161", after := #[{ on := 6, ground := Ground.data }], guard := none }) rfl (fun wA7 hA7 K hK => ?_) AllReadyU.nil
       have hcl := BClone_any wA7 (.slice s1 s2 s3) r (Bs.mono HBR.out hA7) HRL.out
       go_simp
       refine hcl.mono ?_
       rintro e0 w5 ⟨v5, rfl, hv5, hb5⟩
       obtain ⟨p1, p2, p3, rfl, _, hv6⟩ := hv5.named
       refine hK.out _ _ (fun x => BL wr x ∧ OwnB 5 x wr.heap.size (.slice p1 p2 p3) r) (⟨fun x h => BL.cell h.1 HL4.out, fun _ _ h hb => ⟨Below.next h.1 hb, OwnB.below h.2 hb⟩⟩ : Cls (fun x => x.cell? ⟨gl, 4, none⟩ = some (.slice a q c)) (fun x => BL wr x ∧ OwnB 5 x wr.heap.size (.slice p1 p2 p3) r)) ⟨Below.next hA7 hb5, hv6.base (Below.size hA7)⟩ ?_
       clear hcl hv5 hv6 hb5
       clear hK K
       try simp only [Act.put, zA, zB, zC]
       refine wpAnyU_ready (rs := [8]) (by kernel_rfl) (by simp) ?_
       refine AllReadyU.cons (o := { dst := some 114, op := Op.buildSlice 23 1 #[(0, Operand.tmp 113)], type := 23, pos := "journal.go:161", after := #[{ on := 7, ground := Ground.data }], guard := none }) rfl (fun wA8 hA8 K hK => ?_) AllReadyU.nil
       go_simp
       have hbx : Below wA8.heap.size wA8 (wA8.alloc (.cells #[.slice p1 p2 p3] 22)) := (Below.refl _ _).alloc (Nat.le_refl _) _
       have hone : Rs encS 1 (wA8.alloc (.cells #[.slice p1 p2 p3] 22)) (.slice (some ⟨wA8.heap.size, 0, none⟩) 1 1) [((p1, p2, p3) : SV)] := Rs.one encS_len wA8 ((p1, p2, p3) : SV) 22
       obtain ⟨gx, hgx⟩ : ∃ gx, gx = wA8.heap.size := ⟨_, rfl⟩
       rw [← hgx] at hone ⊢
       refine hK.out _ _ (fun x => BL wr x ∧ OwnB 5 x wr.heap.size (.slice p1 p2 p3) r ∧ Rs encS 1 x (.slice (some ⟨gx, 0, none⟩) 1 1) [((p1, p2, p3) : SV)]) (⟨fun x h => BL.cell h.1 HL4.out, fun _ _ h hb => ⟨Below.next h.1 hb, OwnB.below h.2.1 hb, Rs.mono h.2.2 hb⟩⟩ : Cls (fun x => x.cell? ⟨gl, 4, none⟩ = some (.slice a q c)) (fun x => BL wr x ∧ OwnB 5 x wr.heap.size (.slice p1 p2 p3) r ∧ Rs encS 1 x (.slice (some ⟨gx, 0, none⟩) 1 1) [((p1, p2, p3) : SV)])) ⟨Below.next hA8.1 hbx, OwnB.below hA8.2 hbx, hone⟩ ?_
       clear hgx hone hbx
       clear hK K
       try simp only [Act.put, zA, zB, zC]
       refine wpAnyU_ready (rs := [9]) (by kernel_rfl) (by simp) ?_
       refine AllReadyU.cons (o := { dst := some 115, op := Op.call { callee := Callee.builtin Builtin.append, args := #[Operand.tmp 111, Operand.tmp 114], argTypes := #[23, 23] }, type := 23, pos := "journal.go:161", after := #[{ on := 5, ground := Ground.data }, { on := 8, ground := Ground.data }, { on := 7, ground := Ground.chain }], guard := none }) rfl (fun wA9 hA9 K hK => ?_) AllReadyU.nil
       have ho5 := OwnR.below HOS.out hA9.1
       have hx5 := HT.below HTR.out hA9.1
       refine step_append_rows (v := .slice a q c) (vx := .slice (some ⟨gx, 0, none⟩) 1 1) rfl (.tmp 111) (.tmp 114) 23 rfl (L := vs) (M := [((p1, p2, p3) : SV)]) (base := 0) elem_s rfl rfl ho5 hA9.2.2 encS_one hle5 (by decide) (Nat.zero_le _) ?_
       intro a9 n9 c9 w9 Hn9 ho9 hg9 hat9 _
       have hty : ∀ k, (Value.slice a q c).ownBlock = some k → ∃ cur fr, wA9.heap[k]? = some (.cells cur 22 fr) := fun k hk => ownsRow_type ho5.2 hk
       have hx9 := HT.grownApart hx5 hg9 hty (by decide)
       have hp9 := OwnB.grownApart (OwnB.below HSNP.out hA9.1) hg9 hty (by decide)
       have hv9 := OwnB.grownApart hA9.2.1 hg9 hty (by decide)
       have HAL9 : Hid (∀ i (h1 : i < vs.length) (h2 : i < (rc ++ rs.take k2).length), OwnB 5 w9 0 vs[i].v (rc ++ rs.take k2)[i]) := fun i h1 h2 => OwnB.grownApart (OwnB.below (HALS.out i h1 h2).1 hA9.1) hg9 hty (by decide)
       have hkg := Kept.of_grown hg9
       have hd9 := (HDR.out.below hA9.1).kept hkg (fun q e1 e2 => by
        rcases HOB.out q e2 with e | e
        ·
         rcases HF3.out q e1 with e3 | e3
         ·
          exact HDIS.out q e3 e
         ·
          have := HFLT.out q e; have := HBQ.out.size; omega
        ·
         have := HD4.out.lt q e1; omega)
       have HK9 : Hid (Kept (fun k => Fd k ∨ Fl k) w w9) := (HKR.out.next hA9.1).trans hkg (fun i hi e => by
        rcases HOB.out i e with e | e
        ·
         exact .inr e
        ·
         have := HSZ1.out; omega)
       have HOB9 : Hid (∀ q, (Value.slice a9 n9 c9).ownBlock = some q → Fl q ∨ w1.heap.size ≤ q) := fun q hq => by
        rcases hat9.out with e | e
        ·
         rw [e] at hq; exact HOB.out q hq
        ·
         rw [e] at hq
         cases hq
         right; have := HSZR.out; have := Below.size hA9.1; omega
       have HPB : Hid (∀ q, (Value.slice p1 p2 p3).ownBlock = some q → Fl q ∨ w1.heap.size ≤ q) := fun q hq => by
        have := OwnB.ge hA9.2.1 q hq
        right; have := HSZR.out; omega
       have hs9 : w1.heap.size ≤ w9.heap.size := Nat.le_trans HSZR.out (Nat.le_trans (Below.size hA9.1) hkg.size)
       have y4 := hx9.cell (j := 4) rfl
       have HX9 := Lib.hid hx9
       have HP9 := Lib.hid hp9
       have HV9 := Lib.hid hv9
       have HO9 := Lib.hid ho9
       have HD9 := Lib.hid hd9
       refine hK.out _ _ (BL w9) (⟨fun x h => BL.cell h y4, fun _ _ h hb => Below.next h hb⟩ : Cls (fun x => x.cell? ⟨gl, 4, none⟩ = some (.slice a q c)) (BL w9)) (Below.refl _ _) ?_
       clear ho5 hx5 hty hx9 hp9 hv9 ho9 hg9 hkg hd9 hat9
       clear hK K
       try simp only [Act.put, zA, zB, zC]
       refine wpAnyU_take (i := 10) (oi := { dst := some 116, op := Op.nilCheck (Operand.tmp 106), type := 0, pos := "journal.go:161", after := #[{ on := 0, ground := Ground.data }, { on := 0, ground := Ground.phase }, { on := 1, ground := Ground.phase }, { on := 2, ground := Ground.phase }, { on := 3, ground := Ground.phase }, { on := 4, ground := Ground.phase }, { on := 5, ground := Ground.phase }, { on := 6, ground := Ground.phase }, { on := 7, ground := Ground.phase }, { on := 8, ground := Ground.phase }, { on := 9, ground := Ground.phase }], guard := none }) (v := (.pointer (some ⟨gl, 0, none⟩))) rfl (by kernel_rfl) (by kernel_rfl) (by kernel_rfl) (by kernel_rfl) (by kernel_rfl) (fun _ _ _ h => h) (⟨fun x h => BL.cell h y4, fun _ _ h hb => Below.next h hb⟩ : Cls (fun x => x.cell? ⟨gl, 4, none⟩ = some (.slice a q c)) (BL w9)) ?_ ?_
       ·
        refine Or.inl ⟨rfl, fun w hSw => ?_⟩
        exact EffR.same (by go_simp)
       try simp only [Act.put, zA, zB, zC]
       refine wpAnyU_take (i := 11) (oi := { dst := some 117, op := Op.fieldAddr 89 (Operand.tmp 116) 1, type := 0, pos := "journal.go:161", after := #[{ on := 10, ground := Ground.data }, { on := 0, ground := Ground.phase }, { on := 1, ground := Ground.phase }, { on := 2, ground := Ground.phase }, { on := 3, ground := Ground.phase }, { on := 4, ground := Ground.phase }, { on := 5, ground := Ground.phase }, { on := 6, ground := Ground.phase }, { on := 7, ground := Ground.phase }, { on := 8, ground := Ground.phase }, { on := 9, ground := Ground.phase }], guard := none }) (v := (.pointer (some ⟨gl, 1, none⟩))) rfl (by kernel_rfl) (by kernel_rfl) (by kernel_rfl) (by kernel_rfl) (by kernel_rfl) (fun _ _ _ h => h) (⟨fun x h => BL.cell h y4, fun _ _ h hb => Below.next h hb⟩ : Cls (fun x => x.cell? ⟨gl, 4, none⟩ = some (.slice a q c)) (BL w9)) ?_ ?_
       ·
        refine Or.inl ⟨rfl, fun w hSw => ?_⟩
        exact EffR.same (by go_simp)
       try simp only [Act.put, zA, zB, zC]
       refine wpAnyU_take (i := 12) (oi := { dst := some 118, op := Op.fieldAddr 84 (Operand.tmp 117) 3, type := 0, pos := "journal.go:161", after := #[{ on := 11, ground := Ground.data }, { on := 0, ground := Ground.phase }, { on := 1, ground := Ground.phase }, { on := 2, ground := Ground.phase }, { on := 3, ground := Ground.phase }, { on := 4, ground := Ground.phase }, { on := 5, ground := Ground.phase }, { on := 6, ground := Ground.phase }, { on := 7, ground := Ground.phase }, { on := 8, ground := Ground.phase }, { on := 9, ground := Ground.phase }], guard := none }) (v := (.pointer (some ⟨gl, 4, none⟩))) rfl (by kernel_rfl) (by kernel_rfl) (by kernel_rfl) (by kernel_rfl) (by kernel_rfl) (fun _ _ _ h => h) (⟨fun x h => BL.cell h y4, fun _ _ h hb => Below.next h hb⟩ : Cls (fun x => x.cell? ⟨gl, 4, none⟩ = some (.slice a q c)) (BL w9)) ?_ ?_
       ·
        refine Or.inl ⟨rfl, fun w hSw => ?_⟩
        exact EffR.same (by go_simp)
       try simp only [Act.put, zA, zB, zC]
       refine wpAnyU_last (o := { dst := none, op := Op.store 23 (Operand.tmp 118) (Operand.tmp 115), type := 0, pos := "journal.go:161", after := #[{ on := 12, ground := Ground.data }, { on := 9, ground := Ground.data }, { on := 9, ground := Ground.chain }, { on := 0, ground := Ground.phase }, { on := 1, ground := Ground.phase }, { on := 2, ground := Ground.phase }, { on := 3, ground := Ground.phase }, { on := 4, ground := Ground.phase }, { on := 5, ground := Ground.phase }, { on := 6, ground := Ground.phase }, { on := 7, ground := Ground.phase }, { on := 8, ground := Ground.phase }, { on := 9, ground := Ground.phase }], guard := none }) (by kernel_rfl) (by kernel_rfl) rfl (fun w1x hb1 K hK => ?_)
       have hxF := HT.below HX9.out hb1
       have c4 := hxF.cell (j := 4) rfl
       have f4 := hxF.frozen 4
       have HXF : Hid (HT (w1x.setCell ⟨gl, 4, none⟩ (.slice a9 n9 c9)) gl 89 [.pointer (some ⟨g, 0, none⟩), .int .i64 (fr : Int), .int .i64 (ge : Int), .slice a1 n1 c1, .slice a9 n9 c9, .int .i64 ((fi : Int) + (q5 : Int)), .bool true]) := hxF.put 4 (.slice a9 n9 c9)
       have HKF := Lib.hid (Kept.pre hb1 ((Kept.refl (fun q => q = gl) w1x).setCell ⟨gl, 4, none⟩ (.slice a9 n9 c9) rfl))
       clear hxF
       go_simp
       refine hK.out _ _ ?_
       clear hK K
       try simp only [Act.put]
       clear c4 f4
       obtain ⟨wF, hwF⟩ : ∃ z, z = w1x.setCell ⟨gl, 4, none⟩ (.slice a9 n9 c9) := ⟨_, rfl⟩
       rw [← hwF] at HXF HKF ⊢
       clear hwF hb1
       go_wp2_with fail
       have hgF : ¬ F2 gl := fun e => by
        rcases HF3.out gl e with e | e
        ·
         exact HDIS.out gl e HGL.out
        ·
         have := HGLT.out; have := HBQ.out.size; omega
       refine ⟨⟨k2 + 1, vs ++ [((p1, p2, p3) : SV)], a9, n9, c9, by omega, by push_cast; rfl, HXF.out, ?_, ?_, HOB9.out, ?_, ?_, ?_, ?_, Nat.le_trans hs9 HKF.out.size⟩, by simp [intOf]; omega⟩
       ·
        exact OwnR.keptL HO9.out HX9.out (by decide) HKF.out
       ·
        rw [List.length_append, HVS.out, List.length_singleton]; omega
       ·
        have hz : (rc ++ rs.take (k2 + 1)) = (rc ++ rs.take k2) ++ [r] := by rw [take_snoc rs k2 hkl, ← HR.out, List.append_assoc]
        rw [hz]
        have hln : vs.length = (rc ++ rs.take k2).length := by rw [HVS.out, List.length_append, List.length_take, HNR.out]; omega
        intro i h1 h2
        refine ⟨recs_snoc hln (fun i h1 h2 => OwnB.keptL (HAL9.out i h1 h2) HX9.out (by decide) HKF.out) (OwnB.keptL (HV9.out.base (Nat.zero_le _)) HX9.out (by decide) HKF.out) i h1 h2, ?_⟩
        by_cases hi : i < vs.length
        ·
         have e1 : (vs ++ [((p1, p2, p3) : SV)])[i] = vs[i] := List.getElem_append_left hi
         rw [e1]
         exact (HALS.out i hi (by omega)).2
        ·
         have hiv : i = vs.length := by simp at h1; omega
         subst hiv
         have e1 : (vs ++ [((p1, p2, p3) : SV)])[vs.length] = ((p1, p2, p3) : SV) := by simp
         rw [e1]
         exact HPB.out
       ·
        exact OwnB.keptL HP9.out HX9.out (by decide) HKF.out
       ·
        exact HD9.out.kept HKF.out (fun q e1 e2 => hgF (by rw [← e2]; exact e1))
       ·
        exact HK9.out.trans HKF.out (fun i _ e => by rw [e]; exact .inr HGL.out)
      ·
       obtain rfl : k2 = k := by omega
       go_wp2_with fail
       go_ret
       have hres : appR n D (LT.mk fr ⟨ge, sn, rc, fi⟩ true) rs = (0, Dn, LT.mk fr ⟨ge, sn, rc ++ rs, fi + ALL.length⟩ true) := by
        unfold appR
        rw [if_neg (by rw [← HALL.out, ← HAL.out, ← HM.out]; show ¬ m < fi + q5; omega), ← HALL.out, if_pos (by rw [← HE.out]; exact H00.out), ← HDN.out]
       unfold AppPost
       rw [hres]
       refine ⟨rfl, F2, fun x => (Fl x ∨ w1.heap.size ≤ x) ∧ x < wr.heap.size, HDR.out, ⟨.slice a1 n1 c1, .slice a q c, ?_, ⟨HSNP.out, fun x e => ⟨.inl (HSNF.out x e), OwnB.lt HSNP.out x e⟩, vs, ?_, HOS.out, fun x e => ⟨HOB.out x e, OwnR.lt HOS.out x e⟩, fun i h1 h2 => ?_⟩, ⟨.inl HGL.out, HTR.out.lt⟩, fun x e => e.2⟩, fun x e1 e2 => ?_, HKR.out, fun x e => ?_⟩
       ·
        rw [← HAL.out]
        exact HTR.out
       ·
        rw [HVS.out, HNR.out, List.length_append, HN.out]
       ·
        have hz : rs.take k2 = rs := List.take_of_length_le (by have := HN.out; omega)
        have h9 := HALS.out i h1 (by rw [hz]; exact h2)
        have e9 : (rc ++ rs.take k2)[i]'(by rw [hz]; exact h2) = (rc ++ rs)[i] := by congr 1; rw [hz]
        rw [e9] at h9
        exact ⟨h9.1, fun x e => ⟨h9.2 x e, OwnB.lt h9.1 x e⟩⟩
       ·
        rcases e2.1 with e3 | e3
        ·
         rcases HF3.out x e1 with e4 | e4
         ·
          exact HDIS.out x e4 e3
         ·
          have := HFLT.out x e3; have := HBQ.out.size; omega
        ·
         have := HD4.out.lt x e1; omega
       ·
        have := HSZ1.out
        have := HBQ.out.size
        rcases e with e | e
        ·
         rcases HF3.out x e with e4 | e4
         ·
          exact .inl e4
         ·
          right; right; omega
        ·
         rcases e.1 with e | e
         ·
          exact .inr (.inl e)
         ·
          right; right; omega
    ·
     have h01 : ((E : Int) != 0) = true := by rw [bne_iff_ne]; exact h0
     have H00 := Lib.hid h0
     clear h0
     go_wp2_with fail
     go_ret
     have hres : appR n D (LT.mk fr ⟨ge, sn, rc, fi⟩ true) rs = (E, Dn, LT.mk fr ⟨ge, sn, rc, fi⟩ true) := by
      unfold appR
      rw [if_neg (by rw [← HALL.out, ← HAL.out, ← HM.out]; show ¬ m < fi + q5; omega), ← HALL.out, if_neg (by rw [← HE.out]; exact H00.out), ← HE.out, ← HDN.out]
     unfold AppPost
     rw [hres]
     exact ⟨rfl, JPost.quit (wb := wv) HLX.out HD4.out HBQ.out HKN4.out HF3.out HDIS.out⟩
end Cam
