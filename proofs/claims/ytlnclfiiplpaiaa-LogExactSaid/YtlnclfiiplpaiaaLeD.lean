import Derived.Test.YtlnclfiiplpaiaaLeC
/- LogExact: same. -/
namespace Cam
open Go Go.RowKit Go.Proofs
theorem recsM.named3 {w : World} {F : Nat → Prop} {v : Value} {R : List (List UInt8)} (h : recsM w F v R) : ∃ a n c, v = .slice a n c ∧ recsM w F (.slice a n c) R := by
 obtain ⟨a, n, c, rfl, _, h2⟩ := h.named
 exact ⟨a, n, c, rfl, h2⟩
theorem L5.lx {F : Nat → Prop} {w : World} {g gl q rl n : Nat} {D1 D2 : DK} {T1 T2 : LT} (h : L5 F w g gl q rl n D1 T1 D2 T2) : ∃ Fl, LX w gl Fl g T1 := by
 obtain ⟨Fa, Fb, ⟨Fd, Fl, h1, h2, _⟩, _⟩ := h
 exact ⟨Fl, h2⟩
theorem L5.dx {F : Nat → Prop} {w : World} {g gl q rl n : Nat} {D1 D2 : DK} {T1 T2 : LT} (h : L5 F w g gl q rl n D1 T1 D2 T2) : ∃ Fd, DX w g Fd n D1 := by
 obtain ⟨Fa, Fb, ⟨Fd, Fl, h1, h2, _⟩, _⟩ := h
 exact ⟨Fd, h1⟩
theorem L5.pm {F : Nat → Prop} {w : World} {g gl q rl n : Nat} {D1 D2 : DK} {T1 T2 : LT} (h : L5 F w g gl q rl n D1 T1 D2 T2) : ∃ gs vo, PMem w q gs vo n D2 := by
 obtain ⟨Fa, Fb, _, ⟨Pd, Pl, hf, ⟨gs, vo, h1, _⟩, _⟩, _⟩ := h
 exact ⟨gs, vo, h1⟩
theorem pread_on (w : World) (q n : Nat) (D : DK) (h : ∃ gs vo, PMem w q gs vo n D) (hfull : D.now = sets D.syn D.op) (hoff : D.off = false) (k : Nat) (hk : k < n) (b : List UInt8) (hb : D.now[k]? = some b) :
  Calls Try.prog 57 #[.pointer (some ⟨q, 0, none⟩), .int .i64 (k : Int)] w fun e w' => e = .returned (.tuple #[.agg (bvs b).toArray, .int .i64 0]) ∧ Below w.heap.size w w' := by
 obtain ⟨gs, vo, h⟩ := h
 refine (pread_any w q gs vo n D h hfull (k : Int)).mono ?_
 rintro e w' ⟨⟨b2, he, h1, _⟩, hb2⟩
 have h0 : dRight n D (k : Int) = 0 := by unfold dRight; rw [if_neg (by rw [hoff]; decide), if_neg (by omega)]
 have h2 := h1 h0
 rw [Int.toNat_natCast, hb] at h2
 rw [h0, ← Option.some.inj h2] at he
 exact ⟨he, hb2⟩
def SA (px g gl q rl n hf gs : Nat) (D : DK) (T : LT) (F Pl : Nat → Prop) (vsn vrc vo : Value) (x : World) : Prop := L5 F x g gl q rl n D T D T ∧ HT x px 71 (pcl (.pointer (some ⟨gl, 0, none⟩)) g (.pointer (some ⟨rl, 0, none⟩)) q) ∧ HT x rl 107 (plcells q hf vsn vrc T) ∧ halfM x Pl vsn vrc T.half ∧ HT x q 78 (pcells gs n vo D)
theorem SA.below {px g gl q rl n hf gs : Nat} {D : DK} {T : LT} {F Pl : Nat → Prop} {vsn vrc vo : Value} {x y : World} (h : SA px g gl q rl n hf gs D T F Pl vsn vrc vo x) (hb : Below x.heap.size x y) : SA px g gl q rl n hf gs D T F Pl vsn vrc vo y :=
 ⟨h.1.below hb, h.2.1.below hb, h.2.2.1.below hb, h.2.2.2.1.kept (Kept.of_below hb) (fun _ _ e => e), h.2.2.2.2.below hb⟩
theorem SA.cls {px g gl q rl n hf gs : Nat} {D : DK} {T : LT} {F Pl : Nat → Prop} {vsn vrc vo : Value} {w : World} (h : SA px g gl q rl n hf gs D T F Pl vsn vrc vo w) : Cls (SA px g gl q rl n hf gs D T F Pl vsn vrc vo) (BL w) := ⟨fun _ hx => h.below hx, fun _ _ h hb => Below.next h hb⟩
set_option maxRecDepth 100000 in
set_option maxHeartbeats 12800000 in
theorem same_any (F : Nat → Prop) (w : World) (px g gl q rl n kk : Nat) (D : DK) (T : LT) (h : L5 F w g gl q rl n D T D T) (hI : Inv n D T kk) (hk : kk ≤ 300) (hoff : D.off = false) (hx : HT w px 71 (pcl (.pointer (some ⟨gl, 0, none⟩)) g (.pointer (some ⟨rl, 0, none⟩)) q)) :
  Calls Try.prog 37 #[.pointer (some ⟨px, 0, none⟩)] w fun e w' => e = .returned (.bool true) ∧ Below w.heap.size w w' := by
 obtain ⟨hf, gs, Pl, a1, n1, c1, a2, n2, c2, aO, qO, cO, hsa, hqO⟩ : ∃ (hf gs : Nat) (Pl : Nat → Prop) (a1 : Option Addr) (n1 c1 : Nat) (a2 : Option Addr) (n2 c2 : Nat) (aO : Option Addr) (qO cO : Nat), (SA px g gl q rl n hf gs D T F Pl (.slice a1 n1 c1) (.slice a2 n2 c2) (.slice aO qO cO)) w ∧ qO = D.op.length := by
  obtain ⟨Fa, Fb, _, ⟨Pd, Pl, hf, ⟨gs, vo, h1, _⟩, ⟨vsn, vrc, h2, h3, _⟩, _⟩, _⟩ := id h
  obtain ⟨a1, n1, c1, a2, n2, c2, rfl, rfl, h3⟩ := h3.named
  obtain ⟨aO, qO, cO, rfl, _⟩ := h1.ho.named
  exact ⟨hf, gs, Pl, a1, n1, c1, a2, n2, c2, aO, qO, cO, ⟨h, hx, h2, h3, h1.hd⟩, h1.opAt.1⟩
 obtain ⟨SN, hSN⟩ : ∃ z, z = T.half.snap := ⟨_, rfl⟩
 obtain ⟨RC, hRC⟩ : ∃ z, z = T.half.recs := ⟨_, rfl⟩
 obtain ⟨G, hG⟩ : ∃ z, z = T.half.gen := ⟨_, rfl⟩
 obtain ⟨O, hO⟩ : ∃ z, z = D.off := ⟨_, rfl⟩
 have HSN := Lib.hid hSN
 have HRC := Lib.hid hRC
 have HG := Lib.hid hG
 have HOO := Lib.hid hO
 have HQO := Lib.hid hqO
 have HOFF := Lib.hid hoff
 have HFU := Lib.hid hI.full
 have HSNL : Hid (T.half.snap.length ≤ 1000000) := by show _ ≤ _; have := hI.snap; omega
 have HRLL : Hid (∀ r ∈ T.half.recs, r.length ≤ 1000000) := fun r hr => by have := hI.recs r hr; omega
 have HRNL : Hid (T.half.recs.length ≤ 1000000) := by show _ ≤ _; have := hI.num; omega
 have HRNB : Hid (RC.length ≤ 1000000) := by rw [hRC]; exact HRNL.out
 have hn34 : 4 ≤ n ∧ n ≤ 300 := ⟨hI.n4, hI.n3⟩
 have HNW : Hid (D.now.length = n) := h.now
 have HN64 : Hid (∀ b ∈ D.now, b.length = 64) := by
  obtain ⟨gs, vo, h9⟩ := h.pm
  exact h9.ok.now.2
 have HSA0 := Lib.hid hsa
 have HB0 : Hid (Below w.heap.size w w) := Below.refl _ _
 clear h hI hk hoff hx hsa hqO hSN hRC hG hO
 go_enter Try.func37, Try.ntmps37
 go_upto_region 1 with fail
 refine wp_region_uni (S0 := (SA px g gl q rl n hf gs D T F Pl (.slice a1 n1 c1) (.slice a2 n2 c2) (.slice aO qO cO))) (S := BL w) 12 (by kernel_rfl) (Below.refl _ _).drew ?_
 refine wpAnyU_take (i := 0) (oi := { dst := some 12, op := Op.move (Operand.tmp 0), type := 66, pos := "law.go:74", after := #[], guard := none }) (v := (.pointer (some ⟨px, 0, none⟩))) rfl (by kernel_rfl) (by kernel_rfl) (by kernel_rfl) (by kernel_rfl) (by kernel_rfl) (fun _ _ _ h => h) (HSA0.out.cls) ?_ ?_
 ·
  refine Or.inl ⟨rfl, fun w hSw => ?_⟩
  exact EffR.same (by go_simp)
 try simp only [Act.put, zA, zB, zC]
 refine wpAnyU_take (i := 1) (oi := { dst := some 13, op := Op.nilCheck (Operand.tmp 12), type := 0, pos := "law.go:74", after := #[{ on := 0, ground := Ground.data }], guard := none }) (v := (.pointer (some ⟨px, 0, none⟩))) rfl (by kernel_rfl) (by kernel_rfl) (by kernel_rfl) (by kernel_rfl) (by kernel_rfl) (fun _ _ _ h => h) (HSA0.out.cls) ?_ ?_
 ·
  refine Or.inl ⟨rfl, fun w hSw => ?_⟩
  exact EffR.same (by go_simp)
 try simp only [Act.put, zA, zB, zC]
 refine wpAnyU_take (i := 2) (oi := { dst := some 14, op := Op.fieldAddr 71 (Operand.tmp 13) 0, type := 0, pos := "law.go:74", after := #[{ on := 1, ground := Ground.data }], guard := none }) (v := (.pointer (some ⟨px, 0, none⟩))) rfl (by kernel_rfl) (by kernel_rfl) (by kernel_rfl) (by kernel_rfl) (by kernel_rfl) (fun _ _ _ h => h) (HSA0.out.cls) ?_ ?_
 ·
  refine Or.inl ⟨rfl, fun w hSw => ?_⟩
  exact EffR.same (by go_simp)
 try simp only [Act.put, zA, zB, zC]
 refine wpAnyU_take (i := 3) (oi := { dst := some 15, op := Op.load 30 (Operand.tmp 14), type := 30, pos := "law.go:74", after := #[{ on := 2, ground := Ground.data }], guard := none }) (v := (.pointer (some ⟨gl, 0, none⟩))) rfl (by kernel_rfl) (by kernel_rfl) (by kernel_rfl) (by kernel_rfl) (by kernel_rfl) (fun _ _ _ h => h) (HSA0.out.cls) ?_ ?_
 ·
  refine Or.inl ⟨rfl, fun w hSw => ?_⟩
  have e0 := hSw.2.1.cell (j := 0) rfl
  exact EffR.same (by go_simp)
 try simp only [Act.put, zA, zB, zC]
 refine wpAnyU_take (i := 5) (oi := { dst := some 17, op := Op.move (Operand.tmp 0), type := 66, pos := "law.go:74", after := #[], guard := none }) (v := (.pointer (some ⟨px, 0, none⟩))) rfl (by kernel_rfl) (by kernel_rfl) (by kernel_rfl) (by kernel_rfl) (by kernel_rfl) (fun _ _ _ h => h) (HSA0.out.cls) ?_ ?_
 ·
  refine Or.inl ⟨rfl, fun w hSw => ?_⟩
  exact EffR.same (by go_simp)
 try simp only [Act.put, zA, zB, zC]
 refine wpAnyU_take (i := 6) (oi := { dst := some 18, op := Op.nilCheck (Operand.tmp 17), type := 0, pos := "law.go:74", after := #[{ on := 5, ground := Ground.data }], guard := none }) (v := (.pointer (some ⟨px, 0, none⟩))) rfl (by kernel_rfl) (by kernel_rfl) (by kernel_rfl) (by kernel_rfl) (by kernel_rfl) (fun _ _ _ h => h) (HSA0.out.cls) ?_ ?_
 ·
  refine Or.inl ⟨rfl, fun w hSw => ?_⟩
  exact EffR.same (by go_simp)
 try simp only [Act.put, zA, zB, zC]
 refine wpAnyU_take (i := 7) (oi := { dst := some 19, op := Op.fieldAddr 71 (Operand.tmp 18) 0, type := 0, pos := "law.go:74", after := #[{ on := 6, ground := Ground.data }], guard := none }) (v := (.pointer (some ⟨px, 0, none⟩))) rfl (by kernel_rfl) (by kernel_rfl) (by kernel_rfl) (by kernel_rfl) (by kernel_rfl) (fun _ _ _ h => h) (HSA0.out.cls) ?_ ?_
 ·
  refine Or.inl ⟨rfl, fun w hSw => ?_⟩
  exact EffR.same (by go_simp)
 try simp only [Act.put, zA, zB, zC]
 refine wpAnyU_take (i := 8) (oi := { dst := some 20, op := Op.load 30 (Operand.tmp 19), type := 30, pos := "law.go:74", after := #[{ on := 7, ground := Ground.data }], guard := none }) (v := (.pointer (some ⟨gl, 0, none⟩))) rfl (by kernel_rfl) (by kernel_rfl) (by kernel_rfl) (by kernel_rfl) (by kernel_rfl) (fun _ _ _ h => h) (HSA0.out.cls) ?_ ?_
 ·
  refine Or.inl ⟨rfl, fun w hSw => ?_⟩
  have e0 := hSw.2.1.cell (j := 0) rfl
  exact EffR.same (by go_simp)
 try simp only [Act.put, zA, zB, zC]
 refine wpAnyU_ready (rs := [4]) (by kernel_rfl) (by simp) ?_
 refine AllReadyU.cons (o := { dst := some 16, op := Op.call { callee := Callee.value (Operand.func 24), args := #[Operand.tmp 15], argTypes := #[30] }, type := 22, pos := "law.go:74", after := #[{ on := 3, ground := Ground.data }], guard := none }) rfl (fun wA4 hA4 K hK => ?_) AllReadyU.nil
 obtain ⟨Fl, hlx⟩ := (HSA0.out.below hA4).1.lx
 have hs := Snap_any wA4 gl g Fl T hlx HSNL.out
 rw [← HSN.out] at hs
 go_simp
 refine hs.mono ?_
 clear hs hlx
 rintro e0 w1 ⟨v5, rfl, hv5, hb5⟩
 obtain ⟨p1, p2, p3, rfl, _, hv6⟩ := hv5.named
 have HSA1 := Lib.hid ((HSA0.out.below hA4).below hb5)
 have HB1 : Hid (Below w.heap.size w w1) := (HB0.out.next hA4).next hb5
 have HO1 : Hid (OwnB 5 w1 w.heap.size (.slice p1 p2 p3) SN) := hv6.base (HB0.out.next hA4).size
 refine hK.out _ _ (BL w1) (HSA1.out.cls) (Below.refl _ _) ?_
 clear hv5 hv6 hb5
 clear hK K
 try simp only [Act.put, zA, zB, zC]
 refine wpAnyU_ready (rs := [9]) (by kernel_rfl) (by simp) ?_
 refine AllReadyU.cons (o := { dst := some 21, op := Op.call { callee := Callee.value (Operand.func 19), args := #[Operand.tmp 20], argTypes := #[30] }, type := 23, pos := "law.go:74", after := #[{ on := 8, ground := Ground.data }, { on := 4, ground := Ground.chain }], guard := none }) rfl (fun wA9 hA9 K hK => ?_) AllReadyU.nil
 obtain ⟨Fl, hlx⟩ := (HSA1.out.below hA9).1.lx
 have hs := Recs_any wA9 gl g Fl T hlx HRLL.out HRNL.out
 rw [← HRC.out] at hs
 go_simp
 refine hs.mono ?_
 clear hs hlx
 rintro e0 w2 ⟨v5, rfl, hv5, hb5⟩
 obtain ⟨r1, r2, r3, rfl, hv6⟩ := hv5.named3
 have HSA2 := Lib.hid ((HSA1.out.below hA9).below hb5)
 have HB2 : Hid (Below w.heap.size w w2) := (HB1.out.next hA9).next hb5
 have hsz := (HB1.out.next hA9).size
 have HR2 : Hid (recsM w2 (fun k => w.heap.size ≤ k) (.slice r1 r2 r3) RC) := hv6.weaken (fun k e => Nat.le_trans hsz e)
 have HO2 := Lib.hid ((HO1.out.below hA9).below hb5)
 refine hK.out _ _ (BL w2) (HSA2.out.cls) (Below.refl _ _) ?_
 clear hv5 hv6 hb5 hsz
 clear hK K
 try simp only [Act.put, zA, zB, zC]
 refine wpAnyU_take (i := 10) (oi := { dst := some 3, op := Op.assign (Operand.tmp 16), type := 22, pos := "law.go:74", after := #[{ on := 4, ground := Ground.data }, { on := 9, ground := Ground.chain }, { on := 0, ground := Ground.phase }, { on := 1, ground := Ground.phase }, { on := 2, ground := Ground.phase }, { on := 3, ground := Ground.phase }, { on := 4, ground := Ground.phase }, { on := 5, ground := Ground.textOnly Departure.lateStores }, { on := 6, ground := Ground.textOnly Departure.lateStores }, { on := 7, ground := Ground.textOnly Departure.lateStores }, { on := 8, ground := Ground.textOnly Departure.lateStores }, { on := 9, ground := Ground.textOnly Departure.lateStoresUnsure }], guard := none }) (v := (.slice p1 p2 p3)) rfl (by kernel_rfl) (by kernel_rfl) (by kernel_rfl) (by kernel_rfl) (by kernel_rfl) (fun _ _ _ h => h) (HSA2.out.cls) ?_ ?_
 ·
  refine Or.inl ⟨rfl, fun w hSw => ?_⟩
  exact EffR.same (by go_simp)
 try simp only [Act.put, zA, zB, zC]
 refine wpAnyU_take (i := 11) (oi := { dst := some 4, op := Op.assign (Operand.tmp 21), type := 23, pos := "law.go:74", after := #[{ on := 9, ground := Ground.data }, { on := 10, ground := Ground.chain }, { on := 0, ground := Ground.phase }, { on := 1, ground := Ground.phase }, { on := 2, ground := Ground.phase }, { on := 3, ground := Ground.phase }, { on := 4, ground := Ground.phase }, { on := 5, ground := Ground.phase }, { on := 6, ground := Ground.phase }, { on := 7, ground := Ground.phase }, { on := 8, ground := Ground.phase }, { on := 9, ground := Ground.phase }, { on := 10, ground := Ground.phase }], guard := none }) (v := (.slice r1 r2 r3)) rfl (by kernel_rfl) (by kernel_rfl) (by kernel_rfl) (by kernel_rfl) (by kernel_rfl) (fun _ _ _ h => h) (HSA2.out.cls) ?_ ?_
 ·
  refine Or.inl ⟨rfl, fun w hSw => ?_⟩
  exact EffR.same (by go_simp)
 try simp only [Act.put, zA, zB, zC]
 refine wpAnyU_done (by kernel_rfl) (fun w1 hb1 => ?_) _
 have HSA3 := Lib.hid (HSA2.out.below hb1)
 have HB3 : Hid (Below w.heap.size w w1) := HB2.out.next hb1
 have HO3 := Lib.hid (HO2.out.below hb1)
 have HR3 := Lib.hid (HR2.out.below hb1)
 clear hb1
 obtain ⟨W, hW⟩ : ∃ z, z = w1 := ⟨_, rfl⟩
 have HSA : Hid ((SA px g gl q rl n hf gs D T F Pl (.slice a1 n1 c1) (.slice a2 n2 c2) (.slice aO qO cO)) W) := by rw [hW]; exact HSA3.out
 have HB : Hid (Below w.heap.size w W) := by rw [hW]; exact HB3.out
 have HO : Hid (OwnB 5 W w.heap.size (.slice p1 p2 p3) SN) := by rw [hW]; exact HO3.out
 have HR : Hid (recsM W (fun k => w.heap.size ≤ k) (.slice r1 r2 r3) RC) := by rw [hW]; exact HR3.out
 clear HSA3 HB3 HO3 HR3
 go_upto_region 2 with fail
 rw [← hW]
 clear hW
 refine wp_region_uni (S0 := (fun x => (SA px g gl q rl n hf gs D T F Pl (.slice a1 n1 c1) (.slice a2 n2 c2) (.slice aO qO cO)) x ∧ OwnB 5 x w.heap.size (.slice p1 p2 p3) SN ∧ recsM x (fun k => w.heap.size ≤ k) (.slice r1 r2 r3) RC)) (S := BL W) 36 (by kernel_rfl) (Below.refl _ _).drew ?_
 refine wpAnyU_take (i := 0) (oi := { dst := some 22, op := Op.move (Operand.tmp 0), type := 66, pos := "law.go:75", after := #[], guard := none }) (v := (.pointer (some ⟨px, 0, none⟩))) rfl (by kernel_rfl) (by kernel_rfl) (by kernel_rfl) (by kernel_rfl) (by kernel_rfl) (fun _ _ _ h => h) (⟨fun x h => ⟨HSA.out.below h, HO.out.below h, HR.out.below h⟩, fun _ _ h hb => Below.next h hb⟩ : Cls (fun x => (SA px g gl q rl n hf gs D T F Pl (.slice a1 n1 c1) (.slice a2 n2 c2) (.slice aO qO cO)) x ∧ OwnB 5 x w.heap.size (.slice p1 p2 p3) SN ∧ recsM x (fun k => w.heap.size ≤ k) (.slice r1 r2 r3) RC) (BL W)) ?_ ?_
 ·
  refine Or.inl ⟨rfl, fun w hSw => ?_⟩
  exact EffR.same (by go_simp)
 try simp only [Act.put, zA, zB, zC]
 refine wpAnyU_take (i := 1) (oi := { dst := some 23, op := Op.nilCheck (Operand.tmp 22), type := 0, pos := "law.go:75", after := #[{ on := 0, ground := Ground.data }], guard := none }) (v := (.pointer (some ⟨px, 0, none⟩))) rfl (by kernel_rfl) (by kernel_rfl) (by kernel_rfl) (by kernel_rfl) (by kernel_rfl) (fun _ _ _ h => h) (⟨fun x h => ⟨HSA.out.below h, HO.out.below h, HR.out.below h⟩, fun _ _ h hb => Below.next h hb⟩ : Cls (fun x => (SA px g gl q rl n hf gs D T F Pl (.slice a1 n1 c1) (.slice a2 n2 c2) (.slice aO qO cO)) x ∧ OwnB 5 x w.heap.size (.slice p1 p2 p3) SN ∧ recsM x (fun k => w.heap.size ≤ k) (.slice r1 r2 r3) RC) (BL W)) ?_ ?_
 ·
  refine Or.inl ⟨rfl, fun w hSw => ?_⟩
  exact EffR.same (by go_simp)
 try simp only [Act.put, zA, zB, zC]
 refine wpAnyU_take (i := 2) (oi := { dst := some 24, op := Op.fieldAddr 71 (Operand.tmp 23) 0, type := 0, pos := "law.go:75", after := #[{ on := 1, ground := Ground.data }], guard := none }) (v := (.pointer (some ⟨px, 0, none⟩))) rfl (by kernel_rfl) (by kernel_rfl) (by kernel_rfl) (by kernel_rfl) (by kernel_rfl) (fun _ _ _ h => h) (⟨fun x h => ⟨HSA.out.below h, HO.out.below h, HR.out.below h⟩, fun _ _ h hb => Below.next h hb⟩ : Cls (fun x => (SA px g gl q rl n hf gs D T F Pl (.slice a1 n1 c1) (.slice a2 n2 c2) (.slice aO qO cO)) x ∧ OwnB 5 x w.heap.size (.slice p1 p2 p3) SN ∧ recsM x (fun k => w.heap.size ≤ k) (.slice r1 r2 r3) RC) (BL W)) ?_ ?_
 ·
  refine Or.inl ⟨rfl, fun w hSw => ?_⟩
  exact EffR.same (by go_simp)
 try simp only [Act.put, zA, zB, zC]
 refine wpAnyU_take (i := 3) (oi := { dst := some 25, op := Op.load 30 (Operand.tmp 24), type := 30, pos := "law.go:75", after := #[{ on := 2, ground := Ground.data }], guard := none }) (v := (.pointer (some ⟨gl, 0, none⟩))) rfl (by kernel_rfl) (by kernel_rfl) (by kernel_rfl) (by kernel_rfl) (by kernel_rfl) (fun _ _ _ h => h) (⟨fun x h => ⟨HSA.out.below h, HO.out.below h, HR.out.below h⟩, fun _ _ h hb => Below.next h hb⟩ : Cls (fun x => (SA px g gl q rl n hf gs D T F Pl (.slice a1 n1 c1) (.slice a2 n2 c2) (.slice aO qO cO)) x ∧ OwnB 5 x w.heap.size (.slice p1 p2 p3) SN ∧ recsM x (fun k => w.heap.size ≤ k) (.slice r1 r2 r3) RC) (BL W)) ?_ ?_
 ·
  refine Or.inl ⟨rfl, fun w hSw => ?_⟩
  have e0 := hSw.1.2.1.cell (j := 0) rfl
  exact EffR.same (by go_simp)
 try simp only [Act.put, zA, zB, zC]
 refine wpAnyU_take (i := 4) (oi := { dst := some 26, op := Op.call { callee := Callee.value (Operand.func 21), args := #[Operand.tmp 25], argTypes := #[30] }, type := 3, pos := "law.go:75", after := #[{ on := 3, ground := Ground.data }], guard := none }) (v := (.int .i64 (G : Int))) rfl (by kernel_rfl) (by kernel_rfl) (by kernel_rfl) (by kernel_rfl) (by kernel_rfl) (fun _ _ _ h => h) (⟨fun x h => ⟨HSA.out.below h, HO.out.below h, HR.out.below h⟩, fun _ _ h hb => Below.next h hb⟩ : Cls (fun x => (SA px g gl q rl n hf gs D T F Pl (.slice a1 n1 c1) (.slice a2 n2 c2) (.slice aO qO cO)) x ∧ OwnB 5 x w.heap.size (.slice p1 p2 p3) SN ∧ recsM x (fun k => w.heap.size ≤ k) (.slice r1 r2 r3) RC) (BL W)) ?_ ?_
 ·
  refine Or.inl ⟨rfl, fun w hSw => ?_⟩
  obtain ⟨Fl, hlx⟩ := hSw.1.1.lx
  have hg := Gen_any _ gl g Fl T hlx
  rw [← HG.out] at hg
  go_simp
  show Calls _ _ _ _ _
  refine hg.mono ?_
  rintro e w1 ⟨rfl, rfl⟩
  exact ⟨rfl, Below.refl _ _⟩
 try simp only [Act.put, zA, zB, zC]
 refine wpAnyU_take (i := 5) (oi := { dst := some 27, op := Op.move (Operand.tmp 0), type := 66, pos := "law.go:75", after := #[], guard := none }) (v := (.pointer (some ⟨px, 0, none⟩))) rfl (by kernel_rfl) (by kernel_rfl) (by kernel_rfl) (by kernel_rfl) (by kernel_rfl) (fun _ _ _ h => h) (⟨fun x h => ⟨HSA.out.below h, HO.out.below h, HR.out.below h⟩, fun _ _ h hb => Below.next h hb⟩ : Cls (fun x => (SA px g gl q rl n hf gs D T F Pl (.slice a1 n1 c1) (.slice a2 n2 c2) (.slice aO qO cO)) x ∧ OwnB 5 x w.heap.size (.slice p1 p2 p3) SN ∧ recsM x (fun k => w.heap.size ≤ k) (.slice r1 r2 r3) RC) (BL W)) ?_ ?_
 ·
  refine Or.inl ⟨rfl, fun w hSw => ?_⟩
  exact EffR.same (by go_simp)
 try simp only [Act.put, zA, zB, zC]
 refine wpAnyU_take (i := 6) (oi := { dst := some 28, op := Op.nilCheck (Operand.tmp 27), type := 0, pos := "law.go:75", after := #[{ on := 5, ground := Ground.data }], guard := none }) (v := (.pointer (some ⟨px, 0, none⟩))) rfl (by kernel_rfl) (by kernel_rfl) (by kernel_rfl) (by kernel_rfl) (by kernel_rfl) (fun _ _ _ h => h) (⟨fun x h => ⟨HSA.out.below h, HO.out.below h, HR.out.below h⟩, fun _ _ h hb => Below.next h hb⟩ : Cls (fun x => (SA px g gl q rl n hf gs D T F Pl (.slice a1 n1 c1) (.slice a2 n2 c2) (.slice aO qO cO)) x ∧ OwnB 5 x w.heap.size (.slice p1 p2 p3) SN ∧ recsM x (fun k => w.heap.size ≤ k) (.slice r1 r2 r3) RC) (BL W)) ?_ ?_
 ·
  refine Or.inl ⟨rfl, fun w hSw => ?_⟩
  exact EffR.same (by go_simp)
 try simp only [Act.put, zA, zB, zC]
 refine wpAnyU_take (i := 7) (oi := { dst := some 29, op := Op.fieldAddr 71 (Operand.tmp 28) 2, type := 0, pos := "law.go:75", after := #[{ on := 6, ground := Ground.data }], guard := none }) (v := (.pointer (some ⟨px, 2, none⟩))) rfl (by kernel_rfl) (by kernel_rfl) (by kernel_rfl) (by kernel_rfl) (by kernel_rfl) (fun _ _ _ h => h) (⟨fun x h => ⟨HSA.out.below h, HO.out.below h, HR.out.below h⟩, fun _ _ h hb => Below.next h hb⟩ : Cls (fun x => (SA px g gl q rl n hf gs D T F Pl (.slice a1 n1 c1) (.slice a2 n2 c2) (.slice aO qO cO)) x ∧ OwnB 5 x w.heap.size (.slice p1 p2 p3) SN ∧ recsM x (fun k => w.heap.size ≤ k) (.slice r1 r2 r3) RC) (BL W)) ?_ ?_
 ·
  refine Or.inl ⟨rfl, fun w hSw => ?_⟩
  exact EffR.same (by go_simp)
 try simp only [Act.put, zA, zB, zC]
 refine wpAnyU_take (i := 8) (oi := { dst := some 30, op := Op.load 69 (Operand.tmp 29), type := 69, pos := "law.go:75", after := #[{ on := 7, ground := Ground.data }], guard := none }) (v := (.pointer (some ⟨rl, 0, none⟩))) rfl (by kernel_rfl) (by kernel_rfl) (by kernel_rfl) (by kernel_rfl) (by kernel_rfl) (fun _ _ _ h => h) (⟨fun x h => ⟨HSA.out.below h, HO.out.below h, HR.out.below h⟩, fun _ _ h hb => Below.next h hb⟩ : Cls (fun x => (SA px g gl q rl n hf gs D T F Pl (.slice a1 n1 c1) (.slice a2 n2 c2) (.slice aO qO cO)) x ∧ OwnB 5 x w.heap.size (.slice p1 p2 p3) SN ∧ recsM x (fun k => w.heap.size ≤ k) (.slice r1 r2 r3) RC) (BL W)) ?_ ?_
 ·
  refine Or.inl ⟨rfl, fun w hSw => ?_⟩
  have e0 := hSw.1.2.1.cell (j := 2) rfl
  exact EffR.same (by go_simp)
 try simp only [Act.put, zA, zB, zC]
 refine wpAnyU_take (i := 9) (oi := { dst := some 31, op := Op.nilCheck (Operand.tmp 30), type := 0, pos := "law.go:75", after := #[{ on := 8, ground := Ground.data }], guard := none }) (v := (.pointer (some ⟨rl, 0, none⟩))) rfl (by kernel_rfl) (by kernel_rfl) (by kernel_rfl) (by kernel_rfl) (by kernel_rfl) (fun _ _ _ h => h) (⟨fun x h => ⟨HSA.out.below h, HO.out.below h, HR.out.below h⟩, fun _ _ h hb => Below.next h hb⟩ : Cls (fun x => (SA px g gl q rl n hf gs D T F Pl (.slice a1 n1 c1) (.slice a2 n2 c2) (.slice aO qO cO)) x ∧ OwnB 5 x w.heap.size (.slice p1 p2 p3) SN ∧ recsM x (fun k => w.heap.size ≤ k) (.slice r1 r2 r3) RC) (BL W)) ?_ ?_
 ·
  refine Or.inl ⟨rfl, fun w hSw => ?_⟩
  exact EffR.same (by go_simp)
 try simp only [Act.put, zA, zB, zC]
 refine wpAnyU_take (i := 10) (oi := { dst := some 32, op := Op.fieldAddr 107 (Operand.tmp 31) 2, type := 0, pos := "law.go:75", after := #[{ on := 9, ground := Ground.data }], guard := none }) (v := (.pointer (some ⟨rl, 2, none⟩))) rfl (by kernel_rfl) (by kernel_rfl) (by kernel_rfl) (by kernel_rfl) (by kernel_rfl) (fun _ _ _ h => h) (⟨fun x h => ⟨HSA.out.below h, HO.out.below h, HR.out.below h⟩, fun _ _ h hb => Below.next h hb⟩ : Cls (fun x => (SA px g gl q rl n hf gs D T F Pl (.slice a1 n1 c1) (.slice a2 n2 c2) (.slice aO qO cO)) x ∧ OwnB 5 x w.heap.size (.slice p1 p2 p3) SN ∧ recsM x (fun k => w.heap.size ≤ k) (.slice r1 r2 r3) RC) (BL W)) ?_ ?_
 ·
  refine Or.inl ⟨rfl, fun w hSw => ?_⟩
  exact EffR.same (by go_simp)
 try simp only [Act.put, zA, zB, zC]
 refine wpAnyU_take (i := 11) (oi := { dst := some 33, op := Op.load 3 (Operand.tmp 32), type := 3, pos := "law.go:75", after := #[{ on := 10, ground := Ground.data }], guard := none }) (v := (.int .i64 (G : Int))) rfl (by kernel_rfl) (by kernel_rfl) (by kernel_rfl) (by kernel_rfl) (by kernel_rfl) (fun _ _ _ h => h) (⟨fun x h => ⟨HSA.out.below h, HO.out.below h, HR.out.below h⟩, fun _ _ h hb => Below.next h hb⟩ : Cls (fun x => (SA px g gl q rl n hf gs D T F Pl (.slice a1 n1 c1) (.slice a2 n2 c2) (.slice aO qO cO)) x ∧ OwnB 5 x w.heap.size (.slice p1 p2 p3) SN ∧ recsM x (fun k => w.heap.size ≤ k) (.slice r1 r2 r3) RC) (BL W)) ?_ ?_
 ·
  refine Or.inl ⟨rfl, fun w hSw => ?_⟩
  have e0 := hSw.1.2.2.1.cell (j := 2) rfl
  rw [← HG.out] at e0
  exact EffR.same (by go_simp)
 try simp only [Act.put, zA, zB, zC]
 refine wpAnyU_take (i := 12) (oi := { dst := some 34, op := Op.binOp BinOp.eql 3 (Operand.tmp 26) (Operand.tmp 33) 3, type := 4, pos := "law.go:75", after := #[{ on := 4, ground := Ground.data }, { on := 11, ground := Ground.data }], guard := none }) (v := (.bool true)) rfl (by kernel_rfl) (by kernel_rfl) (by kernel_rfl) (by kernel_rfl) (by kernel_rfl) (fun _ _ _ h => h) (⟨fun x h => ⟨HSA.out.below h, HO.out.below h, HR.out.below h⟩, fun _ _ h hb => Below.next h hb⟩ : Cls (fun x => (SA px g gl q rl n hf gs D T F Pl (.slice a1 n1 c1) (.slice a2 n2 c2) (.slice aO qO cO)) x ∧ OwnB 5 x w.heap.size (.slice p1 p2 p3) SN ∧ recsM x (fun k => w.heap.size ≤ k) (.slice r1 r2 r3) RC) (BL W)) ?_ ?_
 ·
  refine Or.inl ⟨rfl, fun w hSw => ?_⟩
  exact EffR.same (by go_simp)
 try simp only [Act.put, zA, zB, zC]
 refine wpAnyU_take (i := 13) (oi := { dst := some 35, op := Op.move (Operand.tmp 34), type := 4, pos := "law.go:75", after := #[{ on := 12, ground := Ground.data }, { on := 4, ground := Ground.chain }], guard := none }) (v := (.bool true)) rfl (by kernel_rfl) (by kernel_rfl) (by kernel_rfl) (by kernel_rfl) (by kernel_rfl) (fun _ _ _ h => h) (⟨fun x h => ⟨HSA.out.below h, HO.out.below h, HR.out.below h⟩, fun _ _ h hb => Below.next h hb⟩ : Cls (fun x => (SA px g gl q rl n hf gs D T F Pl (.slice a1 n1 c1) (.slice a2 n2 c2) (.slice aO qO cO)) x ∧ OwnB 5 x w.heap.size (.slice p1 p2 p3) SN ∧ recsM x (fun k => w.heap.size ≤ k) (.slice r1 r2 r3) RC) (BL W)) ?_ ?_
 ·
  refine Or.inl ⟨rfl, fun w hSw => ?_⟩
  exact EffR.same (by go_simp)
 try simp only [Act.put, zA, zB, zC]
 refine wpAnyU_take (i := 14) (oi := { dst := some 36, op := Op.move (Operand.tmp 3), type := 22, pos := "law.go:75", after := #[{ on := 13, ground := Ground.guard }], guard := some (13, true) }) (v := (.slice p1 p2 p3)) rfl (by kernel_rfl) (by kernel_rfl) (by kernel_rfl) (by kernel_rfl) (by kernel_rfl) (fun _ _ _ h => h) (⟨fun x h => ⟨HSA.out.below h, HO.out.below h, HR.out.below h⟩, fun _ _ h hb => Below.next h hb⟩ : Cls (fun x => (SA px g gl q rl n hf gs D T F Pl (.slice a1 n1 c1) (.slice a2 n2 c2) (.slice aO qO cO)) x ∧ OwnB 5 x w.heap.size (.slice p1 p2 p3) SN ∧ recsM x (fun k => w.heap.size ≤ k) (.slice r1 r2 r3) RC) (BL W)) ?_ ?_
 ·
  refine Or.inl ⟨rfl, fun w hSw => ?_⟩
  exact EffR.same (by go_simp)
 try simp only [Act.put, zA, zB, zC]
 refine wpAnyU_take (i := 15) (oi := { dst := some 37, op := Op.move (Operand.tmp 0), type := 66, pos := "law.go:75", after := #[{ on := 13, ground := Ground.guard }], guard := some (13, true) }) (v := (.pointer (some ⟨px, 0, none⟩))) rfl (by kernel_rfl) (by kernel_rfl) (by kernel_rfl) (by kernel_rfl) (by kernel_rfl) (fun _ _ _ h => h) (⟨fun x h => ⟨HSA.out.below h, HO.out.below h, HR.out.below h⟩, fun _ _ h hb => Below.next h hb⟩ : Cls (fun x => (SA px g gl q rl n hf gs D T F Pl (.slice a1 n1 c1) (.slice a2 n2 c2) (.slice aO qO cO)) x ∧ OwnB 5 x w.heap.size (.slice p1 p2 p3) SN ∧ recsM x (fun k => w.heap.size ≤ k) (.slice r1 r2 r3) RC) (BL W)) ?_ ?_
 ·
  refine Or.inl ⟨rfl, fun w hSw => ?_⟩
  exact EffR.same (by go_simp)
 try simp only [Act.put, zA, zB, zC]
 refine wpAnyU_take (i := 16) (oi := { dst := some 38, op := Op.nilCheck (Operand.tmp 37), type := 0, pos := "law.go:75", after := #[{ on := 15, ground := Ground.data }, { on := 13, ground := Ground.guard }], guard := some (13, true) }) (v := (.pointer (some ⟨px, 0, none⟩))) rfl (by kernel_rfl) (by kernel_rfl) (by kernel_rfl) (by kernel_rfl) (by kernel_rfl) (fun _ _ _ h => h) (⟨fun x h => ⟨HSA.out.below h, HO.out.below h, HR.out.below h⟩, fun _ _ h hb => Below.next h hb⟩ : Cls (fun x => (SA px g gl q rl n hf gs D T F Pl (.slice a1 n1 c1) (.slice a2 n2 c2) (.slice aO qO cO)) x ∧ OwnB 5 x w.heap.size (.slice p1 p2 p3) SN ∧ recsM x (fun k => w.heap.size ≤ k) (.slice r1 r2 r3) RC) (BL W)) ?_ ?_
 ·
  refine Or.inl ⟨rfl, fun w hSw => ?_⟩
  exact EffR.same (by go_simp)
 try simp only [Act.put, zA, zB, zC]
 refine wpAnyU_take (i := 17) (oi := { dst := some 39, op := Op.fieldAddr 71 (Operand.tmp 38) 2, type := 0, pos := "law.go:75", after := #[{ on := 16, ground := Ground.data }, { on := 13, ground := Ground.guard }], guard := some (13, true) }) (v := (.pointer (some ⟨px, 2, none⟩))) rfl (by kernel_rfl) (by kernel_rfl) (by kernel_rfl) (by kernel_rfl) (by kernel_rfl) (fun _ _ _ h => h) (⟨fun x h => ⟨HSA.out.below h, HO.out.below h, HR.out.below h⟩, fun _ _ h hb => Below.next h hb⟩ : Cls (fun x => (SA px g gl q rl n hf gs D T F Pl (.slice a1 n1 c1) (.slice a2 n2 c2) (.slice aO qO cO)) x ∧ OwnB 5 x w.heap.size (.slice p1 p2 p3) SN ∧ recsM x (fun k => w.heap.size ≤ k) (.slice r1 r2 r3) RC) (BL W)) ?_ ?_
 ·
  refine Or.inl ⟨rfl, fun w hSw => ?_⟩
  exact EffR.same (by go_simp)
 try simp only [Act.put, zA, zB, zC]
 refine wpAnyU_take (i := 18) (oi := { dst := some 40, op := Op.load 69 (Operand.tmp 39), type := 69, pos := "law.go:75", after := #[{ on := 17, ground := Ground.data }, { on := 13, ground := Ground.guard }], guard := some (13, true) }) (v := (.pointer (some ⟨rl, 0, none⟩))) rfl (by kernel_rfl) (by kernel_rfl) (by kernel_rfl) (by kernel_rfl) (by kernel_rfl) (fun _ _ _ h => h) (⟨fun x h => ⟨HSA.out.below h, HO.out.below h, HR.out.below h⟩, fun _ _ h hb => Below.next h hb⟩ : Cls (fun x => (SA px g gl q rl n hf gs D T F Pl (.slice a1 n1 c1) (.slice a2 n2 c2) (.slice aO qO cO)) x ∧ OwnB 5 x w.heap.size (.slice p1 p2 p3) SN ∧ recsM x (fun k => w.heap.size ≤ k) (.slice r1 r2 r3) RC) (BL W)) ?_ ?_
 ·
  refine Or.inl ⟨rfl, fun w hSw => ?_⟩
  have e0 := hSw.1.2.1.cell (j := 2) rfl
  exact EffR.same (by go_simp)
 try simp only [Act.put, zA, zB, zC]
 refine wpAnyU_take (i := 19) (oi := { dst := some 41, op := Op.nilCheck (Operand.tmp 40), type := 0, pos := "law.go:75", after := #[{ on := 18, ground := Ground.data }, { on := 13, ground := Ground.guard }], guard := some (13, true) }) (v := (.pointer (some ⟨rl, 0, none⟩))) rfl (by kernel_rfl) (by kernel_rfl) (by kernel_rfl) (by kernel_rfl) (by kernel_rfl) (fun _ _ _ h => h) (⟨fun x h => ⟨HSA.out.below h, HO.out.below h, HR.out.below h⟩, fun _ _ h hb => Below.next h hb⟩ : Cls (fun x => (SA px g gl q rl n hf gs D T F Pl (.slice a1 n1 c1) (.slice a2 n2 c2) (.slice aO qO cO)) x ∧ OwnB 5 x w.heap.size (.slice p1 p2 p3) SN ∧ recsM x (fun k => w.heap.size ≤ k) (.slice r1 r2 r3) RC) (BL W)) ?_ ?_
 ·
  refine Or.inl ⟨rfl, fun w hSw => ?_⟩
  exact EffR.same (by go_simp)
 try simp only [Act.put, zA, zB, zC]
 refine wpAnyU_take (i := 20) (oi := { dst := some 42, op := Op.fieldAddr 107 (Operand.tmp 41) 3, type := 0, pos := "law.go:75", after := #[{ on := 19, ground := Ground.data }, { on := 13, ground := Ground.guard }], guard := some (13, true) }) (v := (.pointer (some ⟨rl, 3, none⟩))) rfl (by kernel_rfl) (by kernel_rfl) (by kernel_rfl) (by kernel_rfl) (by kernel_rfl) (fun _ _ _ h => h) (⟨fun x h => ⟨HSA.out.below h, HO.out.below h, HR.out.below h⟩, fun _ _ h hb => Below.next h hb⟩ : Cls (fun x => (SA px g gl q rl n hf gs D T F Pl (.slice a1 n1 c1) (.slice a2 n2 c2) (.slice aO qO cO)) x ∧ OwnB 5 x w.heap.size (.slice p1 p2 p3) SN ∧ recsM x (fun k => w.heap.size ≤ k) (.slice r1 r2 r3) RC) (BL W)) ?_ ?_
 ·
  refine Or.inl ⟨rfl, fun w hSw => ?_⟩
  exact EffR.same (by go_simp)
 try simp only [Act.put, zA, zB, zC]
 refine wpAnyU_take (i := 21) (oi := { dst := some 43, op := Op.load 22 (Operand.tmp 42), type := 22, pos := "law.go:75", after := #[{ on := 20, ground := Ground.data }, { on := 13, ground := Ground.guard }], guard := some (13, true) }) (v := (.slice a1 n1 c1)) rfl (by kernel_rfl) (by kernel_rfl) (by kernel_rfl) (by kernel_rfl) (by kernel_rfl) (fun _ _ _ h => h) (⟨fun x h => ⟨HSA.out.below h, HO.out.below h, HR.out.below h⟩, fun _ _ h hb => Below.next h hb⟩ : Cls (fun x => (SA px g gl q rl n hf gs D T F Pl (.slice a1 n1 c1) (.slice a2 n2 c2) (.slice aO qO cO)) x ∧ OwnB 5 x w.heap.size (.slice p1 p2 p3) SN ∧ recsM x (fun k => w.heap.size ≤ k) (.slice r1 r2 r3) RC) (BL W)) ?_ ?_
 ·
  refine Or.inl ⟨rfl, fun w hSw => ?_⟩
  have e0 := hSw.1.2.2.1.cell (j := 3) rfl
  exact EffR.same (by go_simp)
 try simp only [Act.put, zA, zB, zC]
 refine wpAnyU_take (i := 22) (oi := { dst := some 44, op := Op.call { callee := Callee.value (Operand.func 23), args := #[Operand.tmp 36, Operand.tmp 43], argTypes := #[22, 22] }, type := 4, pos := "law.go:75", after := #[{ on := 14, ground := Ground.data }, { on := 21, ground := Ground.data }, { on := 13, ground := Ground.chain }, { on := 13, ground := Ground.guard }], guard := some (13, true) }) (v := (.bool true)) rfl (by kernel_rfl) (by kernel_rfl) (by kernel_rfl) (by kernel_rfl) (by kernel_rfl) (fun _ _ _ h => h) (⟨fun x h => ⟨HSA.out.below h, HO.out.below h, HR.out.below h⟩, fun _ _ h hb => Below.next h hb⟩ : Cls (fun x => (SA px g gl q rl n hf gs D T F Pl (.slice a1 n1 c1) (.slice a2 n2 c2) (.slice aO qO cO)) x ∧ OwnB 5 x w.heap.size (.slice p1 p2 p3) SN ∧ recsM x (fun k => w.heap.size ≤ k) (.slice r1 r2 r3) RC) (BL W)) ?_ ?_
 ·
  refine Or.inl ⟨rfl, fun w hSw => ?_⟩
  have hg := Bytes_any _ (.slice p1 p2 p3) (.slice a1 n1 c1) SN SN hSw.2.1.bs (by have := hSw.1.2.2.2.1.1.bs; rw [← HSN.out] at this; exact this)
  rw [decide_eq_true rfl] at hg
  go_simp
  show Calls _ _ _ _ _
  refine hg.mono ?_
  rintro e w1 ⟨rfl, hb⟩
  exact ⟨rfl, hb⟩
 try simp only [Act.put, zA, zB, zC]
 refine wpAnyU_take (i := 23) (oi := { dst := some 45, op := Op.pick (Operand.tmp 35) (Operand.tmp 44) (Operand.const (Value.bool false)), type := 4, pos := "law.go:75", after := #[{ on := 13, ground := Ground.data }, { on := 22, ground := Ground.data }], guard := none }) (v := (.bool true)) rfl (by kernel_rfl) (by kernel_rfl) (by kernel_rfl) (by kernel_rfl) (by kernel_rfl) (fun _ _ _ h => h) (⟨fun x h => ⟨HSA.out.below h, HO.out.below h, HR.out.below h⟩, fun _ _ h hb => Below.next h hb⟩ : Cls (fun x => (SA px g gl q rl n hf gs D T F Pl (.slice a1 n1 c1) (.slice a2 n2 c2) (.slice aO qO cO)) x ∧ OwnB 5 x w.heap.size (.slice p1 p2 p3) SN ∧ recsM x (fun k => w.heap.size ≤ k) (.slice r1 r2 r3) RC) (BL W)) ?_ ?_
 ·
  refine Or.inl ⟨rfl, fun w hSw => ?_⟩
  exact EffR.same (by go_simp)
 try simp only [Act.put, zA, zB, zC]
 refine wpAnyU_take (i := 24) (oi := { dst := some 46, op := Op.move (Operand.tmp 45), type := 4, pos := "law.go:75", after := #[{ on := 23, ground := Ground.data }, { on := 22, ground := Ground.chain }], guard := none }) (v := (.bool true)) rfl (by kernel_rfl) (by kernel_rfl) (by kernel_rfl) (by kernel_rfl) (by kernel_rfl) (fun _ _ _ h => h) (⟨fun x h => ⟨HSA.out.below h, HO.out.below h, HR.out.below h⟩, fun _ _ h hb => Below.next h hb⟩ : Cls (fun x => (SA px g gl q rl n hf gs D T F Pl (.slice a1 n1 c1) (.slice a2 n2 c2) (.slice aO qO cO)) x ∧ OwnB 5 x w.heap.size (.slice p1 p2 p3) SN ∧ recsM x (fun k => w.heap.size ≤ k) (.slice r1 r2 r3) RC) (BL W)) ?_ ?_
 ·
  refine Or.inl ⟨rfl, fun w hSw => ?_⟩
  exact EffR.same (by go_simp)
 try simp only [Act.put, zA, zB, zC]
 refine wpAnyU_take (i := 25) (oi := { dst := some 47, op := Op.move (Operand.tmp 4), type := 23, pos := "law.go:75", after := #[{ on := 24, ground := Ground.guard }], guard := some (24, true) }) (v := (.slice r1 r2 r3)) rfl (by kernel_rfl) (by kernel_rfl) (by kernel_rfl) (by kernel_rfl) (by kernel_rfl) (fun _ _ _ h => h) (⟨fun x h => ⟨HSA.out.below h, HO.out.below h, HR.out.below h⟩, fun _ _ h hb => Below.next h hb⟩ : Cls (fun x => (SA px g gl q rl n hf gs D T F Pl (.slice a1 n1 c1) (.slice a2 n2 c2) (.slice aO qO cO)) x ∧ OwnB 5 x w.heap.size (.slice p1 p2 p3) SN ∧ recsM x (fun k => w.heap.size ≤ k) (.slice r1 r2 r3) RC) (BL W)) ?_ ?_
 ·
  refine Or.inl ⟨rfl, fun w hSw => ?_⟩
  exact EffR.same (by go_simp)
 try simp only [Act.put, zA, zB, zC]
 refine wpAnyU_take (i := 26) (oi := { dst := some 48, op := Op.move (Operand.tmp 0), type := 66, pos := "law.go:75", after := #[{ on := 24, ground := Ground.guard }], guard := some (24, true) }) (v := (.pointer (some ⟨px, 0, none⟩))) rfl (by kernel_rfl) (by kernel_rfl) (by kernel_rfl) (by kernel_rfl) (by kernel_rfl) (fun _ _ _ h => h) (⟨fun x h => ⟨HSA.out.below h, HO.out.below h, HR.out.below h⟩, fun _ _ h hb => Below.next h hb⟩ : Cls (fun x => (SA px g gl q rl n hf gs D T F Pl (.slice a1 n1 c1) (.slice a2 n2 c2) (.slice aO qO cO)) x ∧ OwnB 5 x w.heap.size (.slice p1 p2 p3) SN ∧ recsM x (fun k => w.heap.size ≤ k) (.slice r1 r2 r3) RC) (BL W)) ?_ ?_
 ·
  refine Or.inl ⟨rfl, fun w hSw => ?_⟩
  exact EffR.same (by go_simp)
 try simp only [Act.put, zA, zB, zC]
 refine wpAnyU_take (i := 27) (oi := { dst := some 49, op := Op.nilCheck (Operand.tmp 48), type := 0, pos := "law.go:75", after := #[{ on := 26, ground := Ground.data }, { on := 24, ground := Ground.guard }], guard := some (24, true) }) (v := (.pointer (some ⟨px, 0, none⟩))) rfl (by kernel_rfl) (by kernel_rfl) (by kernel_rfl) (by kernel_rfl) (by kernel_rfl) (fun _ _ _ h => h) (⟨fun x h => ⟨HSA.out.below h, HO.out.below h, HR.out.below h⟩, fun _ _ h hb => Below.next h hb⟩ : Cls (fun x => (SA px g gl q rl n hf gs D T F Pl (.slice a1 n1 c1) (.slice a2 n2 c2) (.slice aO qO cO)) x ∧ OwnB 5 x w.heap.size (.slice p1 p2 p3) SN ∧ recsM x (fun k => w.heap.size ≤ k) (.slice r1 r2 r3) RC) (BL W)) ?_ ?_
 ·
  refine Or.inl ⟨rfl, fun w hSw => ?_⟩
  exact EffR.same (by go_simp)
 try simp only [Act.put, zA, zB, zC]
 refine wpAnyU_take (i := 28) (oi := { dst := some 50, op := Op.fieldAddr 71 (Operand.tmp 49) 2, type := 0, pos := "law.go:75", after := #[{ on := 27, ground := Ground.data }, { on := 24, ground := Ground.guard }], guard := some (24, true) }) (v := (.pointer (some ⟨px, 2, none⟩))) rfl (by kernel_rfl) (by kernel_rfl) (by kernel_rfl) (by kernel_rfl) (by kernel_rfl) (fun _ _ _ h => h) (⟨fun x h => ⟨HSA.out.below h, HO.out.below h, HR.out.below h⟩, fun _ _ h hb => Below.next h hb⟩ : Cls (fun x => (SA px g gl q rl n hf gs D T F Pl (.slice a1 n1 c1) (.slice a2 n2 c2) (.slice aO qO cO)) x ∧ OwnB 5 x w.heap.size (.slice p1 p2 p3) SN ∧ recsM x (fun k => w.heap.size ≤ k) (.slice r1 r2 r3) RC) (BL W)) ?_ ?_
 ·
  refine Or.inl ⟨rfl, fun w hSw => ?_⟩
  exact EffR.same (by go_simp)
 try simp only [Act.put, zA, zB, zC]
 refine wpAnyU_take (i := 29) (oi := { dst := some 51, op := Op.load 69 (Operand.tmp 50), type := 69, pos := "law.go:75", after := #[{ on := 28, ground := Ground.data }, { on := 24, ground := Ground.guard }], guard := some (24, true) }) (v := (.pointer (some ⟨rl, 0, none⟩))) rfl (by kernel_rfl) (by kernel_rfl) (by kernel_rfl) (by kernel_rfl) (by kernel_rfl) (fun _ _ _ h => h) (⟨fun x h => ⟨HSA.out.below h, HO.out.below h, HR.out.below h⟩, fun _ _ h hb => Below.next h hb⟩ : Cls (fun x => (SA px g gl q rl n hf gs D T F Pl (.slice a1 n1 c1) (.slice a2 n2 c2) (.slice aO qO cO)) x ∧ OwnB 5 x w.heap.size (.slice p1 p2 p3) SN ∧ recsM x (fun k => w.heap.size ≤ k) (.slice r1 r2 r3) RC) (BL W)) ?_ ?_
 ·
  refine Or.inl ⟨rfl, fun w hSw => ?_⟩
  have e0 := hSw.1.2.1.cell (j := 2) rfl
  exact EffR.same (by go_simp)
 try simp only [Act.put, zA, zB, zC]
 refine wpAnyU_take (i := 30) (oi := { dst := some 52, op := Op.nilCheck (Operand.tmp 51), type := 0, pos := "law.go:75", after := #[{ on := 29, ground := Ground.data }, { on := 24, ground := Ground.guard }], guard := some (24, true) }) (v := (.pointer (some ⟨rl, 0, none⟩))) rfl (by kernel_rfl) (by kernel_rfl) (by kernel_rfl) (by kernel_rfl) (by kernel_rfl) (fun _ _ _ h => h) (⟨fun x h => ⟨HSA.out.below h, HO.out.below h, HR.out.below h⟩, fun _ _ h hb => Below.next h hb⟩ : Cls (fun x => (SA px g gl q rl n hf gs D T F Pl (.slice a1 n1 c1) (.slice a2 n2 c2) (.slice aO qO cO)) x ∧ OwnB 5 x w.heap.size (.slice p1 p2 p3) SN ∧ recsM x (fun k => w.heap.size ≤ k) (.slice r1 r2 r3) RC) (BL W)) ?_ ?_
 ·
  refine Or.inl ⟨rfl, fun w hSw => ?_⟩
  exact EffR.same (by go_simp)
 try simp only [Act.put, zA, zB, zC]
 refine wpAnyU_take (i := 31) (oi := { dst := some 53, op := Op.fieldAddr 107 (Operand.tmp 52) 4, type := 0, pos := "law.go:75", after := #[{ on := 30, ground := Ground.data }, { on := 24, ground := Ground.guard }], guard := some (24, true) }) (v := (.pointer (some ⟨rl, 4, none⟩))) rfl (by kernel_rfl) (by kernel_rfl) (by kernel_rfl) (by kernel_rfl) (by kernel_rfl) (fun _ _ _ h => h) (⟨fun x h => ⟨HSA.out.below h, HO.out.below h, HR.out.below h⟩, fun _ _ h hb => Below.next h hb⟩ : Cls (fun x => (SA px g gl q rl n hf gs D T F Pl (.slice a1 n1 c1) (.slice a2 n2 c2) (.slice aO qO cO)) x ∧ OwnB 5 x w.heap.size (.slice p1 p2 p3) SN ∧ recsM x (fun k => w.heap.size ≤ k) (.slice r1 r2 r3) RC) (BL W)) ?_ ?_
 ·
  refine Or.inl ⟨rfl, fun w hSw => ?_⟩
  exact EffR.same (by go_simp)
 try simp only [Act.put, zA, zB, zC]
 refine wpAnyU_take (i := 32) (oi := { dst := some 54, op := Op.load 23 (Operand.tmp 53), type := 23, pos := "law.go:75", after := #[{ on := 31, ground := Ground.data }, { on := 24, ground := Ground.guard }], guard := some (24, true) }) (v := (.slice a2 n2 c2)) rfl (by kernel_rfl) (by kernel_rfl) (by kernel_rfl) (by kernel_rfl) (by kernel_rfl) (fun _ _ _ h => h) (⟨fun x h => ⟨HSA.out.below h, HO.out.below h, HR.out.below h⟩, fun _ _ h hb => Below.next h hb⟩ : Cls (fun x => (SA px g gl q rl n hf gs D T F Pl (.slice a1 n1 c1) (.slice a2 n2 c2) (.slice aO qO cO)) x ∧ OwnB 5 x w.heap.size (.slice p1 p2 p3) SN ∧ recsM x (fun k => w.heap.size ≤ k) (.slice r1 r2 r3) RC) (BL W)) ?_ ?_
 ·
  refine Or.inl ⟨rfl, fun w hSw => ?_⟩
  have e0 := hSw.1.2.2.1.cell (j := 4) rfl
  exact EffR.same (by go_simp)
 try simp only [Act.put, zA, zB, zC]
 refine wpAnyU_take (i := 33) (oi := { dst := some 55, op := Op.call { callee := Callee.value (Operand.func 18), args := #[Operand.tmp 47, Operand.tmp 54], argTypes := #[23, 23] }, type := 4, pos := "law.go:75", after := #[{ on := 25, ground := Ground.data }, { on := 32, ground := Ground.data }, { on := 24, ground := Ground.chain }, { on := 24, ground := Ground.guard }], guard := some (24, true) }) (v := (.bool true)) rfl (by kernel_rfl) (by kernel_rfl) (by kernel_rfl) (by kernel_rfl) (by kernel_rfl) (fun _ _ _ h => h) (⟨fun x h => ⟨HSA.out.below h, HO.out.below h, HR.out.below h⟩, fun _ _ h hb => Below.next h hb⟩ : Cls (fun x => (SA px g gl q rl n hf gs D T F Pl (.slice a1 n1 c1) (.slice a2 n2 c2) (.slice aO qO cO)) x ∧ OwnB 5 x w.heap.size (.slice p1 p2 p3) SN ∧ recsM x (fun k => w.heap.size ≤ k) (.slice r1 r2 r3) RC) (BL W)) ?_ ?_
 ·
  refine Or.inl ⟨rfl, fun w hSw => ?_⟩
  have hg := Rows_any _ (.slice r1 r2 r3) (.slice a2 n2 c2) RC RC hSw.2.2.bss (by have := hSw.1.2.2.2.1.2.2.bss; rw [← HRC.out] at this; exact this) HRNB.out
  rw [decide_eq_true rfl] at hg
  go_simp
  show Calls _ _ _ _ _
  refine hg.mono ?_
  rintro e w1 ⟨rfl, hb⟩
  exact ⟨rfl, hb⟩
 try simp only [Act.put, zA, zB, zC]
 refine wpAnyU_take (i := 34) (oi := { dst := some 56, op := Op.pick (Operand.tmp 46) (Operand.tmp 55) (Operand.const (Value.bool false)), type := 4, pos := "law.go:75", after := #[{ on := 24, ground := Ground.data }, { on := 33, ground := Ground.data }], guard := none }) (v := (.bool true)) rfl (by kernel_rfl) (by kernel_rfl) (by kernel_rfl) (by kernel_rfl) (by kernel_rfl) (fun _ _ _ h => h) (⟨fun x h => ⟨HSA.out.below h, HO.out.below h, HR.out.below h⟩, fun _ _ h hb => Below.next h hb⟩ : Cls (fun x => (SA px g gl q rl n hf gs D T F Pl (.slice a1 n1 c1) (.slice a2 n2 c2) (.slice aO qO cO)) x ∧ OwnB 5 x w.heap.size (.slice p1 p2 p3) SN ∧ recsM x (fun k => w.heap.size ≤ k) (.slice r1 r2 r3) RC) (BL W)) ?_ ?_
 ·
  refine Or.inl ⟨rfl, fun w hSw => ?_⟩
  exact EffR.same (by go_simp)
 try simp only [Act.put, zA, zB, zC]
 refine wpAnyU_take (i := 35) (oi := { dst := some 5, op := Op.assign (Operand.tmp 56), type := 4, pos := "law.go:75", after := #[{ on := 34, ground := Ground.data }, { on := 33, ground := Ground.chain }, { on := 0, ground := Ground.phase }, { on := 1, ground := Ground.phase }, { on := 2, ground := Ground.phase }, { on := 3, ground := Ground.phase }, { on := 4, ground := Ground.phase }, { on := 5, ground := Ground.phase }, { on := 6, ground := Ground.phase }, { on := 7, ground := Ground.phase }, { on := 8, ground := Ground.phase }, { on := 9, ground := Ground.phase }, { on := 10, ground := Ground.phase }, { on := 11, ground := Ground.phase }, { on := 12, ground := Ground.phase }, { on := 13, ground := Ground.phase }, { on := 14, ground := Ground.phase }, { on := 15, ground := Ground.phase }, { on := 16, ground := Ground.phase }, { on := 17, ground := Ground.phase }, { on := 18, ground := Ground.phase }, { on := 19, ground := Ground.phase }, { on := 20, ground := Ground.phase }, { on := 21, ground := Ground.phase }, { on := 22, ground := Ground.phase }, { on := 23, ground := Ground.phase }, { on := 24, ground := Ground.phase }, { on := 25, ground := Ground.phase }, { on := 26, ground := Ground.phase }, { on := 27, ground := Ground.phase }, { on := 28, ground := Ground.phase }, { on := 29, ground := Ground.phase }, { on := 30, ground := Ground.phase }, { on := 31, ground := Ground.phase }, { on := 32, ground := Ground.phase }, { on := 33, ground := Ground.phase }, { on := 34, ground := Ground.phase }], guard := none }) (v := (.bool true)) rfl (by kernel_rfl) (by kernel_rfl) (by kernel_rfl) (by kernel_rfl) (by kernel_rfl) (fun _ _ _ h => h) (⟨fun x h => ⟨HSA.out.below h, HO.out.below h, HR.out.below h⟩, fun _ _ h hb => Below.next h hb⟩ : Cls (fun x => (SA px g gl q rl n hf gs D T F Pl (.slice a1 n1 c1) (.slice a2 n2 c2) (.slice aO qO cO)) x ∧ OwnB 5 x w.heap.size (.slice p1 p2 p3) SN ∧ recsM x (fun k => w.heap.size ≤ k) (.slice r1 r2 r3) RC) (BL W)) ?_ ?_
 ·
  refine Or.inl ⟨rfl, fun w hSw => ?_⟩
  exact EffR.same (by go_simp)
 try simp only [Act.put, zA, zB, zC]
 refine wpAnyU_done (by kernel_rfl) (fun w1 hb1 => ?_) _
 have HSA4 := Lib.hid (HSA.out.below hb1)
 have HB4 : Hid (Below w.heap.size w w1) := HB.out.next hb1
 have HO4 := Lib.hid (HO.out.below hb1)
 have HR4 := Lib.hid (HR.out.below hb1)
 clear hb1
 obtain ⟨vs, hru, hvs2, hvb1, hvb2⟩ := HR4.out.rowsU
 have HVS : Hid (vs.length = RC.length) := hvs2
 obtain ⟨N, hN⟩ : ∃ z, z = vs.length := ⟨_, rfl⟩
 have HNV := Lib.hid hN
 obtain rfl : N = r2 := by rw [hN]; exact hru.len.symm
 have hN6 : N ≤ 1000000 := by rw [hN, hvs2]; exact HRNB.out
 have HVB : Hid (∀ s ∈ vs, ∀ k, s.v.ownBlock = some k → w.heap.size ≤ k) := hvb2
 have hou : OwnU w1 (.slice p1 p2 p3) p2 := by
  have h9 := HO4.out
  obtain ⟨a9, c9, e9⟩ := h9.shape
  have h8 := h9.u
  simp only [Value.slice.injEq] at e9
  rw [← e9.2.1] at h8
  exact h8
 have hsp := SpoilU_any w1 _ _ hou
 have HRU := Lib.hid hru
 have HOU := Lib.hid hou
 clear hru hvs2 hvb1 hvb2 hN hou HR4
 go_wp2_with fail
 refine hsp.mono ?_
 clear hsp
 rintro e w5 ⟨rfl, hk5, hu5⟩
 have HR5 := Lib.hid (HRU.out.spoil HOU.out hk5 hu5)
 have HB5 : Hid (Below w.heap.size w w5) := HB4.out.trans (hk5.below (fun k h1 e => by have := OwnB.ge HO4.out k e; omega) HB4.out.size)
 clear hk5 hu5 HOU HRU
 go_wp2_with fail
 go_loopw [6] (fun i wr => ∃ j : Nat, j ≤ N ∧ i = .int .i64 j ∧ RowsU wr (.slice r1 N r3) vs ∧ Below w.heap.size w wr) (fun i _ => N - (intOf i).toNat)
 case atStart => exact ⟨0, Nat.zero_le _, rfl, HR5.out, HB5.out⟩
 case round =>
  obtain ⟨j, hj, rfl, hru, hbr⟩ := hrel
  have HR6 := Lib.hid hru
  have HB6 := Lib.hid hbr
  clear hru hbr
  by_cases hjl : j < N
  ·
   have hjv : j < vs.length := by have := HNV.out; omega
   obtain ⟨bk, off, rfl, hca⟩ := HR6.out.at (by omega)
   obtain ⟨⟨s1, s2, s3⟩, hs⟩ : ∃ z, z = vs[j] := ⟨_, rfl⟩
   have hcell : wr.cell? ⟨bk, off + j, none⟩ = some (.slice s1 s2 s3) := by
    have := hca j hjv
    rw [← hs] at this
    exact this
   have hou : OwnU wr (.slice s1 s2 s3) s2 := by
    have := HR6.out.2 vs[j] (List.getElem_mem hjv)
    rw [← hs] at this
    exact this
   have HOB9 : Hid (∀ k, (Value.slice s1 s2 s3).ownBlock = some k → w.heap.size ≤ k) := fun k e => HVB.out vs[j] (List.getElem_mem hjv) k (by rw [← hs]; exact e)
   have hsp := SpoilU_any wr _ _ hou
   have HOU := Lib.hid hou
   have hj0 : (0 : Int) ≤ j ∧ (j : Int) < N := by omega
   clear hca hs hou
   go_wp2_with fail
   refine hsp.mono ?_
   clear hsp
   rintro e w10 ⟨rfl, hk10, hu10⟩
   have HR10 := Lib.hid (HR6.out.spoil HOU.out hk10 hu10)
   have HB10 : Hid (Below w.heap.size w w10) := HB6.out.trans (hk10.below (fun k h1 e => by have := HOB9.out k e; omega) HB6.out.size)
   clear hk10 hu10
   go_wp2_with fail
   exact ⟨⟨j + 1, by omega, by push_cast; rfl, HR10.out, HB10.out⟩, by simp [intOf]; omega⟩
  ·
   obtain rfl : N = j := by omega
   go_wp2_with fail
   go_loopw [5, 7] (fun v5 i wr => ∃ k : Nat, k ≤ n ∧ v5 = .bool true ∧ i = .int .i64 k ∧ Below w.heap.size w wr) (fun _ i _ => n - (intOf i).toNat)
   case atStart => exact ⟨0, Nat.zero_le _, rfl, rfl, HB6.out⟩
   case round =>
    obtain ⟨k, hk, rfl, rfl, hbr⟩ := hrel
    have HBR := Lib.hid hbr
    have hc3 := (HSA0.out.below hbr).2.1.cell (j := 3) rfl
    have hq0 := (HSA0.out.below hbr).2.2.2.2.cell (j := 0) rfl
    by_cases hlt : k < n
    ·
     obtain ⟨rb, hrb⟩ : ∃ z, D.now[k]? = some z := ⟨_, List.getElem?_eq_getElem (by rw [HNW.out]; exact hlt)⟩
     have hr64 : rb.length = 64 := HN64.out rb (List.mem_of_getElem? hrb)
     obtain ⟨Fx, hdx⟩ := (HSA0.out.below hbr).1.dx
     have hrd := Read_xon wr g n Fx D hdx HOFF.out k hlt rb hrb
     have HRB := Lib.hid hrb
     have H64 := Lib.hid hr64
     have hx1 := (HSA0.out.below hbr).2.1.cell (j := 1) rfl
     have hk0 : (0 : Int) ≤ k ∧ (k : Int) < n := by omega
     clear hrb hr64 hdx
     go_wp2_with fail
     (with_reducible refine hrd.mono ?_)
     clear hrd hx1
     rintro e w1x ⟨rfl, hb1⟩
     obtain ⟨q1, q2, q3⟩ := box_world1 w1x rb H64.out
     obtain ⟨W1, hW1⟩ : ∃ z, z = ((w1x.alloc (.cells (bvs zero64).toArray 36)).setCells w1x.heap.size 0 (bvs rb)) := ⟨_, rfl⟩
     have hwa : Below wr.heap.size wr W1 := by rw [hW1]; exact hb1.next q1
     rw [← hW1] at q2
     have HW1 := Lib.hid hW1
     have HWA := Lib.hid hwa
     have HQ2 := Lib.hid q2
     have HQ3 := Lib.hid q3
     have Hsz := Lib.hid (size64_of H64.out)
     have hun := Try.underlying36
     have hsw := (HSA0.out.below hbr).below hwa
     have hx3 := hsw.2.1.cell (j := 3) rfl
     have hpr := pread_on W1 q n D hsw.1.pm HFU.out HOFF.out k hlt rb HRB.out
     have heqb : ∀ w, (Op.equalIn 10000 36 (.agg (bvs rb).toArray) (.agg (bvs rb).toArray)).run Try.prog w = .ok true w := fun w => by
      have := blocks_eq w rb rb H64.out H64.out
      rw [decide_eq_true rfl] at this
      exact this
     clear hb1 q1 q2 q3 hwa hW1 hsw
     go_wp2_with (first
      | (refine wpList_store_mid rfl 36 (.tmp 8) (.tmp 91) rfl w1x.heap.size 0 (bvs rb).toArray rfl rfl HQ3.out (by simpa using Hsz.out) (all_oneCell_toArray (bs_oneCell _)) ?_; change wpList _ _ _ _ _ ((w1x.alloc (.cells (bvs zero64).toArray 36)).setCells w1x.heap.size 0 (bvs rb)); rw [← HW1.out])
      | fail)
     (with_reducible refine hpr.mono ?_)
     clear hpr hx3
     rintro e w2x ⟨rfl, hb2⟩
     obtain ⟨q1, q2, q3⟩ := box_world1 w2x rb H64.out
     obtain ⟨W2, hW2⟩ : ∃ z, z = ((w2x.alloc (.cells (bvs zero64).toArray 36)).setCells w2x.heap.size 0 (bvs rb)) := ⟨_, rfl⟩
     have R1 : Hid (W2.rangeAt w1x.heap.size 0 (bvs rb)) := by show World.rangeAt _ _ _ _; rw [hW2]; exact ((HQ2.out.below hb2).below q1).bytes
     have R2 : Hid (W2.rangeAt w2x.heap.size 0 (bvs rb)) := by show World.rangeAt _ _ _ _; rw [hW2]; exact q2.bytes
     have HWB : Hid (Below w.heap.size w W2) := by show Below _ _ _; rw [hW2]; exact HBR.out.next ((HWA.out.next hb2).next q1)
     have HW2 := Lib.hid hW2
     have HQ6 := Lib.hid q3
     clear hb2 q1 q2 q3 hW2
     go_wp2_with (first
      | (refine wpList_store_mid rfl 36 (.tmp 10) (.tmp 100) rfl w2x.heap.size 0 (bvs rb).toArray rfl rfl HQ6.out (by simpa using Hsz.out) (all_oneCell_toArray (bs_oneCell _)) ?_; change wpList _ _ _ _ _ ((w2x.alloc (.cells (bvs zero64).toArray 36)).setCells w2x.heap.size 0 (bvs rb)); rw [← HW2.out])
      | (refine wpList_load_mid rfl 36 (.tmp 8) rfl w1x.heap.size 0 rfl (bvs rb) _ R1.out Try.underlying36 rfl Hsz.out ?_)
      | (refine wpList_load_mid rfl 36 (.tmp 10) rfl w2x.heap.size 0 rfl (bvs rb) _ R2.out Try.underlying36 rfl Hsz.out ?_)
      | fail)
     exact ⟨⟨k + 1, by omega, rfl, by push_cast; rfl, HWB.out⟩, by simp [intOf]; omega⟩
    ·
     obtain rfl : n = k := by omega
     clear hbr
     go_upto_region 14 with fail
     clear hc3 hq0
     obtain ⟨W, hW⟩ : ∃ z, z = wr := ⟨_, rfl⟩
     rw [← hW]
     have HB : Hid (Below w.heap.size w W) := by rw [hW]; exact HBR.out
     have HSA : Hid ((SA px g gl q rl n hf gs D T F Pl (.slice a1 n1 c1) (.slice a2 n2 c2) (.slice aO qO cO)) W) := HSA0.out.below HB.out
     clear hW
     refine wp_region_uni (S0 := (SA px g gl q rl n hf gs D T F Pl (.slice a1 n1 c1) (.slice a2 n2 c2) (.slice aO qO cO))) (S := BL W) 48 (by kernel_rfl) (Below.refl _ _).drew ?_
     refine wpAnyU_take (i := 0) (oi := { dst := some 110, op := Op.move (Operand.tmp 5), type := 4, pos := "law.go:85", after := #[], guard := none }) (v := (.bool true)) rfl (by kernel_rfl) (by kernel_rfl) (by kernel_rfl) (by kernel_rfl) (by kernel_rfl) (fun _ _ _ h => h) (HSA.out.cls) ?_ ?_
     ·
      refine Or.inl ⟨rfl, fun w hSw => ?_⟩
      exact EffR.same (by go_simp)
     try simp only [Act.put, zA, zB, zC]
     refine wpAnyU_take (i := 1) (oi := { dst := some 111, op := Op.move (Operand.tmp 110), type := 4, pos := "law.go:85", after := #[{ on := 0, ground := Ground.data }], guard := none }) (v := (.bool true)) rfl (by kernel_rfl) (by kernel_rfl) (by kernel_rfl) (by kernel_rfl) (by kernel_rfl) (fun _ _ _ h => h) (HSA.out.cls) ?_ ?_
     ·
      refine Or.inl ⟨rfl, fun w hSw => ?_⟩
      exact EffR.same (by go_simp)
     try simp only [Act.put, zA, zB, zC]
     refine wpAnyU_take (i := 2) (oi := { dst := some 112, op := Op.move (Operand.tmp 0), type := 66, pos := "law.go:85", after := #[{ on := 1, ground := Ground.guard }], guard := some (1, true) }) (v := (.pointer (some ⟨px, 0, none⟩))) rfl (by kernel_rfl) (by kernel_rfl) (by kernel_rfl) (by kernel_rfl) (by kernel_rfl) (fun _ _ _ h => h) (HSA.out.cls) ?_ ?_
     ·
      refine Or.inl ⟨rfl, fun w hSw => ?_⟩
      exact EffR.same (by go_simp)
     try simp only [Act.put, zA, zB, zC]
     refine wpAnyU_take (i := 3) (oi := { dst := some 113, op := Op.nilCheck (Operand.tmp 112), type := 0, pos := "law.go:85", after := #[{ on := 2, ground := Ground.data }, { on := 1, ground := Ground.guard }], guard := some (1, true) }) (v := (.pointer (some ⟨px, 0, none⟩))) rfl (by kernel_rfl) (by kernel_rfl) (by kernel_rfl) (by kernel_rfl) (by kernel_rfl) (fun _ _ _ h => h) (HSA.out.cls) ?_ ?_
     ·
      refine Or.inl ⟨rfl, fun w hSw => ?_⟩
      exact EffR.same (by go_simp)
     try simp only [Act.put, zA, zB, zC]
     refine wpAnyU_take (i := 4) (oi := { dst := some 114, op := Op.fieldAddr 71 (Operand.tmp 113) 1, type := 0, pos := "law.go:85", after := #[{ on := 3, ground := Ground.data }, { on := 1, ground := Ground.guard }], guard := some (1, true) }) (v := (.pointer (some ⟨px, 1, none⟩))) rfl (by kernel_rfl) (by kernel_rfl) (by kernel_rfl) (by kernel_rfl) (by kernel_rfl) (fun _ _ _ h => h) (HSA.out.cls) ?_ ?_
     ·
      refine Or.inl ⟨rfl, fun w hSw => ?_⟩
      exact EffR.same (by go_simp)
     try simp only [Act.put, zA, zB, zC]
     refine wpAnyU_take (i := 5) (oi := { dst := some 115, op := Op.load 26 (Operand.tmp 114), type := 26, pos := "law.go:85", after := #[{ on := 4, ground := Ground.data }, { on := 1, ground := Ground.guard }], guard := some (1, true) }) (v := (.pointer (some ⟨g, 0, none⟩))) rfl (by kernel_rfl) (by kernel_rfl) (by kernel_rfl) (by kernel_rfl) (by kernel_rfl) (fun _ _ _ h => h) (HSA.out.cls) ?_ ?_
     ·
      refine Or.inl ⟨rfl, fun w hSw => ?_⟩
      have e0 := hSw.2.1.cell (j := 1) rfl
      exact EffR.same (by go_simp)
     try simp only [Act.put, zA, zB, zC]
     refine wpAnyU_take (i := 6) (oi := { dst := some 116, op := Op.call { callee := Callee.value (Operand.func 58), args := #[Operand.tmp 115], argTypes := #[26] }, type := 3, pos := "law.go:85", after := #[{ on := 5, ground := Ground.data }, { on := 1, ground := Ground.chain }, { on := 1, ground := Ground.guard }], guard := some (1, true) }) (v := (.int .i64 (qO : Int))) rfl (by kernel_rfl) (by kernel_rfl) (by kernel_rfl) (by kernel_rfl) (by kernel_rfl) (fun _ _ _ h => h) (HSA.out.cls) ?_ ?_
     ·
      refine Or.inl ⟨rfl, fun w hSw => ?_⟩
      obtain ⟨Fx, hdx⟩ := hSw.1.dx
      have hg := Open_x _ g n Fx D hdx
      rw [← HQO.out] at hg
      go_simp
      show Calls _ _ _ _ _
      refine hg.mono ?_
      rintro e w1 ⟨rfl, rfl⟩
      exact ⟨rfl, Below.refl _ _⟩
     try simp only [Act.put, zA, zB, zC]
     refine wpAnyU_take (i := 7) (oi := { dst := some 117, op := Op.move (Operand.tmp 0), type := 66, pos := "law.go:85", after := #[{ on := 1, ground := Ground.guard }], guard := some (1, true) }) (v := (.pointer (some ⟨px, 0, none⟩))) rfl (by kernel_rfl) (by kernel_rfl) (by kernel_rfl) (by kernel_rfl) (by kernel_rfl) (fun _ _ _ h => h) (HSA.out.cls) ?_ ?_
     ·
      refine Or.inl ⟨rfl, fun w hSw => ?_⟩
      exact EffR.same (by go_simp)
     try simp only [Act.put, zA, zB, zC]
     refine wpAnyU_take (i := 8) (oi := { dst := some 118, op := Op.nilCheck (Operand.tmp 117), type := 0, pos := "law.go:85", after := #[{ on := 7, ground := Ground.data }, { on := 1, ground := Ground.guard }], guard := some (1, true) }) (v := (.pointer (some ⟨px, 0, none⟩))) rfl (by kernel_rfl) (by kernel_rfl) (by kernel_rfl) (by kernel_rfl) (by kernel_rfl) (fun _ _ _ h => h) (HSA.out.cls) ?_ ?_
     ·
      refine Or.inl ⟨rfl, fun w hSw => ?_⟩
      exact EffR.same (by go_simp)
     try simp only [Act.put, zA, zB, zC]
     refine wpAnyU_take (i := 9) (oi := { dst := some 119, op := Op.fieldAddr 71 (Operand.tmp 118) 3, type := 0, pos := "law.go:85", after := #[{ on := 8, ground := Ground.data }, { on := 1, ground := Ground.guard }], guard := some (1, true) }) (v := (.pointer (some ⟨px, 3, none⟩))) rfl (by kernel_rfl) (by kernel_rfl) (by kernel_rfl) (by kernel_rfl) (by kernel_rfl) (fun _ _ _ h => h) (HSA.out.cls) ?_ ?_
     ·
      refine Or.inl ⟨rfl, fun w hSw => ?_⟩
      exact EffR.same (by go_simp)
     try simp only [Act.put, zA, zB, zC]
     refine wpAnyU_take (i := 10) (oi := { dst := some 120, op := Op.load 67 (Operand.tmp 119), type := 67, pos := "law.go:85", after := #[{ on := 9, ground := Ground.data }, { on := 1, ground := Ground.guard }], guard := some (1, true) }) (v := (.pointer (some ⟨q, 0, none⟩))) rfl (by kernel_rfl) (by kernel_rfl) (by kernel_rfl) (by kernel_rfl) (by kernel_rfl) (fun _ _ _ h => h) (HSA.out.cls) ?_ ?_
     ·
      refine Or.inl ⟨rfl, fun w hSw => ?_⟩
      have e0 := hSw.2.1.cell (j := 3) rfl
      exact EffR.same (by go_simp)
     try simp only [Act.put, zA, zB, zC]
     refine wpAnyU_take (i := 11) (oi := { dst := some 121, op := Op.nilCheck (Operand.tmp 120), type := 0, pos := "law.go:85", after := #[{ on := 10, ground := Ground.data }, { on := 1, ground := Ground.guard }], guard := some (1, true) }) (v := (.pointer (some ⟨q, 0, none⟩))) rfl (by kernel_rfl) (by kernel_rfl) (by kernel_rfl) (by kernel_rfl) (by kernel_rfl) (fun _ _ _ h => h) (HSA.out.cls) ?_ ?_
     ·
      refine Or.inl ⟨rfl, fun w hSw => ?_⟩
      exact EffR.same (by go_simp)
     try simp only [Act.put, zA, zB, zC]
     refine wpAnyU_take (i := 12) (oi := { dst := some 122, op := Op.fieldAddr 78 (Operand.tmp 121) 2, type := 0, pos := "law.go:85", after := #[{ on := 11, ground := Ground.data }, { on := 1, ground := Ground.guard }], guard := some (1, true) }) (v := (.pointer (some ⟨q, 2, none⟩))) rfl (by kernel_rfl) (by kernel_rfl) (by kernel_rfl) (by kernel_rfl) (by kernel_rfl) (fun _ _ _ h => h) (HSA.out.cls) ?_ ?_
     ·
      refine Or.inl ⟨rfl, fun w hSw => ?_⟩
      exact EffR.same (by go_simp)
     try simp only [Act.put, zA, zB, zC]
     refine wpAnyU_take (i := 13) (oi := { dst := some 123, op := Op.load 76 (Operand.tmp 122), type := 76, pos := "law.go:85", after := #[{ on := 12, ground := Ground.data }, { on := 1, ground := Ground.guard }], guard := some (1, true) }) (v := (.slice aO qO cO)) rfl (by kernel_rfl) (by kernel_rfl) (by kernel_rfl) (by kernel_rfl) (by kernel_rfl) (fun _ _ _ h => h) (HSA.out.cls) ?_ ?_
     ·
      refine Or.inl ⟨rfl, fun w hSw => ?_⟩
      have e0 := hSw.2.2.2.2.cell (j := 2) rfl
      exact EffR.same (by go_simp)
     try simp only [Act.put, zA, zB, zC]
     refine wpAnyU_take (i := 14) (oi := { dst := some 124, op := Op.call { callee := Callee.builtin Builtin.len, args := #[Operand.tmp 123], argTypes := #[76] }, type := 3, pos := "law.go:85", after := #[{ on := 13, ground := Ground.data }, { on := 1, ground := Ground.guard }], guard := some (1, true) }) (v := (.int .i64 (qO : Int))) rfl (by kernel_rfl) (by kernel_rfl) (by kernel_rfl) (by kernel_rfl) (by kernel_rfl) (fun _ _ _ h => h) (HSA.out.cls) ?_ ?_
     ·
      refine Or.inl ⟨rfl, fun w hSw => ?_⟩
      exact EffR.same (by go_simp)
     try simp only [Act.put, zA, zB, zC]
     refine wpAnyU_take (i := 15) (oi := { dst := some 125, op := Op.binOp BinOp.eql 3 (Operand.tmp 116) (Operand.tmp 124) 3, type := 4, pos := "law.go:85", after := #[{ on := 6, ground := Ground.data }, { on := 14, ground := Ground.data }, { on := 1, ground := Ground.guard }], guard := some (1, true) }) (v := (.bool true)) rfl (by kernel_rfl) (by kernel_rfl) (by kernel_rfl) (by kernel_rfl) (by kernel_rfl) (fun _ _ _ h => h) (HSA.out.cls) ?_ ?_
     ·
      refine Or.inl ⟨rfl, fun w hSw => ?_⟩
      exact EffR.same (by go_simp)
     try simp only [Act.put, zA, zB, zC]
     refine wpAnyU_take (i := 16) (oi := { dst := some 126, op := Op.pick (Operand.tmp 111) (Operand.tmp 125) (Operand.const (Value.bool false)), type := 4, pos := "law.go:85", after := #[{ on := 1, ground := Ground.data }, { on := 15, ground := Ground.data }], guard := none }) (v := (.bool true)) rfl (by kernel_rfl) (by kernel_rfl) (by kernel_rfl) (by kernel_rfl) (by kernel_rfl) (fun _ _ _ h => h) (HSA.out.cls) ?_ ?_
     ·
      refine Or.inl ⟨rfl, fun w hSw => ?_⟩
      exact EffR.same (by go_simp)
     try simp only [Act.put, zA, zB, zC]
     refine wpAnyU_take (i := 17) (oi := { dst := some 127, op := Op.move (Operand.tmp 126), type := 4, pos := "law.go:85", after := #[{ on := 16, ground := Ground.data }, { on := 6, ground := Ground.chain }], guard := none }) (v := (.bool true)) rfl (by kernel_rfl) (by kernel_rfl) (by kernel_rfl) (by kernel_rfl) (by kernel_rfl) (fun _ _ _ h => h) (HSA.out.cls) ?_ ?_
     ·
      refine Or.inl ⟨rfl, fun w hSw => ?_⟩
      exact EffR.same (by go_simp)
     try simp only [Act.put, zA, zB, zC]
     refine wpAnyU_take (i := 18) (oi := { dst := some 128, op := Op.move (Operand.tmp 0), type := 66, pos := "law.go:85", after := #[{ on := 17, ground := Ground.guard }], guard := some (17, true) }) (v := (.pointer (some ⟨px, 0, none⟩))) rfl (by kernel_rfl) (by kernel_rfl) (by kernel_rfl) (by kernel_rfl) (by kernel_rfl) (fun _ _ _ h => h) (HSA.out.cls) ?_ ?_
     ·
      refine Or.inl ⟨rfl, fun w hSw => ?_⟩
      exact EffR.same (by go_simp)
     try simp only [Act.put, zA, zB, zC]
     refine wpAnyU_take (i := 19) (oi := { dst := some 129, op := Op.nilCheck (Operand.tmp 128), type := 0, pos := "law.go:85", after := #[{ on := 18, ground := Ground.data }, { on := 17, ground := Ground.guard }], guard := some (17, true) }) (v := (.pointer (some ⟨px, 0, none⟩))) rfl (by kernel_rfl) (by kernel_rfl) (by kernel_rfl) (by kernel_rfl) (by kernel_rfl) (fun _ _ _ h => h) (HSA.out.cls) ?_ ?_
     ·
      refine Or.inl ⟨rfl, fun w hSw => ?_⟩
      exact EffR.same (by go_simp)
     try simp only [Act.put, zA, zB, zC]
     refine wpAnyU_take (i := 20) (oi := { dst := some 130, op := Op.fieldAddr 71 (Operand.tmp 129) 1, type := 0, pos := "law.go:85", after := #[{ on := 19, ground := Ground.data }, { on := 17, ground := Ground.guard }], guard := some (17, true) }) (v := (.pointer (some ⟨px, 1, none⟩))) rfl (by kernel_rfl) (by kernel_rfl) (by kernel_rfl) (by kernel_rfl) (by kernel_rfl) (fun _ _ _ h => h) (HSA.out.cls) ?_ ?_
     ·
      refine Or.inl ⟨rfl, fun w hSw => ?_⟩
      exact EffR.same (by go_simp)
     try simp only [Act.put, zA, zB, zC]
     refine wpAnyU_take (i := 21) (oi := { dst := some 131, op := Op.load 26 (Operand.tmp 130), type := 26, pos := "law.go:85", after := #[{ on := 20, ground := Ground.data }, { on := 17, ground := Ground.guard }], guard := some (17, true) }) (v := (.pointer (some ⟨g, 0, none⟩))) rfl (by kernel_rfl) (by kernel_rfl) (by kernel_rfl) (by kernel_rfl) (by kernel_rfl) (fun _ _ _ h => h) (HSA.out.cls) ?_ ?_
     ·
      refine Or.inl ⟨rfl, fun w hSw => ?_⟩
      have e0 := hSw.2.1.cell (j := 1) rfl
      exact EffR.same (by go_simp)
     try simp only [Act.put, zA, zB, zC]
     refine wpAnyU_take (i := 22) (oi := { dst := some 132, op := Op.call { callee := Callee.value (Operand.func 38), args := #[Operand.tmp 131], argTypes := #[26] }, type := 4, pos := "law.go:85", after := #[{ on := 21, ground := Ground.data }, { on := 17, ground := Ground.chain }, { on := 17, ground := Ground.guard }], guard := some (17, true) }) (v := (.bool O)) rfl (by kernel_rfl) (by kernel_rfl) (by kernel_rfl) (by kernel_rfl) (by kernel_rfl) (fun _ _ _ h => h) (HSA.out.cls) ?_ ?_
     ·
      refine Or.inl ⟨rfl, fun w hSw => ?_⟩
      obtain ⟨Fx, hdx⟩ := hSw.1.dx
      have hg := Off_x _ g n Fx D hdx
      rw [← HOO.out] at hg
      go_simp
      show Calls _ _ _ _ _
      refine hg.mono ?_
      rintro e w1 ⟨rfl, rfl⟩
      exact ⟨rfl, Below.refl _ _⟩
     try simp only [Act.put, zA, zB, zC]
     refine wpAnyU_take (i := 23) (oi := { dst := some 133, op := Op.move (Operand.tmp 0), type := 66, pos := "law.go:85", after := #[{ on := 17, ground := Ground.guard }], guard := some (17, true) }) (v := (.pointer (some ⟨px, 0, none⟩))) rfl (by kernel_rfl) (by kernel_rfl) (by kernel_rfl) (by kernel_rfl) (by kernel_rfl) (fun _ _ _ h => h) (HSA.out.cls) ?_ ?_
     ·
      refine Or.inl ⟨rfl, fun w hSw => ?_⟩
      exact EffR.same (by go_simp)
     try simp only [Act.put, zA, zB, zC]
     refine wpAnyU_take (i := 24) (oi := { dst := some 134, op := Op.nilCheck (Operand.tmp 133), type := 0, pos := "law.go:85", after := #[{ on := 23, ground := Ground.data }, { on := 17, ground := Ground.guard }], guard := some (17, true) }) (v := (.pointer (some ⟨px, 0, none⟩))) rfl (by kernel_rfl) (by kernel_rfl) (by kernel_rfl) (by kernel_rfl) (by kernel_rfl) (fun _ _ _ h => h) (HSA.out.cls) ?_ ?_
     ·
      refine Or.inl ⟨rfl, fun w hSw => ?_⟩
      exact EffR.same (by go_simp)
     try simp only [Act.put, zA, zB, zC]
     refine wpAnyU_take (i := 25) (oi := { dst := some 135, op := Op.fieldAddr 71 (Operand.tmp 134) 3, type := 0, pos := "law.go:85", after := #[{ on := 24, ground := Ground.data }, { on := 17, ground := Ground.guard }], guard := some (17, true) }) (v := (.pointer (some ⟨px, 3, none⟩))) rfl (by kernel_rfl) (by kernel_rfl) (by kernel_rfl) (by kernel_rfl) (by kernel_rfl) (fun _ _ _ h => h) (HSA.out.cls) ?_ ?_
     ·
      refine Or.inl ⟨rfl, fun w hSw => ?_⟩
      exact EffR.same (by go_simp)
     try simp only [Act.put, zA, zB, zC]
     refine wpAnyU_take (i := 26) (oi := { dst := some 136, op := Op.load 67 (Operand.tmp 135), type := 67, pos := "law.go:85", after := #[{ on := 25, ground := Ground.data }, { on := 17, ground := Ground.guard }], guard := some (17, true) }) (v := (.pointer (some ⟨q, 0, none⟩))) rfl (by kernel_rfl) (by kernel_rfl) (by kernel_rfl) (by kernel_rfl) (by kernel_rfl) (fun _ _ _ h => h) (HSA.out.cls) ?_ ?_
     ·
      refine Or.inl ⟨rfl, fun w hSw => ?_⟩
      have e0 := hSw.2.1.cell (j := 3) rfl
      exact EffR.same (by go_simp)
     try simp only [Act.put, zA, zB, zC]
     refine wpAnyU_take (i := 27) (oi := { dst := some 137, op := Op.nilCheck (Operand.tmp 136), type := 0, pos := "law.go:85", after := #[{ on := 26, ground := Ground.data }, { on := 17, ground := Ground.guard }], guard := some (17, true) }) (v := (.pointer (some ⟨q, 0, none⟩))) rfl (by kernel_rfl) (by kernel_rfl) (by kernel_rfl) (by kernel_rfl) (by kernel_rfl) (fun _ _ _ h => h) (HSA.out.cls) ?_ ?_
     ·
      refine Or.inl ⟨rfl, fun w hSw => ?_⟩
      exact EffR.same (by go_simp)
     try simp only [Act.put, zA, zB, zC]
     refine wpAnyU_take (i := 28) (oi := { dst := some 138, op := Op.fieldAddr 78 (Operand.tmp 137) 3, type := 0, pos := "law.go:85", after := #[{ on := 27, ground := Ground.data }, { on := 17, ground := Ground.guard }], guard := some (17, true) }) (v := (.pointer (some ⟨q, 3, none⟩))) rfl (by kernel_rfl) (by kernel_rfl) (by kernel_rfl) (by kernel_rfl) (by kernel_rfl) (fun _ _ _ h => h) (HSA.out.cls) ?_ ?_
     ·
      refine Or.inl ⟨rfl, fun w hSw => ?_⟩
      exact EffR.same (by go_simp)
     try simp only [Act.put, zA, zB, zC]
     refine wpAnyU_take (i := 29) (oi := { dst := some 139, op := Op.load 4 (Operand.tmp 138), type := 4, pos := "law.go:85", after := #[{ on := 28, ground := Ground.data }, { on := 17, ground := Ground.guard }], guard := some (17, true) }) (v := (.bool O)) rfl (by kernel_rfl) (by kernel_rfl) (by kernel_rfl) (by kernel_rfl) (by kernel_rfl) (fun _ _ _ h => h) (HSA.out.cls) ?_ ?_
     ·
      refine Or.inl ⟨rfl, fun w hSw => ?_⟩
      have e0 := hSw.2.2.2.2.cell (j := 3) rfl
      rw [← HOO.out] at e0
      exact EffR.same (by go_simp)
     try simp only [Act.put, zA, zB, zC]
     refine wpAnyU_take (i := 30) (oi := { dst := some 140, op := Op.binOp BinOp.eql 4 (Operand.tmp 132) (Operand.tmp 139) 4, type := 4, pos := "law.go:85", after := #[{ on := 22, ground := Ground.data }, { on := 29, ground := Ground.data }, { on := 17, ground := Ground.guard }], guard := some (17, true) }) (v := (.bool true)) rfl (by kernel_rfl) (by kernel_rfl) (by kernel_rfl) (by kernel_rfl) (by kernel_rfl) (fun _ _ _ h => h) (HSA.out.cls) ?_ ?_
     ·
      refine Or.inl ⟨rfl, fun w hSw => ?_⟩
      exact EffR.same (by go_simp)
     try simp only [Act.put, zA, zB, zC]
     refine wpAnyU_take (i := 31) (oi := { dst := some 141, op := Op.pick (Operand.tmp 127) (Operand.tmp 140) (Operand.const (Value.bool false)), type := 4, pos := "law.go:85", after := #[{ on := 17, ground := Ground.data }, { on := 30, ground := Ground.data }], guard := none }) (v := (.bool true)) rfl (by kernel_rfl) (by kernel_rfl) (by kernel_rfl) (by kernel_rfl) (by kernel_rfl) (fun _ _ _ h => h) (HSA.out.cls) ?_ ?_
     ·
      refine Or.inl ⟨rfl, fun w hSw => ?_⟩
      exact EffR.same (by go_simp)
     try simp only [Act.put, zA, zB, zC]
     refine wpAnyU_take (i := 32) (oi := { dst := some 142, op := Op.move (Operand.tmp 141), type := 4, pos := "law.go:85", after := #[{ on := 31, ground := Ground.data }, { on := 22, ground := Ground.chain }], guard := none }) (v := (.bool true)) rfl (by kernel_rfl) (by kernel_rfl) (by kernel_rfl) (by kernel_rfl) (by kernel_rfl) (fun _ _ _ h => h) (HSA.out.cls) ?_ ?_
     ·
      refine Or.inl ⟨rfl, fun w hSw => ?_⟩
      exact EffR.same (by go_simp)
     try simp only [Act.put, zA, zB, zC]
     refine wpAnyU_take (i := 33) (oi := { dst := some 143, op := Op.move (Operand.tmp 0), type := 66, pos := "law.go:85", after := #[{ on := 32, ground := Ground.guard }], guard := some (32, true) }) (v := (.pointer (some ⟨px, 0, none⟩))) rfl (by kernel_rfl) (by kernel_rfl) (by kernel_rfl) (by kernel_rfl) (by kernel_rfl) (fun _ _ _ h => h) (HSA.out.cls) ?_ ?_
     ·
      refine Or.inl ⟨rfl, fun w hSw => ?_⟩
      exact EffR.same (by go_simp)
     try simp only [Act.put, zA, zB, zC]
     refine wpAnyU_take (i := 34) (oi := { dst := some 144, op := Op.nilCheck (Operand.tmp 143), type := 0, pos := "law.go:85", after := #[{ on := 33, ground := Ground.data }, { on := 32, ground := Ground.guard }], guard := some (32, true) }) (v := (.pointer (some ⟨px, 0, none⟩))) rfl (by kernel_rfl) (by kernel_rfl) (by kernel_rfl) (by kernel_rfl) (by kernel_rfl) (fun _ _ _ h => h) (HSA.out.cls) ?_ ?_
     ·
      refine Or.inl ⟨rfl, fun w hSw => ?_⟩
      exact EffR.same (by go_simp)
     try simp only [Act.put, zA, zB, zC]
     refine wpAnyU_take (i := 35) (oi := { dst := some 145, op := Op.fieldAddr 71 (Operand.tmp 144) 0, type := 0, pos := "law.go:85", after := #[{ on := 34, ground := Ground.data }, { on := 32, ground := Ground.guard }], guard := some (32, true) }) (v := (.pointer (some ⟨px, 0, none⟩))) rfl (by kernel_rfl) (by kernel_rfl) (by kernel_rfl) (by kernel_rfl) (by kernel_rfl) (fun _ _ _ h => h) (HSA.out.cls) ?_ ?_
     ·
      refine Or.inl ⟨rfl, fun w hSw => ?_⟩
      exact EffR.same (by go_simp)
     try simp only [Act.put, zA, zB, zC]
     refine wpAnyU_take (i := 36) (oi := { dst := some 146, op := Op.load 30 (Operand.tmp 145), type := 30, pos := "law.go:85", after := #[{ on := 35, ground := Ground.data }, { on := 32, ground := Ground.guard }], guard := some (32, true) }) (v := (.pointer (some ⟨gl, 0, none⟩))) rfl (by kernel_rfl) (by kernel_rfl) (by kernel_rfl) (by kernel_rfl) (by kernel_rfl) (fun _ _ _ h => h) (HSA.out.cls) ?_ ?_
     ·
      refine Or.inl ⟨rfl, fun w hSw => ?_⟩
      have e0 := hSw.2.1.cell (j := 0) rfl
      exact EffR.same (by go_simp)
     try simp only [Act.put, zA, zB, zC]
     refine wpAnyU_take (i := 38) (oi := { dst := some 148, op := Op.move (Operand.tmp 0), type := 66, pos := "law.go:85", after := #[{ on := 32, ground := Ground.guard }], guard := some (32, true) }) (v := (.pointer (some ⟨px, 0, none⟩))) rfl (by kernel_rfl) (by kernel_rfl) (by kernel_rfl) (by kernel_rfl) (by kernel_rfl) (fun _ _ _ h => h) (HSA.out.cls) ?_ ?_
     ·
      refine Or.inl ⟨rfl, fun w hSw => ?_⟩
      exact EffR.same (by go_simp)
     try simp only [Act.put, zA, zB, zC]
     refine wpAnyU_take (i := 39) (oi := { dst := some 149, op := Op.nilCheck (Operand.tmp 148), type := 0, pos := "law.go:85", after := #[{ on := 38, ground := Ground.data }, { on := 32, ground := Ground.guard }], guard := some (32, true) }) (v := (.pointer (some ⟨px, 0, none⟩))) rfl (by kernel_rfl) (by kernel_rfl) (by kernel_rfl) (by kernel_rfl) (by kernel_rfl) (fun _ _ _ h => h) (HSA.out.cls) ?_ ?_
     ·
      refine Or.inl ⟨rfl, fun w hSw => ?_⟩
      exact EffR.same (by go_simp)
     try simp only [Act.put, zA, zB, zC]
     refine wpAnyU_take (i := 40) (oi := { dst := some 150, op := Op.fieldAddr 71 (Operand.tmp 149) 2, type := 0, pos := "law.go:85", after := #[{ on := 39, ground := Ground.data }, { on := 32, ground := Ground.guard }], guard := some (32, true) }) (v := (.pointer (some ⟨px, 2, none⟩))) rfl (by kernel_rfl) (by kernel_rfl) (by kernel_rfl) (by kernel_rfl) (by kernel_rfl) (fun _ _ _ h => h) (HSA.out.cls) ?_ ?_
     ·
      refine Or.inl ⟨rfl, fun w hSw => ?_⟩
      exact EffR.same (by go_simp)
     try simp only [Act.put, zA, zB, zC]
     refine wpAnyU_take (i := 41) (oi := { dst := some 151, op := Op.load 69 (Operand.tmp 150), type := 69, pos := "law.go:85", after := #[{ on := 40, ground := Ground.data }, { on := 32, ground := Ground.guard }], guard := some (32, true) }) (v := (.pointer (some ⟨rl, 0, none⟩))) rfl (by kernel_rfl) (by kernel_rfl) (by kernel_rfl) (by kernel_rfl) (by kernel_rfl) (fun _ _ _ h => h) (HSA.out.cls) ?_ ?_
     ·
      refine Or.inl ⟨rfl, fun w hSw => ?_⟩
      have e0 := hSw.2.1.cell (j := 2) rfl
      exact EffR.same (by go_simp)
     try simp only [Act.put, zA, zB, zC]
     refine wpAnyU_take (i := 42) (oi := { dst := some 152, op := Op.nilCheck (Operand.tmp 151), type := 0, pos := "law.go:85", after := #[{ on := 41, ground := Ground.data }, { on := 32, ground := Ground.guard }], guard := some (32, true) }) (v := (.pointer (some ⟨rl, 0, none⟩))) rfl (by kernel_rfl) (by kernel_rfl) (by kernel_rfl) (by kernel_rfl) (by kernel_rfl) (fun _ _ _ h => h) (HSA.out.cls) ?_ ?_
     ·
      refine Or.inl ⟨rfl, fun w hSw => ?_⟩
      exact EffR.same (by go_simp)
     try simp only [Act.put, zA, zB, zC]
     refine wpAnyU_take (i := 43) (oi := { dst := some 153, op := Op.fieldAddr 107 (Operand.tmp 152) 4, type := 0, pos := "law.go:85", after := #[{ on := 42, ground := Ground.data }, { on := 32, ground := Ground.guard }], guard := some (32, true) }) (v := (.pointer (some ⟨rl, 4, none⟩))) rfl (by kernel_rfl) (by kernel_rfl) (by kernel_rfl) (by kernel_rfl) (by kernel_rfl) (fun _ _ _ h => h) (HSA.out.cls) ?_ ?_
     ·
      refine Or.inl ⟨rfl, fun w hSw => ?_⟩
      exact EffR.same (by go_simp)
     try simp only [Act.put, zA, zB, zC]
     refine wpAnyU_take (i := 44) (oi := { dst := some 154, op := Op.load 23 (Operand.tmp 153), type := 23, pos := "law.go:85", after := #[{ on := 43, ground := Ground.data }, { on := 32, ground := Ground.guard }], guard := some (32, true) }) (v := (.slice a2 n2 c2)) rfl (by kernel_rfl) (by kernel_rfl) (by kernel_rfl) (by kernel_rfl) (by kernel_rfl) (fun _ _ _ h => h) (HSA.out.cls) ?_ ?_
     ·
      refine Or.inl ⟨rfl, fun w hSw => ?_⟩
      have e0 := hSw.2.2.1.cell (j := 4) rfl
      exact EffR.same (by go_simp)
     try simp only [Act.put, zA, zB, zC]
     refine wpAnyU_ready (rs := [37]) (by kernel_rfl) (by simp) ?_
     refine AllReadyU.cons (o := { dst := some 147, op := Op.call { callee := Callee.value (Operand.func 19), args := #[Operand.tmp 146], argTypes := #[30] }, type := 23, pos := "law.go:85", after := #[{ on := 36, ground := Ground.data }, { on := 32, ground := Ground.chain }, { on := 32, ground := Ground.guard }], guard := some (32, true) }) rfl (fun wA37 hA37 K hK => ?_) AllReadyU.nil
     obtain ⟨Fl, hlx⟩ := (HSA.out.below hA37).1.lx
     have hs := Recs_any wA37 gl g Fl T hlx HRLL.out HRNL.out
     rw [← HRC.out] at hs
     go_simp
     refine hs.mono ?_
     clear hs hlx
     rintro e0 w5 ⟨v5, rfl, hv5, hb5⟩
     obtain ⟨r1, r2, r3, rfl, hv6⟩ := hv5.named3
     have HSA5 := Lib.hid ((HSA.out.below hA37).below hb5)
     have HB5 : Hid (Below w.heap.size w w5) := (HB.out.next hA37).next hb5
     have HR5 := Lib.hid hv6
     refine hK.out _ _ (BL w5) (HSA5.out.cls) (Below.refl _ _) ?_
     clear hv5 hv6 hb5
     clear hK K
     try simp only [Act.put, zA, zB, zC]
     refine wpAnyU_ready (rs := [45]) (by kernel_rfl) (by simp) ?_
     refine AllReadyU.cons (o := { dst := some 155, op := Op.call { callee := Callee.value (Operand.func 18), args := #[Operand.tmp 147, Operand.tmp 154], argTypes := #[23, 23] }, type := 4, pos := "law.go:85", after := #[{ on := 37, ground := Ground.data }, { on := 44, ground := Ground.data }, { on := 37, ground := Ground.chain }, { on := 32, ground := Ground.guard }], guard := some (32, true) }) rfl (fun wA45 hA45 K hK => ?_) AllReadyU.nil
     have hx := HSA5.out.below hA45
     have hs := Rows_any wA45 (.slice r1 r2 r3) (.slice a2 n2 c2) RC RC (HR5.out.below hA45).bss (by have := hx.2.2.2.1.2.2.bss; rw [← HRC.out] at this; exact this) HRNB.out
     rw [decide_eq_true rfl] at hs
     go_simp
     refine hs.mono ?_
     clear hs
     rintro e0 w6 ⟨rfl, hb6⟩
     have HSA6 := Lib.hid (hx.below hb6)
     have HB6 : Hid (Below w.heap.size w w6) := (HB5.out.next hA45).next hb6
     refine hK.out _ _ (BL w6) (HSA6.out.cls) (Below.refl _ _) ?_
     clear hx hb6
     clear hK K
     try simp only [Act.put, zA, zB, zC]
     refine wpAnyU_take (i := 46) (oi := { dst := some 156, op := Op.pick (Operand.tmp 142) (Operand.tmp 155) (Operand.const (Value.bool false)), type := 4, pos := "law.go:85", after := #[{ on := 32, ground := Ground.data }, { on := 45, ground := Ground.data }], guard := none }) (v := (.bool true)) rfl (by kernel_rfl) (by kernel_rfl) (by kernel_rfl) (by kernel_rfl) (by kernel_rfl) (fun _ _ _ h => h) (HSA6.out.cls) ?_ ?_
     ·
      refine Or.inl ⟨rfl, fun w hSw => ?_⟩
      exact EffR.same (by go_simp)
     try simp only [Act.put, zA, zB, zC]
     refine wpAnyU_take (i := 47) (oi := { dst := some 2, op := Op.assign (Operand.tmp 156), type := 4, pos := "law.go:85", after := #[{ on := 46, ground := Ground.data }, { on := 45, ground := Ground.chain }, { on := 0, ground := Ground.phase }, { on := 1, ground := Ground.phase }, { on := 2, ground := Ground.phase }, { on := 3, ground := Ground.phase }, { on := 4, ground := Ground.phase }, { on := 5, ground := Ground.phase }, { on := 6, ground := Ground.phase }, { on := 7, ground := Ground.phase }, { on := 8, ground := Ground.phase }, { on := 9, ground := Ground.phase }, { on := 10, ground := Ground.phase }, { on := 11, ground := Ground.phase }, { on := 12, ground := Ground.phase }, { on := 13, ground := Ground.phase }, { on := 14, ground := Ground.phase }, { on := 15, ground := Ground.phase }, { on := 16, ground := Ground.phase }, { on := 17, ground := Ground.phase }, { on := 18, ground := Ground.phase }, { on := 19, ground := Ground.phase }, { on := 20, ground := Ground.phase }, { on := 21, ground := Ground.phase }, { on := 22, ground := Ground.phase }, { on := 23, ground := Ground.phase }, { on := 24, ground := Ground.phase }, { on := 25, ground := Ground.phase }, { on := 26, ground := Ground.phase }, { on := 27, ground := Ground.phase }, { on := 28, ground := Ground.phase }, { on := 29, ground := Ground.phase }, { on := 30, ground := Ground.phase }, { on := 31, ground := Ground.phase }, { on := 32, ground := Ground.phase }, { on := 33, ground := Ground.phase }, { on := 34, ground := Ground.phase }, { on := 35, ground := Ground.phase }, { on := 36, ground := Ground.phase }, { on := 37, ground := Ground.phase }, { on := 38, ground := Ground.phase }, { on := 39, ground := Ground.phase }, { on := 40, ground := Ground.phase }, { on := 41, ground := Ground.phase }, { on := 42, ground := Ground.phase }, { on := 43, ground := Ground.phase }, { on := 44, ground := Ground.phase }, { on := 45, ground := Ground.phase }, { on := 46, ground := Ground.phase }], guard := none }) (v := (.bool true)) rfl (by kernel_rfl) (by kernel_rfl) (by kernel_rfl) (by kernel_rfl) (by kernel_rfl) (fun _ _ _ h => h) (HSA6.out.cls) ?_ ?_
     ·
      refine Or.inl ⟨rfl, fun w hSw => ?_⟩
      exact EffR.same (by go_simp)
     try simp only [Act.put, zA, zB, zC]
     refine wpAnyU_done (by kernel_rfl) (fun w1 hb1 => ?_) _
     have HB7 : Hid (Below w.heap.size w w1) := HB6.out.next hb1
     clear hb1
     go_wp2_with fail
     go_ret
     exact ⟨rfl, HB7.out⟩
end Cam
