import Derived.Test.YtlnclfiiplpaiaaLeS
/- LogExact: step. -/
namespace Cam
open Go Go.RowKit Go.Proofs
theorem Inv.upto {n k k' : Nat} {D : DK} {T : LT} (h : Inv n D T k) (hk : k ≤ k') : Inv n D T k' := ⟨h.n4, h.n3, h.full, h.torn, h.fr, h.gen, h.fin, h.snap, h.recs, by have := h.num; omega, by have := h.op; omega⟩
theorem KC.fresh {F0 F S : Nat → Prop} {w0 w1 w2 : World} (h : KC F0 w0 F w1) (hk : Kept S w1 w2) (hS : ∀ k, S k → w0.heap.size ≤ k) : KC F0 w0 F w2 := ⟨h.1.trans hk (fun i hi e => by have := hS i e; omega), h.2⟩
def DInv (D : DK) (k : Nat) : Prop := D.now = sets D.syn D.op ∧ (D.torn = true → D.off = true) ∧ D.op.length ≤ 1000 * (k + 4)
def OpenP (F : Nat → Prop) (w : World) (px g q n : Nat) (D : DK) (w' : World) : Prop := ∃ F' vl vr, HT w' px 71 (pcl vl g vr q) ∧ Kept (fun k => k = px) w w' ∧ (∀ k, F' k → F k ∨ w.heap.size ≤ k) ∧
 ((D.off = true ∧ E5 F' w' g q n D) ∨ (D.off = false ∧ ∃ gl rl, vl = .pointer (some ⟨gl, 0, none⟩) ∧ vr = .pointer (some ⟨rl, 0, none⟩) ∧ L5 F' w' g gl q rl n D (openT n D.now) D (openT n D.now)))
theorem E5.kept {F S : Nat → Prop} {w w' : World} {g q n : Nat} {D : DK} (h : E5 F w g q n D) (hk : Kept S w w') (hS : ∀ k, F k → ¬ S k) : E5 F w' g q n D := by
 obtain ⟨Fd, Pd, h1, h2, h3, h4⟩ := h
 exact ⟨Fd, Pd, h1.kept hk (fun k e => hS k ((h4 k).2 (.inl e))), h2.kept hk (fun k e => hS k ((h4 k).2 (.inr e))), h3, h4⟩
theorem OpenP.below {F : Nat → Prop} {w w1 w2 : World} {px g q n : Nat} {D : DK} (h : OpenP F w px g q n D w1) (hb : Below w1.heap.size w1 w2) : OpenP F w px g q n D w2 := by
 obtain ⟨F', vl, vr, h1, h2, h3, h4⟩ := h
 refine ⟨F', vl, vr, h1.below hb, h2.next hb, h3, ?_⟩
 rcases h4 with ⟨ho, h5⟩ | ⟨ho, gl, rl, e1, e2, h5⟩
 ·
  exact .inl ⟨ho, h5.kept (Kept.of_below hb) (fun _ _ e => e)⟩
 ·
  exact .inr ⟨ho, gl, rl, e1, e2, h5.below hb⟩
set_option maxHeartbeats 800000 in
theorem open_off5 (F : Nat → Prop) (w : World) (px g q n : Nat) (D : DK) (vl vr : Value) (hx : HT w px 71 (pcl vl g vr q)) (h : E5 F w g q n D) (hoff : D.off = true) :
  Calls Try.prog 33 #[.pointer (some ⟨px, 0, none⟩)] w fun e w' => e = .returned (.bool true) ∧ HT w' px 71 (pcl (.pointer none) g (.pointer none) q) ∧ Kept (fun k => k = px) w w' := by
 obtain ⟨Fd, Pd, h1, h2, h3, h4⟩ := h
 have hx1 := hx.cell (j := 1) rfl
 have hx3 := hx.cell (j := 3) rfl
 have ho := Open_off w g n Fd D h1 hoff
 have hp := POpen_off w q n Pd D h2 hoff
 have c0 := hx.cell (j := 0) rfl
 have f0 := hx.frozen 0
 have c2 := hx.cell (j := 2) rfl
 have f2 := hx.frozen 2
 have HX := Lib.hid hx
 clear hx h1 h2 h3 h4 hoff
 have HW : Hid (HT ((w.setCell ⟨px, 0, none⟩ (.pointer none)).setCell ⟨px, 2, none⟩ (.pointer none)) px 71 (pcl (.pointer none) g (.pointer none) q)) := (HX.out.put 0 (.pointer none)).put 2 (.pointer none)
 have HK : Hid (Kept (fun k => k = px) w ((w.setCell ⟨px, 0, none⟩ (.pointer none)).setCell ⟨px, 2, none⟩ (.pointer none))) := ((Kept.refl (fun k => k = px) w).setCell ⟨px, 0, none⟩ _ rfl).setCell ⟨px, 2, none⟩ _ rfl
 go_enter Try.func33, Try.ntmps33
 go_wp2_with fail
 refine ho.mono ?_
 clear ho
 rintro e w1 ⟨rfl, rfl⟩
 go_wp2_with fail
 refine hp.mono ?_
 clear hp
 rintro e w2 ⟨rfl, rfl⟩
 go_wp2_with fail
 go_ret
 exact ⟨rfl, HW.out, HK.out⟩
theorem open_any (F : Nat → Prop) (w : World) (px g q n : Nat) (D : DK) (vl vr : Value) (hx : HT w px 71 (pcl vl g vr q)) (h : E5 F w g q n D) (hpx : ¬ F px) (hfull : D.now = sets D.syn D.op) (hn : 4 ≤ n) :
  Calls Try.prog 33 #[.pointer (some ⟨px, 0, none⟩)] w fun e w' => e = .returned (.bool true) ∧ OpenP F w px g q n D w' := by
 by_cases ho : D.off = true
 ·
  refine (open_off5 F w px g q n D vl vr hx h ho).mono ?_
  rintro e w' ⟨he, hx', hk⟩
  exact ⟨he, F, _, _, hx', hk, fun k e => .inl e, .inl ⟨ho, h.kept hk (fun k e1 e2 => hpx (by rw [← e2]; exact e1))⟩⟩
 ·
  refine (open_5 F w px g q n D vl vr hx h hpx (by simpa using ho) hfull hn).mono ?_
  rintro e w' ⟨he, F', gl, rl, hl, hx', hk, hf⟩
  exact ⟨he, F', _, _, hx', hk, hf, .inr ⟨by simpa using ho, gl, rl, rfl, rfl, hl⟩⟩
theorem start_crash (D : DK) (pk : List Int) (k : Nat) : DInv (dStart (dCrash D pk)) k := by
 have ht : (dCrash D pk).torn = false := rfl
 unfold dStart
 rw [if_neg (by rw [ht]; simp)]
 exact ⟨rfl, (fun e => by cases e), Nat.zero_le _⟩
def StepPost (F : Nat → Prop) (w : World) (px g q n k : Nat) (e : Ending) (w' : World) : Prop := e = .returned (.bool true) ∧ ∃ F' D vl vr, Kept (fun j => F j ∨ j = px) w w' ∧ (∀ j, F' j → F j ∨ w.heap.size ≤ j) ∧ HT w' px 71 (pcl vl g vr q) ∧
 ((D.off = true ∧ E5 F' w' g q n D ∧ DInv D k) ∨ (D.off = false ∧ ∃ gl rl T, vl = .pointer (some ⟨gl, 0, none⟩) ∧ vr = .pointer (some ⟨rl, 0, none⟩) ∧ L5 F' w' g gl q rl n D T D T ∧ Inv n D T (k + 3)))
theorem StepPost.same {F F' : Nat → Prop} {w w' : World} {px g gl q rl n k : Nat} {D : DK} {T : LT} (hl : L5 F' w' g gl q rl n D T D T) (hI : Inv n D T (k + 3)) (hc : KC F w F' w') (hx : Stay F w (fun x => HT x px 71 (pcl (.pointer (some ⟨gl, 0, none⟩)) g (.pointer (some ⟨rl, 0, none⟩)) q))) :
  StepPost F w px g q n k (.returned (.bool true)) w' := by
 by_cases ho : D.off = true
 ·
  obtain ⟨F5, h5, hs⟩ := hl.disks
  exact ⟨rfl, F5, D, _, _, hc.1.weaken (fun j e => .inl e), fun j e => hc.2 j (hs j e), hc.here hx, .inl ⟨ho, h5, hI.full, hI.torn, hI.op⟩⟩
 ·
  exact ⟨rfl, F', D, _, _, hc.1.weaken (fun j e => .inl e), hc.2, hc.here hx, .inr ⟨by simpa using ho, gl, rl, T, rfl, rfl, hl, hI⟩⟩
theorem L5.now {F : Nat → Prop} {w : World} {g gl q rl n : Nat} {D1 D2 : DK} {T1 T2 : LT} (h : L5 F w g gl q rl n D1 T1 D2 T2) : D1.now.length = n := by
 obtain ⟨Fa, Fb, h1, _⟩ := h
 exact h1.ok.now.1
theorem StepPost.opened {F F2 F5 : Nat → Prop} {w w2 w' : World} {px g q n k : Nat} {D0 D : DK} {T0 : LT} (hI : Inv n D0 T0 k) (hc : KC F w F2 w2) (hs : ∀ j, F5 j → F2 j) (hd : DInv D k) (ho : OpenP F5 w2 px g q n D w') : StepPost F w px g q n k (.returned (.bool true)) w' := by
 obtain ⟨F', vl, vr, h1, h2, h3, h4⟩ := ho
 have hz := hc.1.size
 refine ⟨rfl, F', D, vl, vr, (hc.1.weaken (fun j e => .inl e)).trans h2 (fun i _ e => .inr e), fun j e => ?_, h1, ?_⟩
 ·
  rcases h3 j e with e | e
  ·
   exact hc.2 j (hs j e)
  ·
   right; omega
 ·
  rcases h4 with ⟨ho, h5⟩ | ⟨ho, gl, rl, e1, e2, h5⟩
  ·
   exact .inl ⟨ho, h5, hd⟩
  ·
   exact .inr ⟨ho, gl, rl, _, e1, e2, h5, Inv.open hI.n4 hI.n3 h5.now hd.1 hd.2.1 hd.2.2⟩
def SP (px g gl q rl gb : Nat) (C : List Value) (x : World) : Prop := HT x px 71 (pcl (.pointer (some ⟨gl, 0, none⟩)) g (.pointer (some ⟨rl, 0, none⟩)) q) ∧ HT x gb 74 C
def SQ (px g q bb : Nat) (b : List UInt8) (x : World) : Prop := x.cell? ⟨px, 1, none⟩ = some (.pointer (some ⟨g, 0, none⟩)) ∧ x.cell? ⟨px, 3, none⟩ = some (.pointer (some ⟨q, 0, none⟩)) ∧ x.rangeAt bb 0 (bvs b)
def cutB (b : List UInt8) (j : Nat) : List UInt8 := b.take j ++ List.replicate (64 - j) 0
theorem cutB_zero (b : List UInt8) : cutB b 0 = zero64 := by unfold cutB zero64; rw [List.take_zero]; rfl
theorem cutB_length {b : List UInt8} {j : Nat} (h1 : j ≤ 64) (h2 : j ≤ b.length) : (cutB b j).length = 64 := by
 unfold cutB
 rw [List.length_append, List.length_take, List.length_replicate]
 omega
theorem cutB_step (b : List UInt8) {j : Nat} (h1 : j < 64) (h2 : j < b.length) : (cutB b j).set j b[j] = cutB b (j + 1) := by
 unfold cutB
 rw [List.set_append_right _ _ (by rw [List.length_take]; omega), List.length_take, show j - min j b.length = 0 by omega, show 64 - j = (64 - (j + 1)) + 1 by omega, List.replicate_succ, List.set_cons_zero, List.take_succ_eq_append_getElem h2, List.append_assoc]
 rfl
theorem as_u64L (x : Int) : ∃ u : Nat, IntKind.u64.wrap x = (u : Int) ∧ u < 18446744073709551616 := by
 refine ⟨(IntKind.u64.wrap x).toNat, ?_, ?_⟩
 ·
  rw [IntKind.wrap_u64]
  omega
 ·
  rw [IntKind.wrap_u64]
  omega
set_option maxRecDepth 100000 in
set_option maxHeartbeats 12800000 in
theorem step_any (F : Nat → Prop) (w : World) (px g gl q rl n kk : Nat) (D : DK) (T : LT) (h : L5 F w g gl q rl n D T D T) (hI : Inv n D T kk) (hk : kk ≤ 300) (hoff : D.off = false) (hx : HT w px 71 (pcl (.pointer (some ⟨gl, 0, none⟩)) g (.pointer (some ⟨rl, 0, none⟩)) q)) (hpx : ¬ F px)
  (do_ num : Int) (bl : List UInt8) (rows : List (List UInt8)) (pk : List Int) (a2 a3 a4 : Option Addr) (m2 c2 m3 c3 m4 c4 : Nat) (L : List SV) (h2 : Stay F w (fun y => Bs y (.slice a2 m2 c2) bl)) (h3 : Stay F w (fun y => Rs encS 1 y (.slice a3 m3 c3) L ∧ RowsOf y L rows)) (h4 : Stay F w (fun y => Is y (.slice a4 m4 c4) pk))
  (hl2 : bl.length ≤ 2000) (hl3 : rows.length ≤ 20) (hl3r : ∀ r ∈ rows, r.length ≤ 2000) (hnb : -9223372036854775808 ≤ num ∧ num ≤ 9223372036854775807) :
  Calls Try.prog 34 #[.pointer (some ⟨px, 0, none⟩), .agg #[.int .i64 do_, .int .i64 num, .slice a2 m2 c2, .slice a3 m3 c3, .slice a4 m4 c4]] w (StepPost F w px g q n kk) := by
 obtain ⟨u, hu, hu64⟩ := as_u64L do_
 obtain ⟨r, hr, hr8⟩ : ∃ r : Nat, ((u : Int) % 10) = (r : Int) ∧ r < 10 := ⟨u % 10, by omega, by omega⟩
 have HL := Lib.hid h
 have hI := Lib.hid hI
 have HOFF := Lib.hid hoff
 have HSXP := Lib.hid hx
 have HPX := Lib.hid hpx
 have HPXW := Lib.hid hx.lt
 have HLT := Lib.hid (fun k e => h.lt k e)
 have HB2 : Hid (Bs w (.slice a2 m2 c2) bl) := h2.here
 have HM2 : Hid (m2 = bl.length) := by
  obtain ⟨a9, c9, e9, _⟩ := h2.here.shape
  simp only [Value.slice.injEq] at e9
  exact e9.2.1
 have HM3 : Hid (m3 = rows.length) := by
  obtain ⟨a9, c9, e9, _⟩ := h3.here.1.shape
  simp only [Value.slice.injEq] at e9
  rw [e9.2.1]
  exact h3.here.2.1
 have HLB : Hid (bl.length ≤ 65536) := by show _ ≤ _; omega
 have hm2b : m2 ≤ 2000 := by rw [HM2.out]; exact hl2
 have HLR : Hid (∀ r ∈ rows, r.length ≤ 65536) := fun r hr => by have := hl3r r hr; omega
 have HNL : Hid (rows.length ≤ 1000) := by show _ ≤ _; omega
 have HNB : Hid (num ≤ 9223372036854775807) := hnb.2
 have HSX : Hid (Stay F w (fun x => HT x px 71 (pcl (.pointer (some ⟨gl, 0, none⟩)) g (.pointer (some ⟨rl, 0, none⟩)) q))) := fun x hk => hx.keptJ hk hpx
 have hbx : Below w.heap.size w (w.alloc (.cells #[.int .i64 do_, .int .i64 num, .slice a2 m2 c2, .slice a3 m3 c3, .slice a4 m4 c4] 74)) := (Below.refl _ _).alloc (Nat.le_refl _) _
 have hX : HT (w.alloc (.cells #[.int .i64 do_, .int .i64 num, .slice a2 m2 c2, .slice a3 m3 c3, .slice a4 m4 c4] 74)) w.heap.size 74 [.int .i64 do_, .int .i64 num, .slice a2 m2 c2, .slice a3 m3 c3, .slice a4 m4 c4] := HT.new
 obtain ⟨gb, hgb⟩ : ∃ z, z = w.heap.size := ⟨_, rfl⟩
 obtain ⟨wB, hwB⟩ : ∃ z, z = w.alloc (.cells #[.int .i64 do_, .int .i64 num, .slice a2 m2 c2, .slice a3 m3 c3, .slice a4 m4 c4] 74) := ⟨_, rfl⟩
 rw [← hwB] at hbx
 rw [← hwB, ← hgb] at hX
 have HWB := Lib.hid hbx
 have HSBB := Lib.hid hX
 have HGX : Hid (gb < wB.heap.size) := hX.lt
 have HGF : Hid (¬ F gb) := fun e => by have := HLT.out gb e; omega
 have HSB : Hid (Stay F wB (SP px g gl q rl gb [Value.int .i64 do_, .int .i64 num, .slice a2 m2 c2, .slice a3 m3 c3, .slice a4 m4 c4])) := fun x hk => ⟨(HSX.out.below HWB.out) x hk, HSBB.out.keptJ hk HGF.out⟩
 have HGB0 := Lib.hid hgb
 have HWB0 := Lib.hid hwB
 have HV20 := Lib.hid h2
 have HV30 := Lib.hid h3
 have HV40 := Lib.hid h4
 clear h hoff hx hpx hl2 hl3 hl3r hbx hX h2 h3 h4
 rcases (by omega : r = 4 ∨ r = 5 ∨ r = 6 ∨ r = 7 ∨ r = 8 ∨ r = 9 ∨ r < 4) with rfl | rfl | rfl | rfl | rfl | rfl | hr3
 ·
  clear hnb
  obtain ⟨E, hE⟩ : ∃ z, z = (dSync D).1 := ⟨_, rfl⟩
  obtain ⟨Dn, hDn⟩ : ∃ z, z = (dSync D).2 := ⟨_, rfl⟩
  have HE := Lib.hid hE
  have HDN := Lib.hid hDn
  clear hE hDn hgb hwB
  go_enter Try.func34, Try.ntmps34
  go_upto_region 3 with fail
  rw [← HGB0.out, ← HWB0.out]
  obtain ⟨W, hW⟩ : ∃ z, z = wB := ⟨_, rfl⟩
  rw [← hW]
  have HBW : Hid (Below w.heap.size w W) := by rw [hW]; exact HWB.out
  have HBB : Hid (Below wB.heap.size wB W) := by rw [hW]; exact Below.refl _ _
  clear hW
  have HC0 : Hid (KC F W F W) := KC.refl F W
  have HL0 : Hid (L5 F W g gl q rl n D T D T) := HL.out.below HBW.out
  have HS : Hid (Stay F W (SP px g gl q rl gb [Value.int .i64 do_, .int .i64 num, .slice a2 m2 c2, .slice a3 m3 c3, .slice a4 m4 c4])) := HSB.out.below HBB.out
  refine wp_region_uni (S0 := (SP px g gl q rl gb [Value.int .i64 do_, .int .i64 num, .slice a2 m2 c2, .slice a3 m3 c3, .slice a4 m4 c4])) (S := BL W) 12 (by kernel_rfl) (Below.refl _ _).drew ?_
  refine wpAnyU_take (i := 0) (oi := { dst := some 20, op := Op.move (Operand.tmp 0), type := 66, pos := "law.go:92", after := #[], guard := none }) (v := (.pointer (some ⟨px, 0, none⟩))) rfl (by kernel_rfl) (by kernel_rfl) (by kernel_rfl) (by kernel_rfl) (by kernel_rfl) (fun _ _ _ h => h) (HC0.out.cls HS.out) ?_ ?_
  ·
   refine Or.inl ⟨rfl, fun w hSw => ?_⟩
   exact EffR.same (by go_simp)
  try simp only [Act.put, zA, zB, zC]
  refine wpAnyU_take (i := 1) (oi := { dst := some 21, op := Op.nilCheck (Operand.tmp 20), type := 0, pos := "law.go:92", after := #[{ on := 0, ground := Ground.data }], guard := none }) (v := (.pointer (some ⟨px, 0, none⟩))) rfl (by kernel_rfl) (by kernel_rfl) (by kernel_rfl) (by kernel_rfl) (by kernel_rfl) (fun _ _ _ h => h) (HC0.out.cls HS.out) ?_ ?_
  ·
   refine Or.inl ⟨rfl, fun w hSw => ?_⟩
   exact EffR.same (by go_simp)
  try simp only [Act.put, zA, zB, zC]
  refine wpAnyU_take (i := 2) (oi := { dst := some 22, op := Op.fieldAddr 71 (Operand.tmp 21) 0, type := 0, pos := "law.go:92", after := #[{ on := 1, ground := Ground.data }], guard := none }) (v := (.pointer (some ⟨px, 0, none⟩))) rfl (by kernel_rfl) (by kernel_rfl) (by kernel_rfl) (by kernel_rfl) (by kernel_rfl) (fun _ _ _ h => h) (HC0.out.cls HS.out) ?_ ?_
  ·
   refine Or.inl ⟨rfl, fun w hSw => ?_⟩
   exact EffR.same (by go_simp)
  try simp only [Act.put, zA, zB, zC]
  refine wpAnyU_take (i := 3) (oi := { dst := some 23, op := Op.load 30 (Operand.tmp 22), type := 30, pos := "law.go:92", after := #[{ on := 2, ground := Ground.data }], guard := none }) (v := (.pointer (some ⟨gl, 0, none⟩))) rfl (by kernel_rfl) (by kernel_rfl) (by kernel_rfl) (by kernel_rfl) (by kernel_rfl) (fun _ _ _ h => h) (HC0.out.cls HS.out) ?_ ?_
  ·
   refine Or.inl ⟨rfl, fun w hSw => ?_⟩
   have e0 := hSw.1.cell (j := 0) rfl
   exact EffR.same (by go_simp)
  try simp only [Act.put, zA, zB, zC]
  refine wpAnyU_take (i := 5) (oi := { dst := some 25, op := Op.move (Operand.tmp 0), type := 66, pos := "law.go:92", after := #[], guard := none }) (v := (.pointer (some ⟨px, 0, none⟩))) rfl (by kernel_rfl) (by kernel_rfl) (by kernel_rfl) (by kernel_rfl) (by kernel_rfl) (fun _ _ _ h => h) (HC0.out.cls HS.out) ?_ ?_
  ·
   refine Or.inl ⟨rfl, fun w hSw => ?_⟩
   exact EffR.same (by go_simp)
  try simp only [Act.put, zA, zB, zC]
  refine wpAnyU_take (i := 6) (oi := { dst := some 26, op := Op.nilCheck (Operand.tmp 25), type := 0, pos := "law.go:92", after := #[{ on := 5, ground := Ground.data }], guard := none }) (v := (.pointer (some ⟨px, 0, none⟩))) rfl (by kernel_rfl) (by kernel_rfl) (by kernel_rfl) (by kernel_rfl) (by kernel_rfl) (fun _ _ _ h => h) (HC0.out.cls HS.out) ?_ ?_
  ·
   refine Or.inl ⟨rfl, fun w hSw => ?_⟩
   exact EffR.same (by go_simp)
  try simp only [Act.put, zA, zB, zC]
  refine wpAnyU_take (i := 7) (oi := { dst := some 27, op := Op.fieldAddr 71 (Operand.tmp 26) 3, type := 0, pos := "law.go:92", after := #[{ on := 6, ground := Ground.data }], guard := none }) (v := (.pointer (some ⟨px, 3, none⟩))) rfl (by kernel_rfl) (by kernel_rfl) (by kernel_rfl) (by kernel_rfl) (by kernel_rfl) (fun _ _ _ h => h) (HC0.out.cls HS.out) ?_ ?_
  ·
   refine Or.inl ⟨rfl, fun w hSw => ?_⟩
   exact EffR.same (by go_simp)
  try simp only [Act.put, zA, zB, zC]
  refine wpAnyU_take (i := 8) (oi := { dst := some 28, op := Op.load 67 (Operand.tmp 27), type := 67, pos := "law.go:92", after := #[{ on := 7, ground := Ground.data }], guard := none }) (v := (.pointer (some ⟨q, 0, none⟩))) rfl (by kernel_rfl) (by kernel_rfl) (by kernel_rfl) (by kernel_rfl) (by kernel_rfl) (fun _ _ _ h => h) (HC0.out.cls HS.out) ?_ ?_
  ·
   refine Or.inl ⟨rfl, fun w hSw => ?_⟩
   have e0 := hSw.1.cell (j := 3) rfl
   exact EffR.same (by go_simp)
  try simp only [Act.put, zA, zB, zC]
  refine wpAnyU_ready (rs := [4]) (by kernel_rfl) (by simp) ?_
  refine AllReadyU.cons (o := { dst := some 24, op := Op.call { callee := Callee.value (Operand.func 16), args := #[Operand.tmp 23], argTypes := #[30] }, type := 27, pos := "law.go:92", after := #[{ on := 3, ground := Ground.data }], guard := none }) rfl (fun wA4 hA4 K hK => ?_) AllReadyU.nil
  have hs := LSync_5 wA4 g gl q rl n D D T T (HL0.out.below hA4)
  rw [← HE.out, ← HDN.out] at hs
  go_simp
  refine hs.mono ?_
  clear hs
  rintro e0 w1 ⟨rfl, F1, hl1, hc1⟩
  have HL1 := Lib.hid hl1
  have HC1 : Hid (KC F W F1 w1) := (HC0.out.below hA4).next hc1
  refine hK.out _ _ (BL w1) (HC1.out.cls HS.out) (Below.refl _ _) ?_
  clear hl1 hc1
  clear hK K
  try simp only [Act.put, zA, zB, zC]
  refine wpAnyU_ready (rs := [9]) (by kernel_rfl) (by simp) ?_
  refine AllReadyU.cons (o := { dst := some 29, op := Op.call { callee := Callee.value (Operand.func 50), args := #[Operand.tmp 28], argTypes := #[67] }, type := 27, pos := "law.go:92", after := #[{ on := 8, ground := Ground.data }, { on := 4, ground := Ground.chain }], guard := none }) rfl (fun wA9 hA9 K hK => ?_) AllReadyU.nil
  have hs := PSync_5 wA9 g gl q rl n Dn D T T (HL1.out.below hA9)
  rw [← HE.out, ← HDN.out] at hs
  go_simp
  refine hs.mono ?_
  clear hs
  rintro e0 w2 ⟨rfl, F2, hl2, hc2⟩
  have HL2 := Lib.hid hl2
  have HC2 : Hid (KC F W F2 w2) := (HC1.out.below hA9).next hc2
  refine hK.out _ _ (BL w2) (HC2.out.cls HS.out) (Below.refl _ _) ?_
  clear hl2 hc2
  clear hK K
  try simp only [Act.put, zA, zB, zC]
  refine wpAnyU_take (i := 10) (oi := { dst := some 30, op := Op.binOp BinOp.eql 27 (Operand.tmp 24) (Operand.tmp 29) 27, type := 4, pos := "law.go:92", after := #[{ on := 4, ground := Ground.data }, { on := 9, ground := Ground.data }], guard := none }) (v := (.bool true)) rfl (by kernel_rfl) (by kernel_rfl) (by kernel_rfl) (by kernel_rfl) (by kernel_rfl) (fun _ _ _ h => h) (HC2.out.cls HS.out) ?_ ?_
  ·
   refine Or.inl ⟨rfl, fun w hSw => ?_⟩
   exact EffR.same (by go_simp)
  try simp only [Act.put, zA, zB, zC]
  refine wpAnyU_take (i := 11) (oi := { dst := some 4, op := Op.assign (Operand.tmp 30), type := 4, pos := "law.go:92", after := #[{ on := 10, ground := Ground.data }, { on := 9, ground := Ground.chain }, { on := 0, ground := Ground.phase }, { on := 1, ground := Ground.phase }, { on := 2, ground := Ground.phase }, { on := 3, ground := Ground.phase }, { on := 4, ground := Ground.phase }, { on := 5, ground := Ground.phase }, { on := 6, ground := Ground.phase }, { on := 7, ground := Ground.phase }, { on := 8, ground := Ground.phase }, { on := 9, ground := Ground.phase }, { on := 10, ground := Ground.phase }], guard := none }) (v := (.bool true)) rfl (by kernel_rfl) (by kernel_rfl) (by kernel_rfl) (by kernel_rfl) (by kernel_rfl) (fun _ _ _ h => h) (HC2.out.cls HS.out) ?_ ?_
  ·
   refine Or.inl ⟨rfl, fun w hSw => ?_⟩
   exact EffR.same (by go_simp)
  try simp only [Act.put, zA, zB, zC]
  refine wpAnyU_done (by kernel_rfl) (fun w3 hb1 => ?_) _
  have HL3 := Lib.hid (HL2.out.below hb1)
  have HC3 := Lib.hid (HC2.out.below hb1)
  clear hb1
  go_wp2_with fail
  go_ret
  rw [HDN.out] at HL3
  exact StepPost.same HL3.out (hI.out.sync.upto (by omega)) ((KC.refl F w).below HBW.out |>.next HC3.out) HSX.out
 ·
  clear hnb
  have htw := Twin_any wB (.slice a2 m2 c2) bl (HB2.out.mono HWB.out) (by have := HLB.out; omega)
  have hcb := HSBB.out.cell (j := 2) rfl
  rw [hwB] at htw hcb
  rw [hgb] at hcb
  clear hgb hwB
  go_enter Try.func34, Try.ntmps34
  go_wp2_with fail
  refine htw.mono ?_
  clear htw hcb
  rw [← HWB0.out, ← HGB0.out]
  rintro e W ⟨v5, rfl, hv5, hbW⟩
  obtain ⟨p1, p2, p3, rfl, hpl, hv5⟩ := hv5.named
  have HPL := Lib.hid hpl.out
  have HBW : Hid (Below w.heap.size w W) := HWB.out.next hbW
  have HBB := Lib.hid hbW
  have HPB : Hid (∀ k, (Value.slice p1 p2 p3).ownBlock = some k → w.heap.size ≤ k ∧ k < W.heap.size) := fun k e => ⟨by have := OwnB.ge hv5 k e; have := HWB.out.size; omega, OwnB.lt hv5 k e⟩
  have HTW : Hid (Stay F W (fun y => OwnB 5 y 0 (.slice p1 p2 p3) bl)) := fun y hk => (hv5.base (Nat.zero_le _)).keptJ hk (fun k e1 e2 => by have := HPB.out k e1; have := HLT.out k e2; omega)
  clear hv5 hpl hbW
  have HC0 : Hid (KC F W F W) := KC.refl F W
  have HL0 : Hid (L5 F W g gl q rl n D T D T) := HL.out.below HBW.out
  have HS : Hid (Stay F W (SP px g gl q rl gb [Value.int .i64 do_, .int .i64 num, .slice a2 m2 c2, .slice a3 m3 c3, .slice a4 m4 c4])) := HSB.out.below HBB.out
  have HV2 : Hid (Stay F W (fun y => Bs y (.slice a2 m2 c2) bl)) := HV20.out.below HBW.out
  obtain ⟨E, hE⟩ : ∃ z, z = (begR n D T bl).1 := ⟨_, rfl⟩
  obtain ⟨Dn, hDn⟩ : ∃ z, z = (begR n D T bl).2.1 := ⟨_, rfl⟩
  obtain ⟨Tn, hTn⟩ : ∃ z, z = (begR n D T bl).2.2 := ⟨_, rfl⟩
  have HE := Lib.hid hE
  have HDN := Lib.hid hDn
  have HTN := Lib.hid hTn
  clear hE hDn hTn
  go_upto_region 6 with fail
  refine wp_region_uni (S0 := (SP px g gl q rl gb [Value.int .i64 do_, .int .i64 num, .slice a2 m2 c2, .slice a3 m3 c3, .slice a4 m4 c4])) (S := BL W) 15 (by kernel_rfl) (Below.refl _ _).drew ?_
  refine wpAnyU_take (i := 0) (oi := { dst := some 36, op := Op.move (Operand.tmp 0), type := 66, pos := "law.go:95", after := #[], guard := none }) (v := (.pointer (some ⟨px, 0, none⟩))) rfl (by kernel_rfl) (by kernel_rfl) (by kernel_rfl) (by kernel_rfl) (by kernel_rfl) (fun _ _ _ h => h) (HC0.out.cls HS.out) ?_ ?_
  ·
   refine Or.inl ⟨rfl, fun w hSw => ?_⟩
   exact EffR.same (by go_simp)
  try simp only [Act.put, zA, zB, zC]
  refine wpAnyU_take (i := 1) (oi := { dst := some 37, op := Op.nilCheck (Operand.tmp 36), type := 0, pos := "law.go:95", after := #[{ on := 0, ground := Ground.data }], guard := none }) (v := (.pointer (some ⟨px, 0, none⟩))) rfl (by kernel_rfl) (by kernel_rfl) (by kernel_rfl) (by kernel_rfl) (by kernel_rfl) (fun _ _ _ h => h) (HC0.out.cls HS.out) ?_ ?_
  ·
   refine Or.inl ⟨rfl, fun w hSw => ?_⟩
   exact EffR.same (by go_simp)
  try simp only [Act.put, zA, zB, zC]
  refine wpAnyU_take (i := 2) (oi := { dst := some 38, op := Op.fieldAddr 71 (Operand.tmp 37) 0, type := 0, pos := "law.go:95", after := #[{ on := 1, ground := Ground.data }], guard := none }) (v := (.pointer (some ⟨px, 0, none⟩))) rfl (by kernel_rfl) (by kernel_rfl) (by kernel_rfl) (by kernel_rfl) (by kernel_rfl) (fun _ _ _ h => h) (HC0.out.cls HS.out) ?_ ?_
  ·
   refine Or.inl ⟨rfl, fun w hSw => ?_⟩
   exact EffR.same (by go_simp)
  try simp only [Act.put, zA, zB, zC]
  refine wpAnyU_take (i := 3) (oi := { dst := some 39, op := Op.load 30 (Operand.tmp 38), type := 30, pos := "law.go:95", after := #[{ on := 2, ground := Ground.data }], guard := none }) (v := (.pointer (some ⟨gl, 0, none⟩))) rfl (by kernel_rfl) (by kernel_rfl) (by kernel_rfl) (by kernel_rfl) (by kernel_rfl) (fun _ _ _ h => h) (HC0.out.cls HS.out) ?_ ?_
  ·
   refine Or.inl ⟨rfl, fun w hSw => ?_⟩
   have e0 := hSw.1.cell (j := 0) rfl
   exact EffR.same (by go_simp)
  try simp only [Act.put, zA, zB, zC]
  refine wpAnyU_take (i := 4) (oi := { dst := some 40, op := Op.move (Operand.tmp 5), type := 22, pos := "law.go:95", after := #[], guard := none }) (v := (.slice p1 p2 p3)) rfl (by kernel_rfl) (by kernel_rfl) (by kernel_rfl) (by kernel_rfl) (by kernel_rfl) (fun _ _ _ h => h) (HC0.out.cls HS.out) ?_ ?_
  ·
   refine Or.inl ⟨rfl, fun w hSw => ?_⟩
   exact EffR.same (by go_simp)
  try simp only [Act.put, zA, zB, zC]
  refine wpAnyU_take (i := 6) (oi := { dst := some 42, op := Op.move (Operand.tmp 0), type := 66, pos := "law.go:95", after := #[], guard := none }) (v := (.pointer (some ⟨px, 0, none⟩))) rfl (by kernel_rfl) (by kernel_rfl) (by kernel_rfl) (by kernel_rfl) (by kernel_rfl) (fun _ _ _ h => h) (HC0.out.cls HS.out) ?_ ?_
  ·
   refine Or.inl ⟨rfl, fun w hSw => ?_⟩
   exact EffR.same (by go_simp)
  try simp only [Act.put, zA, zB, zC]
  refine wpAnyU_take (i := 7) (oi := { dst := some 43, op := Op.nilCheck (Operand.tmp 42), type := 0, pos := "law.go:95", after := #[{ on := 6, ground := Ground.data }], guard := none }) (v := (.pointer (some ⟨px, 0, none⟩))) rfl (by kernel_rfl) (by kernel_rfl) (by kernel_rfl) (by kernel_rfl) (by kernel_rfl) (fun _ _ _ h => h) (HC0.out.cls HS.out) ?_ ?_
  ·
   refine Or.inl ⟨rfl, fun w hSw => ?_⟩
   exact EffR.same (by go_simp)
  try simp only [Act.put, zA, zB, zC]
  refine wpAnyU_take (i := 8) (oi := { dst := some 44, op := Op.fieldAddr 71 (Operand.tmp 43) 2, type := 0, pos := "law.go:95", after := #[{ on := 7, ground := Ground.data }], guard := none }) (v := (.pointer (some ⟨px, 2, none⟩))) rfl (by kernel_rfl) (by kernel_rfl) (by kernel_rfl) (by kernel_rfl) (by kernel_rfl) (fun _ _ _ h => h) (HC0.out.cls HS.out) ?_ ?_
  ·
   refine Or.inl ⟨rfl, fun w hSw => ?_⟩
   exact EffR.same (by go_simp)
  try simp only [Act.put, zA, zB, zC]
  refine wpAnyU_take (i := 9) (oi := { dst := some 45, op := Op.load 69 (Operand.tmp 44), type := 69, pos := "law.go:95", after := #[{ on := 8, ground := Ground.data }], guard := none }) (v := (.pointer (some ⟨rl, 0, none⟩))) rfl (by kernel_rfl) (by kernel_rfl) (by kernel_rfl) (by kernel_rfl) (by kernel_rfl) (fun _ _ _ h => h) (HC0.out.cls HS.out) ?_ ?_
  ·
   refine Or.inl ⟨rfl, fun w hSw => ?_⟩
   have e0 := hSw.1.cell (j := 2) rfl
   exact EffR.same (by go_simp)
  try simp only [Act.put, zA, zB, zC]
  refine wpAnyU_take (i := 10) (oi := { dst := some 46, op := Op.fieldAddr 74 (Operand.tmp 3) 2, type := 0, pos := "law.go:95", after := #[], guard := none }) (v := (.pointer (some ⟨gb, 2, none⟩))) rfl (by kernel_rfl) (by kernel_rfl) (by kernel_rfl) (by kernel_rfl) (by kernel_rfl) (fun _ _ _ h => h) (HC0.out.cls HS.out) ?_ ?_
  ·
   refine Or.inl ⟨rfl, fun w hSw => ?_⟩
   exact EffR.same (by go_simp)
  try simp only [Act.put, zA, zB, zC]
  refine wpAnyU_take (i := 11) (oi := { dst := some 47, op := Op.load 22 (Operand.tmp 46), type := 22, pos := "law.go:95", after := #[{ on := 10, ground := Ground.data }], guard := none }) (v := (.slice a2 m2 c2)) rfl (by kernel_rfl) (by kernel_rfl) (by kernel_rfl) (by kernel_rfl) (by kernel_rfl) (fun _ _ _ h => h) (HC0.out.cls HS.out) ?_ ?_
  ·
   refine Or.inl ⟨rfl, fun w hSw => ?_⟩
   have e0 := hSw.2.cell (j := 2) rfl
   exact EffR.same (by go_simp)
  try simp only [Act.put, zA, zB, zC]
  refine wpAnyU_ready (rs := [5]) (by kernel_rfl) (by simp) ?_
  refine AllReadyU.cons (o := { dst := some 41, op := Op.call { callee := Callee.value (Operand.func 14), args := #[Operand.tmp 39, Operand.tmp 40], argTypes := #[30, 22] }, type := 27, pos := "law.go:95", after := #[{ on := 3, ground := Ground.data }, { on := 4, ground := Ground.data }], guard := none }) rfl (fun wA5 hA5 K hK => ?_) AllReadyU.nil
  have hs := Begin_5 wA5 g gl q rl n D D T T kk (HL0.out.below hA5) hI.out (by omega) (.slice p1 p2 p3) bl (((HC0.out.below hA5).stay HTW.out).imp (fun _ h => h.bs)) HLB.out
  rw [← HE.out, ← HDN.out, ← HTN.out] at hs
  go_simp
  refine hs.mono ?_
  clear hs
  rintro e0 w1 ⟨rfl, F1, hl1, hc1⟩
  have HL1 := Lib.hid hl1
  have HC1 : Hid (KC F W F1 w1) := (HC0.out.below hA5).next hc1
  refine hK.out _ _ (BL w1) (HC1.out.cls HS.out) (Below.refl _ _) ?_
  clear hl1 hc1
  clear hK K
  try simp only [Act.put, zA, zB, zC]
  refine wpAnyU_ready (rs := [12]) (by kernel_rfl) (by simp) ?_
  refine AllReadyU.cons (o := { dst := some 48, op := Op.call { callee := Callee.value (Operand.func 51), args := #[Operand.tmp 45, Operand.tmp 47], argTypes := #[69, 22] }, type := 27, pos := "law.go:95", after := #[{ on := 9, ground := Ground.data }, { on := 11, ground := Ground.data }, { on := 5, ground := Ground.chain }], guard := none }) rfl (fun wA12 hA12 K hK => ?_) AllReadyU.nil
  have hs := PBegin_5 wA12 g gl q rl n Dn D Tn T kk (HL1.out.below hA12) hI.out (by omega) (.slice a2 m2 c2) bl ((HC1.out.below hA12).stay HV2.out) HLB.out
  rw [← HE.out, ← HDN.out, ← HTN.out] at hs
  go_simp
  refine hs.mono ?_
  clear hs
  rintro e0 w2 ⟨rfl, F2, hl2, hc2⟩
  have HL2 := Lib.hid hl2
  have HC2 : Hid (KC F W F2 w2) := (HC1.out.below hA12).next hc2
  refine hK.out _ _ (BL w2) (HC2.out.cls HS.out) (Below.refl _ _) ?_
  clear hl2 hc2
  clear hK K
  try simp only [Act.put, zA, zB, zC]
  refine wpAnyU_take (i := 13) (oi := { dst := some 49, op := Op.binOp BinOp.eql 27 (Operand.tmp 41) (Operand.tmp 48) 27, type := 4, pos := "law.go:95", after := #[{ on := 5, ground := Ground.data }, { on := 12, ground := Ground.data }], guard := none }) (v := (.bool true)) rfl (by kernel_rfl) (by kernel_rfl) (by kernel_rfl) (by kernel_rfl) (by kernel_rfl) (fun _ _ _ h => h) (HC2.out.cls HS.out) ?_ ?_
  ·
   refine Or.inl ⟨rfl, fun w hSw => ?_⟩
   exact EffR.same (by go_simp)
  try simp only [Act.put, zA, zB, zC]
  refine wpAnyU_take (i := 14) (oi := { dst := some 6, op := Op.assign (Operand.tmp 49), type := 4, pos := "law.go:95", after := #[{ on := 13, ground := Ground.data }, { on := 12, ground := Ground.chain }, { on := 0, ground := Ground.phase }, { on := 1, ground := Ground.phase }, { on := 2, ground := Ground.phase }, { on := 3, ground := Ground.phase }, { on := 4, ground := Ground.phase }, { on := 5, ground := Ground.phase }, { on := 6, ground := Ground.phase }, { on := 7, ground := Ground.phase }, { on := 8, ground := Ground.phase }, { on := 9, ground := Ground.phase }, { on := 10, ground := Ground.phase }, { on := 11, ground := Ground.phase }, { on := 12, ground := Ground.phase }, { on := 13, ground := Ground.phase }], guard := none }) (v := (.bool true)) rfl (by kernel_rfl) (by kernel_rfl) (by kernel_rfl) (by kernel_rfl) (by kernel_rfl) (fun _ _ _ h => h) (HC2.out.cls HS.out) ?_ ?_
  ·
   refine Or.inl ⟨rfl, fun w hSw => ?_⟩
   exact EffR.same (by go_simp)
  try simp only [Act.put, zA, zB, zC]
  refine wpAnyU_done (by kernel_rfl) (fun w3 hb1 => ?_) _
  have HL3 := Lib.hid (HL2.out.below hb1)
  have HC3 := Lib.hid (HC2.out.below hb1)
  clear hb1
  have hov := HC3.out.here HTW.out
  have hsp := SpoilU_any w3 (.slice p1 p2 p3) p2 (by have := hov.u; rw [← HPL.out] at this; exact this)
  clear hov
  go_wp2_with fail
  refine hsp.mono ?_
  clear hsp
  rintro e w9 ⟨rfl, hk9, _⟩
  have HL9 : Hid (L5 F2 w9 g gl q rl n Dn Tn Dn Tn) := HL3.out.kept hk9 (fun k e1 e2 => by
   have h1 := HPB.out k e2
   rcases HC3.out.2 k e1 with e3 | e3
   ·
    have := HLT.out k e3; omega
   ·
    omega)
  have HC9 : Hid (KC F w F2 w9) := ((KC.refl F w).below HBW.out |>.next HC3.out).fresh hk9 (fun k e => (HPB.out k e).1)
  clear hk9
  go_wp2_with fail
  go_ret
  rw [HDN.out, HTN.out] at HL9
  exact StepPost.same HL9.out ((hI.out.begin bl HLB.out).upto (by omega)) HC9.out HSX.out
 ·
  obtain ⟨Dn, hDn⟩ : ∃ z, z = dArm D num := ⟨_, rfl⟩
  have HDN := Lib.hid hDn
  clear hDn hgb hwB
  go_enter Try.func34, Try.ntmps34
  go_upto_region 10 with fail
  rw [← HGB0.out, ← HWB0.out]
  obtain ⟨W, hW⟩ : ∃ z, z = wB := ⟨_, rfl⟩
  rw [← hW]
  have HBW : Hid (Below w.heap.size w W) := by rw [hW]; exact HWB.out
  have HBB : Hid (Below wB.heap.size wB W) := by rw [hW]; exact Below.refl _ _
  clear hW
  have HC0 : Hid (KC F W F W) := KC.refl F W
  have HL0 : Hid (L5 F W g gl q rl n D T D T) := HL.out.below HBW.out
  have HS : Hid (Stay F W (SP px g gl q rl gb [Value.int .i64 do_, .int .i64 num, .slice a2 m2 c2, .slice a3 m3 c3, .slice a4 m4 c4])) := HSB.out.below HBB.out
  refine wp_region_uni (S0 := (SP px g gl q rl gb [Value.int .i64 do_, .int .i64 num, .slice a2 m2 c2, .slice a3 m3 c3, .slice a4 m4 c4])) (S := BL W) 7 (by kernel_rfl) (Below.refl _ _).drew ?_
  refine wpAnyU_take (i := 0) (oi := { dst := some 55, op := Op.move (Operand.tmp 0), type := 66, pos := "law.go:99", after := #[], guard := none }) (v := (.pointer (some ⟨px, 0, none⟩))) rfl (by kernel_rfl) (by kernel_rfl) (by kernel_rfl) (by kernel_rfl) (by kernel_rfl) (fun _ _ _ h => h) (HC0.out.cls HS.out) ?_ ?_
  ·
   refine Or.inl ⟨rfl, fun w hSw => ?_⟩
   exact EffR.same (by go_simp)
  try simp only [Act.put, zA, zB, zC]
  refine wpAnyU_take (i := 1) (oi := { dst := some 56, op := Op.nilCheck (Operand.tmp 55), type := 0, pos := "law.go:99", after := #[{ on := 0, ground := Ground.data }], guard := none }) (v := (.pointer (some ⟨px, 0, none⟩))) rfl (by kernel_rfl) (by kernel_rfl) (by kernel_rfl) (by kernel_rfl) (by kernel_rfl) (fun _ _ _ h => h) (HC0.out.cls HS.out) ?_ ?_
  ·
   refine Or.inl ⟨rfl, fun w hSw => ?_⟩
   exact EffR.same (by go_simp)
  try simp only [Act.put, zA, zB, zC]
  refine wpAnyU_take (i := 2) (oi := { dst := some 57, op := Op.fieldAddr 71 (Operand.tmp 56) 1, type := 0, pos := "law.go:99", after := #[{ on := 1, ground := Ground.data }], guard := none }) (v := (.pointer (some ⟨px, 1, none⟩))) rfl (by kernel_rfl) (by kernel_rfl) (by kernel_rfl) (by kernel_rfl) (by kernel_rfl) (fun _ _ _ h => h) (HC0.out.cls HS.out) ?_ ?_
  ·
   refine Or.inl ⟨rfl, fun w hSw => ?_⟩
   exact EffR.same (by go_simp)
  try simp only [Act.put, zA, zB, zC]
  refine wpAnyU_take (i := 3) (oi := { dst := some 58, op := Op.load 26 (Operand.tmp 57), type := 26, pos := "law.go:99", after := #[{ on := 2, ground := Ground.data }], guard := none }) (v := (.pointer (some ⟨g, 0, none⟩))) rfl (by kernel_rfl) (by kernel_rfl) (by kernel_rfl) (by kernel_rfl) (by kernel_rfl) (fun _ _ _ h => h) (HC0.out.cls HS.out) ?_ ?_
  ·
   refine Or.inl ⟨rfl, fun w hSw => ?_⟩
   have e0 := hSw.1.cell (j := 1) rfl
   exact EffR.same (by go_simp)
  try simp only [Act.put, zA, zB, zC]
  refine wpAnyU_take (i := 4) (oi := { dst := some 59, op := Op.fieldAddr 74 (Operand.tmp 3) 1, type := 0, pos := "law.go:99", after := #[], guard := none }) (v := (.pointer (some ⟨gb, 1, none⟩))) rfl (by kernel_rfl) (by kernel_rfl) (by kernel_rfl) (by kernel_rfl) (by kernel_rfl) (fun _ _ _ h => h) (HC0.out.cls HS.out) ?_ ?_
  ·
   refine Or.inl ⟨rfl, fun w hSw => ?_⟩
   exact EffR.same (by go_simp)
  try simp only [Act.put, zA, zB, zC]
  refine wpAnyU_take (i := 5) (oi := { dst := some 60, op := Op.load 3 (Operand.tmp 59), type := 3, pos := "law.go:99", after := #[{ on := 4, ground := Ground.data }], guard := none }) (v := (.int .i64 num)) rfl (by kernel_rfl) (by kernel_rfl) (by kernel_rfl) (by kernel_rfl) (by kernel_rfl) (fun _ _ _ h => h) (HC0.out.cls HS.out) ?_ ?_
  ·
   refine Or.inl ⟨rfl, fun w hSw => ?_⟩
   have e0 := hSw.2.cell (j := 1) rfl
   exact EffR.same (by go_simp)
  try simp only [Act.put, zA, zB, zC]
  refine wpAnyU_ready (rs := [6]) (by kernel_rfl) (by simp) ?_
  refine AllReadyU.cons (o := { dst := some 61, op := Op.call { callee := Callee.value (Operand.func 30), args := #[Operand.tmp 58, Operand.tmp 60], argTypes := #[26, 3] }, type := 0, pos := "law.go:99", after := #[{ on := 3, ground := Ground.data }, { on := 5, ground := Ground.data }], guard := none }) rfl (fun wA6 hA6 K hK => ?_) AllReadyU.nil
  have hs := Arm_5 wA6 g gl q rl n D D T T (HL0.out.below hA6) num HNB.out
  rw [← HDN.out] at hs
  go_simp
  refine hs.mono ?_
  clear hs
  rintro e0 w1 ⟨rfl, F1, hl1, hc1⟩
  have HL1 := Lib.hid hl1
  have HC1 : Hid (KC F W F1 w1) := (HC0.out.below hA6).next hc1
  refine hK.out _ _ (BL w1) (HC1.out.cls HS.out) (Below.refl _ _) ?_
  clear hl1 hc1
  clear hK K
  try simp only [Act.put, zA, zB, zC]
  refine wpAnyU_done (by kernel_rfl) (fun w2 hb1 => ?_) _
  have HL2 := Lib.hid (HL1.out.below hb1)
  have HC2 := Lib.hid (HC1.out.below hb1)
  clear hb1
  go_upto_region 11 with fail
  refine wp_region_uni (S0 := (SP px g gl q rl gb [Value.int .i64 do_, .int .i64 num, .slice a2 m2 c2, .slice a3 m3 c3, .slice a4 m4 c4])) (S := BL w2) 7 (by kernel_rfl) (Below.refl _ _).drew ?_
  refine wpAnyU_take (i := 0) (oi := { dst := some 62, op := Op.move (Operand.tmp 0), type := 66, pos := "law.go:100", after := #[], guard := none }) (v := (.pointer (some ⟨px, 0, none⟩))) rfl (by kernel_rfl) (by kernel_rfl) (by kernel_rfl) (by kernel_rfl) (by kernel_rfl) (fun _ _ _ h => h) (HC2.out.cls HS.out) ?_ ?_
  ·
   refine Or.inl ⟨rfl, fun w hSw => ?_⟩
   exact EffR.same (by go_simp)
  try simp only [Act.put, zA, zB, zC]
  refine wpAnyU_take (i := 1) (oi := { dst := some 63, op := Op.nilCheck (Operand.tmp 62), type := 0, pos := "law.go:100", after := #[{ on := 0, ground := Ground.data }], guard := none }) (v := (.pointer (some ⟨px, 0, none⟩))) rfl (by kernel_rfl) (by kernel_rfl) (by kernel_rfl) (by kernel_rfl) (by kernel_rfl) (fun _ _ _ h => h) (HC2.out.cls HS.out) ?_ ?_
  ·
   refine Or.inl ⟨rfl, fun w hSw => ?_⟩
   exact EffR.same (by go_simp)
  try simp only [Act.put, zA, zB, zC]
  refine wpAnyU_take (i := 2) (oi := { dst := some 64, op := Op.fieldAddr 71 (Operand.tmp 63) 3, type := 0, pos := "law.go:100", after := #[{ on := 1, ground := Ground.data }], guard := none }) (v := (.pointer (some ⟨px, 3, none⟩))) rfl (by kernel_rfl) (by kernel_rfl) (by kernel_rfl) (by kernel_rfl) (by kernel_rfl) (fun _ _ _ h => h) (HC2.out.cls HS.out) ?_ ?_
  ·
   refine Or.inl ⟨rfl, fun w hSw => ?_⟩
   exact EffR.same (by go_simp)
  try simp only [Act.put, zA, zB, zC]
  refine wpAnyU_take (i := 3) (oi := { dst := some 65, op := Op.load 67 (Operand.tmp 64), type := 67, pos := "law.go:100", after := #[{ on := 2, ground := Ground.data }], guard := none }) (v := (.pointer (some ⟨q, 0, none⟩))) rfl (by kernel_rfl) (by kernel_rfl) (by kernel_rfl) (by kernel_rfl) (by kernel_rfl) (fun _ _ _ h => h) (HC2.out.cls HS.out) ?_ ?_
  ·
   refine Or.inl ⟨rfl, fun w hSw => ?_⟩
   have e0 := hSw.1.cell (j := 3) rfl
   exact EffR.same (by go_simp)
  try simp only [Act.put, zA, zB, zC]
  refine wpAnyU_take (i := 4) (oi := { dst := some 66, op := Op.fieldAddr 74 (Operand.tmp 3) 1, type := 0, pos := "law.go:100", after := #[], guard := none }) (v := (.pointer (some ⟨gb, 1, none⟩))) rfl (by kernel_rfl) (by kernel_rfl) (by kernel_rfl) (by kernel_rfl) (by kernel_rfl) (fun _ _ _ h => h) (HC2.out.cls HS.out) ?_ ?_
  ·
   refine Or.inl ⟨rfl, fun w hSw => ?_⟩
   exact EffR.same (by go_simp)
  try simp only [Act.put, zA, zB, zC]
  refine wpAnyU_take (i := 5) (oi := { dst := some 67, op := Op.load 3 (Operand.tmp 66), type := 3, pos := "law.go:100", after := #[{ on := 4, ground := Ground.data }], guard := none }) (v := (.int .i64 num)) rfl (by kernel_rfl) (by kernel_rfl) (by kernel_rfl) (by kernel_rfl) (by kernel_rfl) (fun _ _ _ h => h) (HC2.out.cls HS.out) ?_ ?_
  ·
   refine Or.inl ⟨rfl, fun w hSw => ?_⟩
   have e0 := hSw.2.cell (j := 1) rfl
   exact EffR.same (by go_simp)
  try simp only [Act.put, zA, zB, zC]
  refine wpAnyU_ready (rs := [6]) (by kernel_rfl) (by simp) ?_
  refine AllReadyU.cons (o := { dst := some 68, op := Op.call { callee := Callee.value (Operand.func 53), args := #[Operand.tmp 65, Operand.tmp 67], argTypes := #[67, 3] }, type := 0, pos := "law.go:100", after := #[{ on := 3, ground := Ground.data }, { on := 5, ground := Ground.data }], guard := none }) rfl (fun wA6 hA6 K hK => ?_) AllReadyU.nil
  have hs := PArm_5 wA6 g gl q rl n Dn D T T (HL2.out.below hA6) num HNB.out
  rw [← HDN.out] at hs
  go_simp
  refine hs.mono ?_
  clear hs
  rintro e0 w3 ⟨rfl, F3, hl3, hc3⟩
  have HL3 := Lib.hid hl3
  have HC3 : Hid (KC F W F3 w3) := (HC2.out.below hA6).next hc3
  refine hK.out _ _ (BL w3) (HC3.out.cls HS.out) (Below.refl _ _) ?_
  clear hl3 hc3
  clear hK K
  try simp only [Act.put, zA, zB, zC]
  refine wpAnyU_done (by kernel_rfl) (fun w4 hb1 => ?_) _
  have HL4 := Lib.hid (HL3.out.below hb1)
  have HC4 := Lib.hid (HC3.out.below hb1)
  clear hb1
  go_wp2_with fail
  go_ret
  rw [HDN.out] at HL4
  exact StepPost.same HL4.out ((hI.out.arm num).upto (by omega)) ((KC.refl F w).below HBW.out |>.next HC4.out) HSX.out
 ·
  clear hnb
  obtain ⟨Dc, hDc⟩ : ∃ z, z = dCrash D pk := ⟨_, rfl⟩
  obtain ⟨Dn, hDn⟩ : ∃ z, z = dStart Dc := ⟨_, rfl⟩
  have HDC := Lib.hid hDc
  have HDN := Lib.hid hDn
  have HDI : Hid (DInv Dn kk) := by show DInv _ _; rw [hDn, hDc]; exact start_crash D pk kk
  clear hDc hDn hgb hwB
  go_enter Try.func34, Try.ntmps34
  go_upto_region 14 with fail
  rw [← HGB0.out, ← HWB0.out]
  obtain ⟨W, hW⟩ : ∃ z, z = wB := ⟨_, rfl⟩
  rw [← hW]
  have HBW : Hid (Below w.heap.size w W) := by rw [hW]; exact HWB.out
  have HBB : Hid (Below wB.heap.size wB W) := by rw [hW]; exact Below.refl _ _
  clear hW
  have HC0 : Hid (KC F W F W) := KC.refl F W
  have HL0 : Hid (L5 F W g gl q rl n D T D T) := HL.out.below HBW.out
  have HS : Hid (Stay F W (SP px g gl q rl gb [Value.int .i64 do_, .int .i64 num, .slice a2 m2 c2, .slice a3 m3 c3, .slice a4 m4 c4])) := HSB.out.below HBB.out
  have HV4 : Hid (Stay F W (fun y => Is y (.slice a4 m4 c4) pk)) := HV40.out.below HBW.out
  have HSX0 : Hid (Stay F W (fun x => HT x px 71 (pcl (.pointer (some ⟨gl, 0, none⟩)) g (.pointer (some ⟨rl, 0, none⟩)) q))) := HSX.out.below HBW.out
  refine wp_region_uni (S0 := (SP px g gl q rl gb [Value.int .i64 do_, .int .i64 num, .slice a2 m2 c2, .slice a3 m3 c3, .slice a4 m4 c4])) (S := BL W) 7 (by kernel_rfl) (Below.refl _ _).drew ?_
  refine wpAnyU_take (i := 0) (oi := { dst := some 71, op := Op.move (Operand.tmp 0), type := 66, pos := "law.go:103", after := #[], guard := none }) (v := (.pointer (some ⟨px, 0, none⟩))) rfl (by kernel_rfl) (by kernel_rfl) (by kernel_rfl) (by kernel_rfl) (by kernel_rfl) (fun _ _ _ h => h) (HC0.out.cls HS.out) ?_ ?_
  ·
   refine Or.inl ⟨rfl, fun w hSw => ?_⟩
   exact EffR.same (by go_simp)
  try simp only [Act.put, zA, zB, zC]
  refine wpAnyU_take (i := 1) (oi := { dst := some 72, op := Op.nilCheck (Operand.tmp 71), type := 0, pos := "law.go:103", after := #[{ on := 0, ground := Ground.data }], guard := none }) (v := (.pointer (some ⟨px, 0, none⟩))) rfl (by kernel_rfl) (by kernel_rfl) (by kernel_rfl) (by kernel_rfl) (by kernel_rfl) (fun _ _ _ h => h) (HC0.out.cls HS.out) ?_ ?_
  ·
   refine Or.inl ⟨rfl, fun w hSw => ?_⟩
   exact EffR.same (by go_simp)
  try simp only [Act.put, zA, zB, zC]
  refine wpAnyU_take (i := 2) (oi := { dst := some 73, op := Op.fieldAddr 71 (Operand.tmp 72) 1, type := 0, pos := "law.go:103", after := #[{ on := 1, ground := Ground.data }], guard := none }) (v := (.pointer (some ⟨px, 1, none⟩))) rfl (by kernel_rfl) (by kernel_rfl) (by kernel_rfl) (by kernel_rfl) (by kernel_rfl) (fun _ _ _ h => h) (HC0.out.cls HS.out) ?_ ?_
  ·
   refine Or.inl ⟨rfl, fun w hSw => ?_⟩
   exact EffR.same (by go_simp)
  try simp only [Act.put, zA, zB, zC]
  refine wpAnyU_take (i := 3) (oi := { dst := some 74, op := Op.load 26 (Operand.tmp 73), type := 26, pos := "law.go:103", after := #[{ on := 2, ground := Ground.data }], guard := none }) (v := (.pointer (some ⟨g, 0, none⟩))) rfl (by kernel_rfl) (by kernel_rfl) (by kernel_rfl) (by kernel_rfl) (by kernel_rfl) (fun _ _ _ h => h) (HC0.out.cls HS.out) ?_ ?_
  ·
   refine Or.inl ⟨rfl, fun w hSw => ?_⟩
   have e0 := hSw.1.cell (j := 1) rfl
   exact EffR.same (by go_simp)
  try simp only [Act.put, zA, zB, zC]
  refine wpAnyU_take (i := 4) (oi := { dst := some 75, op := Op.fieldAddr 74 (Operand.tmp 3) 4, type := 0, pos := "law.go:103", after := #[], guard := none }) (v := (.pointer (some ⟨gb, 4, none⟩))) rfl (by kernel_rfl) (by kernel_rfl) (by kernel_rfl) (by kernel_rfl) (by kernel_rfl) (fun _ _ _ h => h) (HC0.out.cls HS.out) ?_ ?_
  ·
   refine Or.inl ⟨rfl, fun w hSw => ?_⟩
   exact EffR.same (by go_simp)
  try simp only [Act.put, zA, zB, zC]
  refine wpAnyU_take (i := 5) (oi := { dst := some 76, op := Op.load 46 (Operand.tmp 75), type := 46, pos := "law.go:103", after := #[{ on := 4, ground := Ground.data }], guard := none }) (v := (.slice a4 m4 c4)) rfl (by kernel_rfl) (by kernel_rfl) (by kernel_rfl) (by kernel_rfl) (by kernel_rfl) (fun _ _ _ h => h) (HC0.out.cls HS.out) ?_ ?_
  ·
   refine Or.inl ⟨rfl, fun w hSw => ?_⟩
   have e0 := hSw.2.cell (j := 4) rfl
   exact EffR.same (by go_simp)
  try simp only [Act.put, zA, zB, zC]
  refine wpAnyU_ready (rs := [6]) (by kernel_rfl) (by simp) ?_
  refine AllReadyU.cons (o := { dst := some 77, op := Op.call { callee := Callee.value (Operand.func 26), args := #[Operand.tmp 74, Operand.tmp 76], argTypes := #[26, 46] }, type := 0, pos := "law.go:103", after := #[{ on := 3, ground := Ground.data }, { on := 5, ground := Ground.data }], guard := none }) rfl (fun wA6 hA6 K hK => ?_) AllReadyU.nil
  have hs := Crash_5 wA6 g gl q rl n D D T T (HL0.out.below hA6) (.slice a4 m4 c4) pk ((HC0.out.below hA6).stay HV4.out)
  rw [← HDC.out] at hs
  go_simp
  refine hs.mono ?_
  clear hs
  rintro e0 w1 ⟨rfl, F1, hl1, hc1⟩
  have HL1 := Lib.hid hl1
  have HC1 : Hid (KC F W F1 w1) := (HC0.out.below hA6).next hc1
  refine hK.out _ _ (BL w1) (HC1.out.cls HS.out) (Below.refl _ _) ?_
  clear hl1 hc1
  clear hK K
  try simp only [Act.put, zA, zB, zC]
  refine wpAnyU_done (by kernel_rfl) (fun w2 hb1 => ?_) _
  have HL2 := Lib.hid (HL1.out.below hb1)
  have HC2 := Lib.hid (HC1.out.below hb1)
  clear hb1
  go_upto_region 15 with fail
  refine wp_region_uni (S0 := (SP px g gl q rl gb [Value.int .i64 do_, .int .i64 num, .slice a2 m2 c2, .slice a3 m3 c3, .slice a4 m4 c4])) (S := BL w2) 7 (by kernel_rfl) (Below.refl _ _).drew ?_
  refine wpAnyU_take (i := 0) (oi := { dst := some 78, op := Op.move (Operand.tmp 0), type := 66, pos := "law.go:104", after := #[], guard := none }) (v := (.pointer (some ⟨px, 0, none⟩))) rfl (by kernel_rfl) (by kernel_rfl) (by kernel_rfl) (by kernel_rfl) (by kernel_rfl) (fun _ _ _ h => h) (HC2.out.cls HS.out) ?_ ?_
  ·
   refine Or.inl ⟨rfl, fun w hSw => ?_⟩
   exact EffR.same (by go_simp)
  try simp only [Act.put, zA, zB, zC]
  refine wpAnyU_take (i := 1) (oi := { dst := some 79, op := Op.nilCheck (Operand.tmp 78), type := 0, pos := "law.go:104", after := #[{ on := 0, ground := Ground.data }], guard := none }) (v := (.pointer (some ⟨px, 0, none⟩))) rfl (by kernel_rfl) (by kernel_rfl) (by kernel_rfl) (by kernel_rfl) (by kernel_rfl) (fun _ _ _ h => h) (HC2.out.cls HS.out) ?_ ?_
  ·
   refine Or.inl ⟨rfl, fun w hSw => ?_⟩
   exact EffR.same (by go_simp)
  try simp only [Act.put, zA, zB, zC]
  refine wpAnyU_take (i := 2) (oi := { dst := some 80, op := Op.fieldAddr 71 (Operand.tmp 79) 3, type := 0, pos := "law.go:104", after := #[{ on := 1, ground := Ground.data }], guard := none }) (v := (.pointer (some ⟨px, 3, none⟩))) rfl (by kernel_rfl) (by kernel_rfl) (by kernel_rfl) (by kernel_rfl) (by kernel_rfl) (fun _ _ _ h => h) (HC2.out.cls HS.out) ?_ ?_
  ·
   refine Or.inl ⟨rfl, fun w hSw => ?_⟩
   exact EffR.same (by go_simp)
  try simp only [Act.put, zA, zB, zC]
  refine wpAnyU_take (i := 3) (oi := { dst := some 81, op := Op.load 67 (Operand.tmp 80), type := 67, pos := "law.go:104", after := #[{ on := 2, ground := Ground.data }], guard := none }) (v := (.pointer (some ⟨q, 0, none⟩))) rfl (by kernel_rfl) (by kernel_rfl) (by kernel_rfl) (by kernel_rfl) (by kernel_rfl) (fun _ _ _ h => h) (HC2.out.cls HS.out) ?_ ?_
  ·
   refine Or.inl ⟨rfl, fun w hSw => ?_⟩
   have e0 := hSw.1.cell (j := 3) rfl
   exact EffR.same (by go_simp)
  try simp only [Act.put, zA, zB, zC]
  refine wpAnyU_take (i := 4) (oi := { dst := some 82, op := Op.fieldAddr 74 (Operand.tmp 3) 4, type := 0, pos := "law.go:104", after := #[], guard := none }) (v := (.pointer (some ⟨gb, 4, none⟩))) rfl (by kernel_rfl) (by kernel_rfl) (by kernel_rfl) (by kernel_rfl) (by kernel_rfl) (fun _ _ _ h => h) (HC2.out.cls HS.out) ?_ ?_
  ·
   refine Or.inl ⟨rfl, fun w hSw => ?_⟩
   exact EffR.same (by go_simp)
  try simp only [Act.put, zA, zB, zC]
  refine wpAnyU_take (i := 5) (oi := { dst := some 83, op := Op.load 46 (Operand.tmp 82), type := 46, pos := "law.go:104", after := #[{ on := 4, ground := Ground.data }], guard := none }) (v := (.slice a4 m4 c4)) rfl (by kernel_rfl) (by kernel_rfl) (by kernel_rfl) (by kernel_rfl) (by kernel_rfl) (fun _ _ _ h => h) (HC2.out.cls HS.out) ?_ ?_
  ·
   refine Or.inl ⟨rfl, fun w hSw => ?_⟩
   have e0 := hSw.2.cell (j := 4) rfl
   exact EffR.same (by go_simp)
  try simp only [Act.put, zA, zB, zC]
  refine wpAnyU_ready (rs := [6]) (by kernel_rfl) (by simp) ?_
  refine AllReadyU.cons (o := { dst := some 84, op := Op.call { callee := Callee.value (Operand.func 35), args := #[Operand.tmp 81, Operand.tmp 83], argTypes := #[67, 46] }, type := 0, pos := "law.go:104", after := #[{ on := 3, ground := Ground.data }, { on := 5, ground := Ground.data }], guard := none }) rfl (fun wA6 hA6 K hK => ?_) AllReadyU.nil
  have hs := PCrash_5 wA6 g gl q rl n Dc D T T (HL2.out.below hA6) (.slice a4 m4 c4) pk ((HC2.out.below hA6).stay HV4.out)
  rw [← HDC.out] at hs
  go_simp
  refine hs.mono ?_
  clear hs
  rintro e0 w3 ⟨rfl, F3, hl3, hc3⟩
  have HL3 := Lib.hid hl3
  have HC3 : Hid (KC F W F3 w3) := (HC2.out.below hA6).next hc3
  refine hK.out _ _ (BL w3) (HC3.out.cls HS.out) (Below.refl _ _) ?_
  clear hl3 hc3
  clear hK K
  try simp only [Act.put, zA, zB, zC]
  refine wpAnyU_done (by kernel_rfl) (fun w4 hb1 => ?_) _
  have HL4 := Lib.hid (HL3.out.below hb1)
  have HC4 := Lib.hid (HC3.out.below hb1)
  clear hb1
  have hc1 := (HC4.out.here HS.out).1.cell (j := 1) rfl
  have hst := Start_5 w4 g gl q rl n Dc Dc T T HL4.out
  rw [← HDN.out] at hst
  go_wp2_with fail
  refine hst.mono ?_
  clear hst hc1
  rintro e w5 ⟨rfl, F5, hl5, hk5⟩
  have HL5 := Lib.hid hl5
  have HC5 : Hid (KC F W F5 w5) := HC4.out.next hk5
  clear hl5 hk5
  have hc3 := (HC5.out.here HS.out).1.cell (j := 3) rfl
  have hst := PStart_5 w5 g gl q rl n Dn Dc T T HL5.out (by rw [HDC.out]; exact fun e => rfl)
  rw [← HDN.out] at hst
  go_wp2_with fail
  refine hst.mono ?_
  clear hst hc3
  rintro e w6 ⟨rfl, F6, hl6, hk6⟩
  have HL6 := Lib.hid hl6
  have HC6 : Hid (KC F W F6 w6) := HC5.out.next hk6
  clear hl6 hk6
  obtain ⟨F5, he5, hs5⟩ := HL6.out.disks
  have hxp := HC6.out.here HSX0.out
  have hop := open_any F5 w6 px g q n Dn _ _ hxp he5 (fun e => (HC6.out.2 px (hs5 px e)).elim HPX.out (fun e2 => by have := HPXW.out; have := HBW.out.size; omega)) HDI.out.1 hI.out.n4
  have HS5 := Lib.hid hs5
  clear he5 hs5 hxp
  go_wp2_with fail
  refine hop.mono ?_
  clear hop
  rintro e w9 ⟨rfl, hop9⟩
  have HO9 := Lib.hid hop9
  clear hop9
  go_wp2_with fail
  go_ret
  exact StepPost.opened hI.out ((KC.refl F w).below HBW.out |>.next HC6.out) HS5.out HDI.out HO9.out
 ·
  clear hnb
  obtain ⟨F5, he5, hs5⟩ := (HL.out.below HWB.out).disks
  have hop := open_any F5 wB px g q n D _ _ (HSXP.out.below HWB.out) he5 (fun e => HPX.out (hs5 px e)) hI.out.full hI.out.n4
  rw [hwB] at hop
  have HS5 := Lib.hid hs5
  clear he5 hs5 hgb hwB
  go_enter Try.func34, Try.ntmps34
  go_wp2_with fail
  refine hop.mono ?_
  clear hop
  rw [← HWB0.out]
  rintro e w9 ⟨rfl, hop9⟩
  have HO9 := Lib.hid hop9
  clear hop9
  go_wp2_with fail
  go_ret
  exact StepPost.opened hI.out ((KC.refl F w).below HWB.out) HS5.out ⟨hI.out.full, hI.out.torn, by have := hI.out.op; omega⟩ HO9.out
 ·
  obtain ⟨u2, hu2, hu264⟩ := as_u64L num
  obtain ⟨kx, hkx⟩ : ∃ z, z = u2 % n := ⟨_, rfl⟩
  have hn34 : 4 ≤ n ∧ n ≤ 300 := ⟨hI.out.n4, hI.out.n3⟩
  have HKX : Hid (kx < n) := by show _ < _; rw [hkx]; exact Nat.mod_lt _ (by omega)
  have HU2 := Lib.hid hu2
  have HUN : Hid (IntKind.u64.wrap (n : Int) = (n : Int)) := by show _ = _; rw [IntKind.wrap_u64]; omega
  have HUK : Hid (IntKind.i64.wrap (kx : Int) = (kx : Int)) := by show _ = _; rw [IntKind.wrap_i64]; have := HKX.out; omega
  have HREM : Hid ((u2 : Int).tmod (n : Int) = (kx : Int) ∧ (u2 : Int) % (n : Int) = (kx : Int)) := by
   have e1 : (u2 : Int) % (n : Int) = (kx : Int) := by rw [hkx]; rfl
   exact ⟨by rw [Int.tmod_eq_emod_of_nonneg (by omega)]; exact e1, e1⟩
  have HNZ : Hid (¬ (n : Int) = 0 ∧ ¬ n = 0) := by show ¬ _ ∧ ¬ _; omega
  have HOPL : Hid (D.op.length < 1000000) := by show _ < _; have := hI.out.op; omega
  have hnn : (4 : Int) ≤ n ∧ (n : Int) ≤ 300 := by omega
  clear hu2 hkx hnb hgb hwB
  go_enter Try.func34, Try.ntmps34
  go_upto_region 22 with fail
  rw [← HGB0.out, ← HWB0.out]
  obtain ⟨W, hW⟩ : ∃ z, z = wB := ⟨_, rfl⟩
  rw [← hW]
  have HBW : Hid (Below w.heap.size w W) := by rw [hW]; exact HWB.out
  have HBB : Hid (Below wB.heap.size wB W) := by rw [hW]; exact Below.refl _ _
  clear hW
  have HC0 : Hid (KC F W F W) := KC.refl F W
  have HL0 : Hid (L5 F W g gl q rl n D T D T) := HL.out.below HBW.out
  have HS : Hid (Stay F W (SP px g gl q rl gb [Value.int .i64 do_, .int .i64 num, .slice a2 m2 c2, .slice a3 m3 c3, .slice a4 m4 c4])) := HSB.out.below HBB.out
  have HQN : Hid (W.cell? ⟨q, 0, none⟩ = some (.int .i64 (n : Int))) := by
   obtain ⟨Fa, Fb, _, ⟨Pd, Pl, hf, b1, _⟩, _⟩ := HL0.out
   exact b1.cell0
  refine wp_region_uni (S0 := (fun x => (SP px g gl q rl gb [Value.int .i64 do_, .int .i64 num, .slice a2 m2 c2, .slice a3 m3 c3, .slice a4 m4 c4]) x ∧ x.cell? ⟨q, 0, none⟩ = some (.int .i64 (n : Int)))) (S := BL W) 14 (by kernel_rfl) (Below.refl _ _).drew ?_
  refine wpAnyU_take (i := 0) (oi := { dst := some 103, op := Op.fieldAddr 74 (Operand.tmp 3) 1, type := 0, pos := "law.go:111", after := #[], guard := none }) (v := (.pointer (some ⟨gb, 1, none⟩))) rfl (by kernel_rfl) (by kernel_rfl) (by kernel_rfl) (by kernel_rfl) (by kernel_rfl) (fun _ _ _ h => h) (⟨fun x h => ⟨(HC0.out.below h).here HS.out, BL.cell h HQN.out⟩, fun _ _ h hb => Below.next h hb⟩ : Cls (fun x => (SP px g gl q rl gb [Value.int .i64 do_, .int .i64 num, .slice a2 m2 c2, .slice a3 m3 c3, .slice a4 m4 c4]) x ∧ x.cell? ⟨q, 0, none⟩ = some (.int .i64 (n : Int))) (BL W)) ?_ ?_
  ·
   refine Or.inl ⟨rfl, fun w hSw => ?_⟩
   exact EffR.same (by go_simp)
  try simp only [Act.put, zA, zB, zC]
  refine wpAnyU_take (i := 1) (oi := { dst := some 104, op := Op.load 3 (Operand.tmp 103), type := 3, pos := "law.go:111", after := #[{ on := 0, ground := Ground.data }], guard := none }) (v := (.int .i64 num)) rfl (by kernel_rfl) (by kernel_rfl) (by kernel_rfl) (by kernel_rfl) (by kernel_rfl) (fun _ _ _ h => h) (⟨fun x h => ⟨(HC0.out.below h).here HS.out, BL.cell h HQN.out⟩, fun _ _ h hb => Below.next h hb⟩ : Cls (fun x => (SP px g gl q rl gb [Value.int .i64 do_, .int .i64 num, .slice a2 m2 c2, .slice a3 m3 c3, .slice a4 m4 c4]) x ∧ x.cell? ⟨q, 0, none⟩ = some (.int .i64 (n : Int))) (BL W)) ?_ ?_
  ·
   refine Or.inl ⟨rfl, fun w hSw => ?_⟩
   have e0 := hSw.1.2.cell (j := 1) rfl
   exact EffR.same (by go_simp)
  try simp only [Act.put, zA, zB, zC]
  refine wpAnyU_take (i := 2) (oi := { dst := some 105, op := Op.convert 3 48 (Operand.tmp 104), type := 48, pos := "law.go:111", after := #[{ on := 1, ground := Ground.data }], guard := none }) (v := (.int .u64 (u2 : Int))) rfl (by kernel_rfl) (by kernel_rfl) (by kernel_rfl) (by kernel_rfl) (by kernel_rfl) (fun _ _ _ h => h) (⟨fun x h => ⟨(HC0.out.below h).here HS.out, BL.cell h HQN.out⟩, fun _ _ h hb => Below.next h hb⟩ : Cls (fun x => (SP px g gl q rl gb [Value.int .i64 do_, .int .i64 num, .slice a2 m2 c2, .slice a3 m3 c3, .slice a4 m4 c4]) x ∧ x.cell? ⟨q, 0, none⟩ = some (.int .i64 (n : Int))) (BL W)) ?_ ?_
  ·
   refine Or.inl ⟨rfl, fun w hSw => ?_⟩
   have e0 := HU2.out
   exact EffR.same (by go_simp)
  try simp only [Act.put, zA, zB, zC]
  refine wpAnyU_take (i := 3) (oi := { dst := some 106, op := Op.move (Operand.tmp 0), type := 66, pos := "law.go:111", after := #[], guard := none }) (v := (.pointer (some ⟨px, 0, none⟩))) rfl (by kernel_rfl) (by kernel_rfl) (by kernel_rfl) (by kernel_rfl) (by kernel_rfl) (fun _ _ _ h => h) (⟨fun x h => ⟨(HC0.out.below h).here HS.out, BL.cell h HQN.out⟩, fun _ _ h hb => Below.next h hb⟩ : Cls (fun x => (SP px g gl q rl gb [Value.int .i64 do_, .int .i64 num, .slice a2 m2 c2, .slice a3 m3 c3, .slice a4 m4 c4]) x ∧ x.cell? ⟨q, 0, none⟩ = some (.int .i64 (n : Int))) (BL W)) ?_ ?_
  ·
   refine Or.inl ⟨rfl, fun w hSw => ?_⟩
   exact EffR.same (by go_simp)
  try simp only [Act.put, zA, zB, zC]
  refine wpAnyU_take (i := 4) (oi := { dst := some 107, op := Op.nilCheck (Operand.tmp 106), type := 0, pos := "law.go:111", after := #[{ on := 3, ground := Ground.data }], guard := none }) (v := (.pointer (some ⟨px, 0, none⟩))) rfl (by kernel_rfl) (by kernel_rfl) (by kernel_rfl) (by kernel_rfl) (by kernel_rfl) (fun _ _ _ h => h) (⟨fun x h => ⟨(HC0.out.below h).here HS.out, BL.cell h HQN.out⟩, fun _ _ h hb => Below.next h hb⟩ : Cls (fun x => (SP px g gl q rl gb [Value.int .i64 do_, .int .i64 num, .slice a2 m2 c2, .slice a3 m3 c3, .slice a4 m4 c4]) x ∧ x.cell? ⟨q, 0, none⟩ = some (.int .i64 (n : Int))) (BL W)) ?_ ?_
  ·
   refine Or.inl ⟨rfl, fun w hSw => ?_⟩
   exact EffR.same (by go_simp)
  try simp only [Act.put, zA, zB, zC]
  refine wpAnyU_take (i := 5) (oi := { dst := some 108, op := Op.fieldAddr 71 (Operand.tmp 107) 3, type := 0, pos := "law.go:111", after := #[{ on := 4, ground := Ground.data }], guard := none }) (v := (.pointer (some ⟨px, 3, none⟩))) rfl (by kernel_rfl) (by kernel_rfl) (by kernel_rfl) (by kernel_rfl) (by kernel_rfl) (fun _ _ _ h => h) (⟨fun x h => ⟨(HC0.out.below h).here HS.out, BL.cell h HQN.out⟩, fun _ _ h hb => Below.next h hb⟩ : Cls (fun x => (SP px g gl q rl gb [Value.int .i64 do_, .int .i64 num, .slice a2 m2 c2, .slice a3 m3 c3, .slice a4 m4 c4]) x ∧ x.cell? ⟨q, 0, none⟩ = some (.int .i64 (n : Int))) (BL W)) ?_ ?_
  ·
   refine Or.inl ⟨rfl, fun w hSw => ?_⟩
   exact EffR.same (by go_simp)
  try simp only [Act.put, zA, zB, zC]
  refine wpAnyU_take (i := 6) (oi := { dst := some 109, op := Op.load 67 (Operand.tmp 108), type := 67, pos := "law.go:111", after := #[{ on := 5, ground := Ground.data }], guard := none }) (v := (.pointer (some ⟨q, 0, none⟩))) rfl (by kernel_rfl) (by kernel_rfl) (by kernel_rfl) (by kernel_rfl) (by kernel_rfl) (fun _ _ _ h => h) (⟨fun x h => ⟨(HC0.out.below h).here HS.out, BL.cell h HQN.out⟩, fun _ _ h hb => Below.next h hb⟩ : Cls (fun x => (SP px g gl q rl gb [Value.int .i64 do_, .int .i64 num, .slice a2 m2 c2, .slice a3 m3 c3, .slice a4 m4 c4]) x ∧ x.cell? ⟨q, 0, none⟩ = some (.int .i64 (n : Int))) (BL W)) ?_ ?_
  ·
   refine Or.inl ⟨rfl, fun w hSw => ?_⟩
   have e0 := hSw.1.1.cell (j := 3) rfl
   exact EffR.same (by go_simp)
  try simp only [Act.put, zA, zB, zC]
  refine wpAnyU_take (i := 7) (oi := { dst := some 110, op := Op.nilCheck (Operand.tmp 109), type := 0, pos := "law.go:111", after := #[{ on := 6, ground := Ground.data }], guard := none }) (v := (.pointer (some ⟨q, 0, none⟩))) rfl (by kernel_rfl) (by kernel_rfl) (by kernel_rfl) (by kernel_rfl) (by kernel_rfl) (fun _ _ _ h => h) (⟨fun x h => ⟨(HC0.out.below h).here HS.out, BL.cell h HQN.out⟩, fun _ _ h hb => Below.next h hb⟩ : Cls (fun x => (SP px g gl q rl gb [Value.int .i64 do_, .int .i64 num, .slice a2 m2 c2, .slice a3 m3 c3, .slice a4 m4 c4]) x ∧ x.cell? ⟨q, 0, none⟩ = some (.int .i64 (n : Int))) (BL W)) ?_ ?_
  ·
   refine Or.inl ⟨rfl, fun w hSw => ?_⟩
   exact EffR.same (by go_simp)
  try simp only [Act.put, zA, zB, zC]
  refine wpAnyU_take (i := 8) (oi := { dst := some 111, op := Op.fieldAddr 78 (Operand.tmp 110) 0, type := 0, pos := "law.go:111", after := #[{ on := 7, ground := Ground.data }], guard := none }) (v := (.pointer (some ⟨q, 0, none⟩))) rfl (by kernel_rfl) (by kernel_rfl) (by kernel_rfl) (by kernel_rfl) (by kernel_rfl) (fun _ _ _ h => h) (⟨fun x h => ⟨(HC0.out.below h).here HS.out, BL.cell h HQN.out⟩, fun _ _ h hb => Below.next h hb⟩ : Cls (fun x => (SP px g gl q rl gb [Value.int .i64 do_, .int .i64 num, .slice a2 m2 c2, .slice a3 m3 c3, .slice a4 m4 c4]) x ∧ x.cell? ⟨q, 0, none⟩ = some (.int .i64 (n : Int))) (BL W)) ?_ ?_
  ·
   refine Or.inl ⟨rfl, fun w hSw => ?_⟩
   exact EffR.same (by go_simp)
  try simp only [Act.put, zA, zB, zC]
  refine wpAnyU_take (i := 9) (oi := { dst := some 112, op := Op.load 3 (Operand.tmp 111), type := 3, pos := "law.go:111", after := #[{ on := 8, ground := Ground.data }], guard := none }) (v := (.int .i64 (n : Int))) rfl (by kernel_rfl) (by kernel_rfl) (by kernel_rfl) (by kernel_rfl) (by kernel_rfl) (fun _ _ _ h => h) (⟨fun x h => ⟨(HC0.out.below h).here HS.out, BL.cell h HQN.out⟩, fun _ _ h hb => Below.next h hb⟩ : Cls (fun x => (SP px g gl q rl gb [Value.int .i64 do_, .int .i64 num, .slice a2 m2 c2, .slice a3 m3 c3, .slice a4 m4 c4]) x ∧ x.cell? ⟨q, 0, none⟩ = some (.int .i64 (n : Int))) (BL W)) ?_ ?_
  ·
   refine Or.inl ⟨rfl, fun w hSw => ?_⟩
   have e0 := hSw.2
   exact EffR.same (by go_simp)
  try simp only [Act.put, zA, zB, zC]
  refine wpAnyU_take (i := 10) (oi := { dst := some 113, op := Op.convert 3 48 (Operand.tmp 112), type := 48, pos := "law.go:111", after := #[{ on := 9, ground := Ground.data }], guard := none }) (v := (.int .u64 (n : Int))) rfl (by kernel_rfl) (by kernel_rfl) (by kernel_rfl) (by kernel_rfl) (by kernel_rfl) (fun _ _ _ h => h) (⟨fun x h => ⟨(HC0.out.below h).here HS.out, BL.cell h HQN.out⟩, fun _ _ h hb => Below.next h hb⟩ : Cls (fun x => (SP px g gl q rl gb [Value.int .i64 do_, .int .i64 num, .slice a2 m2 c2, .slice a3 m3 c3, .slice a4 m4 c4]) x ∧ x.cell? ⟨q, 0, none⟩ = some (.int .i64 (n : Int))) (BL W)) ?_ ?_
  ·
   refine Or.inl ⟨rfl, fun w hSw => ?_⟩
   have e0 := HUN.out
   exact EffR.same (by go_simp)
  try simp only [Act.put, zA, zB, zC]
  refine wpAnyU_take (i := 11) (oi := { dst := some 114, op := Op.binOp BinOp.rem 48 (Operand.tmp 105) (Operand.tmp 113) 48, type := 48, pos := "law.go:111", after := #[{ on := 2, ground := Ground.data }, { on := 10, ground := Ground.data }], guard := none }) (v := (.int .u64 (kx : Int))) rfl (by kernel_rfl) (by kernel_rfl) (by kernel_rfl) (by kernel_rfl) (by kernel_rfl) (fun _ _ _ h => h) (⟨fun x h => ⟨(HC0.out.below h).here HS.out, BL.cell h HQN.out⟩, fun _ _ h hb => Below.next h hb⟩ : Cls (fun x => (SP px g gl q rl gb [Value.int .i64 do_, .int .i64 num, .slice a2 m2 c2, .slice a3 m3 c3, .slice a4 m4 c4]) x ∧ x.cell? ⟨q, 0, none⟩ = some (.int .i64 (n : Int))) (BL W)) ?_ ?_
  ·
   refine Or.inl ⟨rfl, fun w hSw => ?_⟩
   have e0 := HREM.out
   have e1 := HNZ.out
   exact EffR.same (by go_simp)
  try simp only [Act.put, zA, zB, zC]
  refine wpAnyU_take (i := 12) (oi := { dst := some 115, op := Op.convert 48 3 (Operand.tmp 114), type := 3, pos := "law.go:111", after := #[{ on := 11, ground := Ground.data }], guard := none }) (v := (.int .i64 (kx : Int))) rfl (by kernel_rfl) (by kernel_rfl) (by kernel_rfl) (by kernel_rfl) (by kernel_rfl) (fun _ _ _ h => h) (⟨fun x h => ⟨(HC0.out.below h).here HS.out, BL.cell h HQN.out⟩, fun _ _ h hb => Below.next h hb⟩ : Cls (fun x => (SP px g gl q rl gb [Value.int .i64 do_, .int .i64 num, .slice a2 m2 c2, .slice a3 m3 c3, .slice a4 m4 c4]) x ∧ x.cell? ⟨q, 0, none⟩ = some (.int .i64 (n : Int))) (BL W)) ?_ ?_
  ·
   refine Or.inl ⟨rfl, fun w hSw => ?_⟩
   have e0 := HUK.out
   exact EffR.same (by go_simp)
  try simp only [Act.put, zA, zB, zC]
  refine wpAnyU_take (i := 13) (oi := { dst := some 7, op := Op.assign (Operand.tmp 115), type := 3, pos := "law.go:111", after := #[{ on := 12, ground := Ground.data }, { on := 0, ground := Ground.phase }, { on := 1, ground := Ground.phase }, { on := 2, ground := Ground.phase }, { on := 3, ground := Ground.phase }, { on := 4, ground := Ground.phase }, { on := 5, ground := Ground.phase }, { on := 6, ground := Ground.phase }, { on := 7, ground := Ground.phase }, { on := 8, ground := Ground.phase }, { on := 9, ground := Ground.phase }, { on := 10, ground := Ground.phase }, { on := 11, ground := Ground.phase }, { on := 12, ground := Ground.phase }], guard := none }) (v := (.int .i64 (kx : Int))) rfl (by kernel_rfl) (by kernel_rfl) (by kernel_rfl) (by kernel_rfl) (by kernel_rfl) (fun _ _ _ h => h) (⟨fun x h => ⟨(HC0.out.below h).here HS.out, BL.cell h HQN.out⟩, fun _ _ h hb => Below.next h hb⟩ : Cls (fun x => (SP px g gl q rl gb [Value.int .i64 do_, .int .i64 num, .slice a2 m2 c2, .slice a3 m3 c3, .slice a4 m4 c4]) x ∧ x.cell? ⟨q, 0, none⟩ = some (.int .i64 (n : Int))) (BL W)) ?_ ?_
  ·
   refine Or.inl ⟨rfl, fun w hSw => ?_⟩
   exact EffR.same (by go_simp)
  try simp only [Act.put, zA, zB, zC]
  refine wpAnyU_done (by kernel_rfl) (fun w1 hb1 => ?_) _
  have HBX : Hid (Below w.heap.size w w1) := HBW.out.next hb1
  have HBY : Hid (Below wB.heap.size wB w1) := HBB.out.next hb1
  clear hb1 HBW HBB HC0 HL0 HS HQN
  obtain ⟨W2, hW2⟩ : ∃ z, z = w1 := ⟨_, rfl⟩
  rw [← hW2] at HBX HBY ⊢
  clear hW2
  obtain ⟨bb, hbb⟩ : ∃ z, z = W2.heap.size := ⟨_, rfl⟩
  have hz : HC (W2.alloc (.cells (bvs zero64).toArray 36)) W2.heap.size (bvs zero64) := HC.new
  have hbz : Below W2.heap.size W2 (W2.alloc (.cells (bvs zero64).toArray 36)) := (Below.refl _ _).alloc (Nat.le_refl _) _
  obtain ⟨Z, hZ⟩ : ∃ z, z = W2.alloc (.cells (bvs zero64).toArray 36) := ⟨_, rfl⟩
  rw [← hZ, ← hbb] at hz
  rw [← hZ] at hbz
  have HZ := Lib.hid hz
  have HBZ := Lib.hid hbz
  have HBB0 := Lib.hid hbb
  have HGB : Hid (gb < bb) := by show _ < _; rw [hbb]; have := HBY.out.size; have := HGX.out; omega
  go_wp2_with fail
  change Code.wp _ _ _ _ (W2.alloc (.cells (bvs zero64).toArray 36))
  rw [← hbb, ← hZ]
  clear hz hbz hbb hZ
  go_loopw [9] (fun i wr => ∃ j : Nat, j ≤ 64 ∧ j ≤ m2 ∧ i = .int .i64 j ∧ HC wr bb (bvs (cutB bl j)) ∧ Kept (fun z => z = bb) Z wr) (fun i _ => 64 - (intOf i).toNat)
  case atStart => exact ⟨0, by omega, by omega, rfl, by rw [cutB_zero]; exact HZ.out, Kept.refl _ _⟩
  case round =>
   obtain ⟨j, hj, hjm, rfl, hcx, hkz⟩ := hrel
   have HCJ := Lib.hid hcx
   have HKZ := Lib.hid hkz
   have HBR : Hid (Below W2.heap.size W2 wr) := HBZ.out.trans (HKZ.out.below (fun k hk e => by have := HBB0.out; omega) HBZ.out.size)
   have hcell2 := (HSBB.out.below (HBY.out.next HBR.out)).cell (j := 2) rfl
   clear hcx hkz
   by_cases hjj : j < 64 ∧ j < m2
   ·
    obtain ⟨hj64, hjl⟩ := hjj
    have hj0 : (0 : Int) ≤ j ∧ (j : Int) < 64 := by omega
    obtain ⟨bk, off, rfl, _, hca⟩ := Bs.at (HB2.out.mono (HBX.out.next HBR.out)) (by have := HM2.out; omega)
    have hjb : j < bl.length := by have := HM2.out; omega
    have hcb := hca j hjb
    obtain ⟨c, hc⟩ : ∃ z, z = bl[j] := ⟨_, rfl⟩
    rw [← hc] at hcb
    have HCC := Lib.hid hc
    have hfz := HCJ.out.frozen j
    have hcj : ∃ u, wr.cell? ⟨bb, j, none⟩ = some (.int .u8 u) := by
     have hlt2 : j < (cutB bl j).length := by rw [cutB_length (by omega) (by omega)]; omega
     exact ⟨((cutB bl j)[j].toNat : Int), HCJ.out.cell (by unfold bvs; rw [List.getElem?_map, List.getElem?_eq_getElem hlt2]; rfl)⟩
    obtain ⟨u, hcj⟩ := hcj
    have hc9 := c.toNat_lt
    clear hca hc
    go_wp2_with fail
    refine ⟨⟨j + 1, by omega, by omega, by push_cast; rfl, ?_, HKZ.out.setCell _ _ rfl⟩, by simp [intOf]; omega⟩
    have h9 := HCJ.out.put j (.int .u8 (c.toNat : Int))
    rw [bvs_setP, HCC.out, cutB_step bl hj64 hjb] at h9
    rw [HCC.out]
    exact h9
   ·
    obtain ⟨W, hW⟩ : ∃ z, z = wr := ⟨_, rfl⟩
    obtain ⟨xb, hxb⟩ : ∃ z, z = cutB bl j := ⟨_, rfl⟩
    have HX64 : Hid (xb.length = 64) := by show _ = _; rw [hxb]; exact cutB_length hj (by have := HM2.out; omega)
    have HBW : Hid (Below w.heap.size w W) := by rw [hW]; exact HBX.out.next HBR.out
    have HBB : Hid (Below wB.heap.size wB W) := by rw [hW]; exact HBY.out.next HBR.out
    have HC0 : Hid (KC F W F W) := KC.refl F W
    have HL0 : Hid (L5 F W g gl q rl n D T D T) := HL.out.below HBW.out
    have HNBB : Hid (¬ F bb ∧ px ≠ bb) := ⟨fun e => by have := HLT.out bb e; have := HBB0.out; have := HBX.out.size; omega, by have := HPXW.out; have := HBB0.out; have := HBX.out.size; omega⟩
    have HS8 : Hid (Stay F W (SQ px g q bb xb)) := fun x hk => by
     have hx9 := (HSXP.out.below HBW.out).keptJ hk HPX.out
     have hc9 : HC x bb (bvs xb) := HC.kept (by rw [hW, hxb]; exact HCJ.out) hk HNBB.out.1
     exact ⟨hx9.cell (j := 1) rfl, hx9.cell (j := 3) rfl, hc9.bytes⟩
    have HSX0 : Hid (Stay F W (fun x => HT x px 71 (pcl (.pointer (some ⟨gl, 0, none⟩)) g (.pointer (some ⟨rl, 0, none⟩)) q))) := HSX.out.below HBW.out
    have HSZ := Lib.hid (size64_of HX64.out)
    obtain ⟨E1, hE1⟩ : ∃ z, z = (dWrite D kx xb).1 := ⟨_, rfl⟩
    obtain ⟨D1, hD1⟩ : ∃ z, z = (dWrite D kx xb).2 := ⟨_, rfl⟩
    obtain ⟨E2, hE2⟩ : ∃ z, z = (dSync D1).1 := ⟨_, rfl⟩
    obtain ⟨D2, hD2⟩ : ∃ z, z = (dSync D1).2 := ⟨_, rfl⟩
    have HE1 := Lib.hid hE1
    have HD1 := Lib.hid hD1
    have HE2 := Lib.hid hE2
    have HD2 := Lib.hid hD2
    have HDI : Hid (DInv D2 kk) := by
     have h1 := dWrite_inv (k := kx) (b := xb) hI.out.full hI.out.torn
     rw [← hD1] at h1
     have h2 := dSync_inv h1.1 h1.2
     rw [← hD2] at h2
     have h3 := dWrite_op D kx xb
     rw [← hD1] at h3
     have h4 := hI.out.op
     exact ⟨h2.1, h2.2.1, by omega⟩
    clear hE1 hD1 hE2 hD2 hxb
    by_cases hj64 : j < 64
    case' pos =>
     have hjl' : decide ((j : Int) < (m2 : Int)) = false := by simp; omega
     have hjl2 : (m2 : Int) ≤ j := by omega
     have hj0 : (0 : Int) ≤ j ∧ (j : Int) < 64 := by omega
     go_upto_region 28 with fail
    case' neg =>
     have hj64' : decide ((j : Int) < 64) = false := by simp; omega
     have hj0 : (64 : Int) ≤ j := by omega
     go_upto_region 28 with fail
    all_goals
     rw [← hW]
     clear hW
     refine wp_region_uni (S0 := (SQ px g q bb xb)) (S := BL W) 33 (by kernel_rfl) (Below.refl _ _).drew ?_
     refine wpAnyU_take (i := 0) (oi := { dst := some 134, op := Op.move (Operand.tmp 0), type := 66, pos := "law.go:116", after := #[], guard := none }) (v := (.pointer (some ⟨px, 0, none⟩))) rfl (by kernel_rfl) (by kernel_rfl) (by kernel_rfl) (by kernel_rfl) (by kernel_rfl) (fun _ _ _ h => h) (HC0.out.cls HS8.out) ?_ ?_
     ·
      refine Or.inl ⟨rfl, fun w hSw => ?_⟩
      exact EffR.same (by go_simp)
     try simp only [Act.put, zA, zB, zC]
     refine wpAnyU_take (i := 1) (oi := { dst := some 135, op := Op.nilCheck (Operand.tmp 134), type := 0, pos := "law.go:116", after := #[{ on := 0, ground := Ground.data }], guard := none }) (v := (.pointer (some ⟨px, 0, none⟩))) rfl (by kernel_rfl) (by kernel_rfl) (by kernel_rfl) (by kernel_rfl) (by kernel_rfl) (fun _ _ _ h => h) (HC0.out.cls HS8.out) ?_ ?_
     ·
      refine Or.inl ⟨rfl, fun w hSw => ?_⟩
      exact EffR.same (by go_simp)
     try simp only [Act.put, zA, zB, zC]
     refine wpAnyU_take (i := 2) (oi := { dst := some 136, op := Op.fieldAddr 71 (Operand.tmp 135) 1, type := 0, pos := "law.go:116", after := #[{ on := 1, ground := Ground.data }], guard := none }) (v := (.pointer (some ⟨px, 1, none⟩))) rfl (by kernel_rfl) (by kernel_rfl) (by kernel_rfl) (by kernel_rfl) (by kernel_rfl) (fun _ _ _ h => h) (HC0.out.cls HS8.out) ?_ ?_
     ·
      refine Or.inl ⟨rfl, fun w hSw => ?_⟩
      exact EffR.same (by go_simp)
     try simp only [Act.put, zA, zB, zC]
     refine wpAnyU_take (i := 3) (oi := { dst := some 137, op := Op.load 26 (Operand.tmp 136), type := 26, pos := "law.go:116", after := #[{ on := 2, ground := Ground.data }], guard := none }) (v := (.pointer (some ⟨g, 0, none⟩))) rfl (by kernel_rfl) (by kernel_rfl) (by kernel_rfl) (by kernel_rfl) (by kernel_rfl) (fun _ _ _ h => h) (HC0.out.cls HS8.out) ?_ ?_
     ·
      refine Or.inl ⟨rfl, fun w hSw => ?_⟩
      have e0 := hSw.1
      exact EffR.same (by go_simp)
     try simp only [Act.put, zA, zB, zC]
     refine wpAnyU_take (i := 4) (oi := { dst := some 138, op := Op.move (Operand.tmp 7), type := 3, pos := "law.go:116", after := #[], guard := none }) (v := (.int .i64 (kx : Int))) rfl (by kernel_rfl) (by kernel_rfl) (by kernel_rfl) (by kernel_rfl) (by kernel_rfl) (fun _ _ _ h => h) (HC0.out.cls HS8.out) ?_ ?_
     ·
      refine Or.inl ⟨rfl, fun w hSw => ?_⟩
      exact EffR.same (by go_simp)
     try simp only [Act.put, zA, zB, zC]
     refine wpAnyU_take (i := 5) (oi := { dst := some 139, op := Op.load 36 (Operand.tmp 8), type := 36, pos := "law.go:116", after := #[], guard := none }) (v := (.agg (bvs xb).toArray)) rfl (by kernel_rfl) (by kernel_rfl) (by kernel_rfl) (by kernel_rfl) (by kernel_rfl) (fun _ _ _ h => h) (HC0.out.cls HS8.out) ?_ ?_
     ·
      refine Or.inl ⟨rfl, fun w hSw => ?_⟩
      exact eff_load_midP 36 (.tmp 8) rfl bb 0 rfl (bvs xb) _ hSw.2.2 Try.underlying36 rfl HSZ.out
     try simp only [Act.put, zA, zB, zC]
     refine wpAnyU_take (i := 7) (oi := { dst := some 141, op := Op.move (Operand.tmp 0), type := 66, pos := "law.go:116", after := #[], guard := none }) (v := (.pointer (some ⟨px, 0, none⟩))) rfl (by kernel_rfl) (by kernel_rfl) (by kernel_rfl) (by kernel_rfl) (by kernel_rfl) (fun _ _ _ h => h) (HC0.out.cls HS8.out) ?_ ?_
     ·
      refine Or.inl ⟨rfl, fun w hSw => ?_⟩
      exact EffR.same (by go_simp)
     try simp only [Act.put, zA, zB, zC]
     refine wpAnyU_take (i := 8) (oi := { dst := some 142, op := Op.nilCheck (Operand.tmp 141), type := 0, pos := "law.go:116", after := #[{ on := 7, ground := Ground.data }], guard := none }) (v := (.pointer (some ⟨px, 0, none⟩))) rfl (by kernel_rfl) (by kernel_rfl) (by kernel_rfl) (by kernel_rfl) (by kernel_rfl) (fun _ _ _ h => h) (HC0.out.cls HS8.out) ?_ ?_
     ·
      refine Or.inl ⟨rfl, fun w hSw => ?_⟩
      exact EffR.same (by go_simp)
     try simp only [Act.put, zA, zB, zC]
     refine wpAnyU_take (i := 9) (oi := { dst := some 143, op := Op.fieldAddr 71 (Operand.tmp 142) 3, type := 0, pos := "law.go:116", after := #[{ on := 8, ground := Ground.data }], guard := none }) (v := (.pointer (some ⟨px, 3, none⟩))) rfl (by kernel_rfl) (by kernel_rfl) (by kernel_rfl) (by kernel_rfl) (by kernel_rfl) (fun _ _ _ h => h) (HC0.out.cls HS8.out) ?_ ?_
     ·
      refine Or.inl ⟨rfl, fun w hSw => ?_⟩
      exact EffR.same (by go_simp)
     try simp only [Act.put, zA, zB, zC]
     refine wpAnyU_take (i := 10) (oi := { dst := some 144, op := Op.load 67 (Operand.tmp 143), type := 67, pos := "law.go:116", after := #[{ on := 9, ground := Ground.data }], guard := none }) (v := (.pointer (some ⟨q, 0, none⟩))) rfl (by kernel_rfl) (by kernel_rfl) (by kernel_rfl) (by kernel_rfl) (by kernel_rfl) (fun _ _ _ h => h) (HC0.out.cls HS8.out) ?_ ?_
     ·
      refine Or.inl ⟨rfl, fun w hSw => ?_⟩
      have e0 := hSw.2.1
      exact EffR.same (by go_simp)
     try simp only [Act.put, zA, zB, zC]
     refine wpAnyU_take (i := 11) (oi := { dst := some 145, op := Op.move (Operand.tmp 7), type := 3, pos := "law.go:116", after := #[], guard := none }) (v := (.int .i64 (kx : Int))) rfl (by kernel_rfl) (by kernel_rfl) (by kernel_rfl) (by kernel_rfl) (by kernel_rfl) (fun _ _ _ h => h) (HC0.out.cls HS8.out) ?_ ?_
     ·
      refine Or.inl ⟨rfl, fun w hSw => ?_⟩
      exact EffR.same (by go_simp)
     try simp only [Act.put, zA, zB, zC]
     refine wpAnyU_take (i := 12) (oi := { dst := some 146, op := Op.load 36 (Operand.tmp 8), type := 36, pos := "law.go:116", after := #[], guard := none }) (v := (.agg (bvs xb).toArray)) rfl (by kernel_rfl) (by kernel_rfl) (by kernel_rfl) (by kernel_rfl) (by kernel_rfl) (fun _ _ _ h => h) (HC0.out.cls HS8.out) ?_ ?_
     ·
      refine Or.inl ⟨rfl, fun w hSw => ?_⟩
      exact eff_load_midP 36 (.tmp 8) rfl bb 0 rfl (bvs xb) _ hSw.2.2 Try.underlying36 rfl HSZ.out
     try simp only [Act.put, zA, zB, zC]
     refine wpAnyU_ready (rs := [6]) (by kernel_rfl) (by simp) ?_
     refine AllReadyU.cons (o := { dst := some 140, op := Op.call { callee := Callee.value (Operand.func 54), args := #[Operand.tmp 137, Operand.tmp 138, Operand.tmp 139], argTypes := #[26, 3, 36] }, type := 27, pos := "law.go:116", after := #[{ on := 3, ground := Ground.data }, { on := 4, ground := Ground.data }, { on := 5, ground := Ground.data }], guard := none }) rfl (fun wA6 hA6 K hK => ?_) AllReadyU.nil
     have hs := Write_5 wA6 g gl q rl n D D T T (HL0.out.below hA6) kx HKX.out xb HX64.out HOPL.out
     rw [← HE1.out, ← HD1.out] at hs
     go_simp
     refine hs.mono ?_
     clear hs
     rintro e0 w1 ⟨rfl, F1, hl1, hc1⟩
     have HL1 := Lib.hid hl1
     have HC1 : Hid (KC F W F1 w1) := (HC0.out.below hA6).next hc1
     refine hK.out _ _ (BL w1) (HC1.out.cls HS8.out) (Below.refl _ _) ?_
     clear hl1 hc1
     clear hK K
     try simp only [Act.put, zA, zB, zC]
     refine wpAnyU_ready (rs := [13]) (by kernel_rfl) (by simp) ?_
     refine AllReadyU.cons (o := { dst := some 147, op := Op.call { callee := Callee.value (Operand.func 55), args := #[Operand.tmp 144, Operand.tmp 145, Operand.tmp 146], argTypes := #[67, 3, 36] }, type := 27, pos := "law.go:116", after := #[{ on := 10, ground := Ground.data }, { on := 11, ground := Ground.data }, { on := 12, ground := Ground.data }, { on := 6, ground := Ground.chain }], guard := none }) rfl (fun wA13 hA13 K hK => ?_) AllReadyU.nil
     have hs := PWrite_5 wA13 g gl q rl n D1 D T T (HL1.out.below hA13) kx HKX.out xb HX64.out HOPL.out
     rw [← HE1.out, ← HD1.out] at hs
     go_simp
     refine hs.mono ?_
     clear hs
     rintro e0 w2 ⟨rfl, F2, hl2, hc2⟩
     have HL2 := Lib.hid hl2
     have HC2 : Hid (KC F W F2 w2) := (HC1.out.below hA13).next hc2
     refine hK.out _ _ (BL w2) (HC2.out.cls HS8.out) (Below.refl _ _) ?_
     clear hl2 hc2
     clear hK K
     try simp only [Act.put, zA, zB, zC]
     refine wpAnyU_take (i := 14) (oi := { dst := some 148, op := Op.binOp BinOp.eql 27 (Operand.tmp 140) (Operand.tmp 147) 27, type := 4, pos := "law.go:116", after := #[{ on := 6, ground := Ground.data }, { on := 13, ground := Ground.data }], guard := none }) (v := (.bool true)) rfl (by kernel_rfl) (by kernel_rfl) (by kernel_rfl) (by kernel_rfl) (by kernel_rfl) (fun _ _ _ h => h) (HC2.out.cls HS8.out) ?_ ?_
     ·
      refine Or.inl ⟨rfl, fun w hSw => ?_⟩
      exact EffR.same (by go_simp)
     try simp only [Act.put, zA, zB, zC]
     refine wpAnyU_take (i := 15) (oi := { dst := some 149, op := Op.move (Operand.tmp 148), type := 4, pos := "law.go:116", after := #[{ on := 14, ground := Ground.data }, { on := 13, ground := Ground.chain }], guard := none }) (v := (.bool true)) rfl (by kernel_rfl) (by kernel_rfl) (by kernel_rfl) (by kernel_rfl) (by kernel_rfl) (fun _ _ _ h => h) (HC2.out.cls HS8.out) ?_ ?_
     ·
      refine Or.inl ⟨rfl, fun w hSw => ?_⟩
      exact EffR.same (by go_simp)
     try simp only [Act.put, zA, zB, zC]
     refine wpAnyU_take (i := 16) (oi := { dst := some 150, op := Op.move (Operand.tmp 0), type := 66, pos := "law.go:116", after := #[{ on := 15, ground := Ground.guard }], guard := some (15, true) }) (v := (.pointer (some ⟨px, 0, none⟩))) rfl (by kernel_rfl) (by kernel_rfl) (by kernel_rfl) (by kernel_rfl) (by kernel_rfl) (fun _ _ _ h => h) (HC2.out.cls HS8.out) ?_ ?_
     ·
      refine Or.inl ⟨rfl, fun w hSw => ?_⟩
      exact EffR.same (by go_simp)
     try simp only [Act.put, zA, zB, zC]
     refine wpAnyU_take (i := 17) (oi := { dst := some 151, op := Op.nilCheck (Operand.tmp 150), type := 0, pos := "law.go:116", after := #[{ on := 16, ground := Ground.data }, { on := 15, ground := Ground.guard }], guard := some (15, true) }) (v := (.pointer (some ⟨px, 0, none⟩))) rfl (by kernel_rfl) (by kernel_rfl) (by kernel_rfl) (by kernel_rfl) (by kernel_rfl) (fun _ _ _ h => h) (HC2.out.cls HS8.out) ?_ ?_
     ·
      refine Or.inl ⟨rfl, fun w hSw => ?_⟩
      exact EffR.same (by go_simp)
     try simp only [Act.put, zA, zB, zC]
     refine wpAnyU_take (i := 18) (oi := { dst := some 152, op := Op.fieldAddr 71 (Operand.tmp 151) 1, type := 0, pos := "law.go:116", after := #[{ on := 17, ground := Ground.data }, { on := 15, ground := Ground.guard }], guard := some (15, true) }) (v := (.pointer (some ⟨px, 1, none⟩))) rfl (by kernel_rfl) (by kernel_rfl) (by kernel_rfl) (by kernel_rfl) (by kernel_rfl) (fun _ _ _ h => h) (HC2.out.cls HS8.out) ?_ ?_
     ·
      refine Or.inl ⟨rfl, fun w hSw => ?_⟩
      exact EffR.same (by go_simp)
     try simp only [Act.put, zA, zB, zC]
     refine wpAnyU_take (i := 19) (oi := { dst := some 153, op := Op.load 26 (Operand.tmp 152), type := 26, pos := "law.go:116", after := #[{ on := 18, ground := Ground.data }, { on := 15, ground := Ground.guard }], guard := some (15, true) }) (v := (.pointer (some ⟨g, 0, none⟩))) rfl (by kernel_rfl) (by kernel_rfl) (by kernel_rfl) (by kernel_rfl) (by kernel_rfl) (fun _ _ _ h => h) (HC2.out.cls HS8.out) ?_ ?_
     ·
      refine Or.inl ⟨rfl, fun w hSw => ?_⟩
      have e0 := hSw.1
      exact EffR.same (by go_simp)
     try simp only [Act.put, zA, zB, zC]
     refine wpAnyU_take (i := 21) (oi := { dst := some 155, op := Op.move (Operand.tmp 0), type := 66, pos := "law.go:116", after := #[{ on := 15, ground := Ground.guard }], guard := some (15, true) }) (v := (.pointer (some ⟨px, 0, none⟩))) rfl (by kernel_rfl) (by kernel_rfl) (by kernel_rfl) (by kernel_rfl) (by kernel_rfl) (fun _ _ _ h => h) (HC2.out.cls HS8.out) ?_ ?_
     ·
      refine Or.inl ⟨rfl, fun w hSw => ?_⟩
      exact EffR.same (by go_simp)
     try simp only [Act.put, zA, zB, zC]
     refine wpAnyU_take (i := 22) (oi := { dst := some 156, op := Op.nilCheck (Operand.tmp 155), type := 0, pos := "law.go:116", after := #[{ on := 21, ground := Ground.data }, { on := 15, ground := Ground.guard }], guard := some (15, true) }) (v := (.pointer (some ⟨px, 0, none⟩))) rfl (by kernel_rfl) (by kernel_rfl) (by kernel_rfl) (by kernel_rfl) (by kernel_rfl) (fun _ _ _ h => h) (HC2.out.cls HS8.out) ?_ ?_
     ·
      refine Or.inl ⟨rfl, fun w hSw => ?_⟩
      exact EffR.same (by go_simp)
     try simp only [Act.put, zA, zB, zC]
     refine wpAnyU_take (i := 23) (oi := { dst := some 157, op := Op.fieldAddr 71 (Operand.tmp 156) 3, type := 0, pos := "law.go:116", after := #[{ on := 22, ground := Ground.data }, { on := 15, ground := Ground.guard }], guard := some (15, true) }) (v := (.pointer (some ⟨px, 3, none⟩))) rfl (by kernel_rfl) (by kernel_rfl) (by kernel_rfl) (by kernel_rfl) (by kernel_rfl) (fun _ _ _ h => h) (HC2.out.cls HS8.out) ?_ ?_
     ·
      refine Or.inl ⟨rfl, fun w hSw => ?_⟩
      exact EffR.same (by go_simp)
     try simp only [Act.put, zA, zB, zC]
     refine wpAnyU_take (i := 24) (oi := { dst := some 158, op := Op.load 67 (Operand.tmp 157), type := 67, pos := "law.go:116", after := #[{ on := 23, ground := Ground.data }, { on := 15, ground := Ground.guard }], guard := some (15, true) }) (v := (.pointer (some ⟨q, 0, none⟩))) rfl (by kernel_rfl) (by kernel_rfl) (by kernel_rfl) (by kernel_rfl) (by kernel_rfl) (fun _ _ _ h => h) (HC2.out.cls HS8.out) ?_ ?_
     ·
      refine Or.inl ⟨rfl, fun w hSw => ?_⟩
      have e0 := hSw.2.1
      exact EffR.same (by go_simp)
     try simp only [Act.put, zA, zB, zC]
     refine wpAnyU_ready (rs := [20]) (by kernel_rfl) (by simp) ?_
     refine AllReadyU.cons (o := { dst := some 154, op := Op.call { callee := Callee.value (Operand.func 44), args := #[Operand.tmp 153], argTypes := #[26] }, type := 27, pos := "law.go:116", after := #[{ on := 19, ground := Ground.data }, { on := 15, ground := Ground.chain }, { on := 15, ground := Ground.guard }], guard := some (15, true) }) rfl (fun wA20 hA20 K hK => ?_) AllReadyU.nil
     have hs := Sync_5 wA20 g gl q rl n D1 D1 T T (HL2.out.below hA20)
     rw [← HE2.out, ← HD2.out] at hs
     go_simp
     refine hs.mono ?_
     clear hs
     rintro e0 w3 ⟨rfl, F3, hl3, hc3⟩
     have HL3 := Lib.hid hl3
     have HC3 : Hid (KC F W F3 w3) := (HC2.out.below hA20).next hc3
     refine hK.out _ _ (BL w3) (HC3.out.cls HS8.out) (Below.refl _ _) ?_
     clear hl3 hc3
     clear hK K
     try simp only [Act.put, zA, zB, zC]
     refine wpAnyU_ready (rs := [25]) (by kernel_rfl) (by simp) ?_
     refine AllReadyU.cons (o := { dst := some 159, op := Op.call { callee := Callee.value (Operand.func 50), args := #[Operand.tmp 158], argTypes := #[67] }, type := 27, pos := "law.go:116", after := #[{ on := 24, ground := Ground.data }, { on := 20, ground := Ground.chain }, { on := 15, ground := Ground.guard }], guard := some (15, true) }) rfl (fun wA25 hA25 K hK => ?_) AllReadyU.nil
     have hs := PSync_5 wA25 g gl q rl n D2 D1 T T (HL3.out.below hA25)
     rw [← HE2.out, ← HD2.out] at hs
     go_simp
     refine hs.mono ?_
     clear hs
     rintro e0 w4 ⟨rfl, F4, hl4, hc4⟩
     have HL4 := Lib.hid hl4
     have HC4 : Hid (KC F W F4 w4) := (HC3.out.below hA25).next hc4
     refine hK.out _ _ (BL w4) (HC4.out.cls HS8.out) (Below.refl _ _) ?_
     clear hl4 hc4
     clear hK K
     try simp only [Act.put, zA, zB, zC]
     refine wpAnyU_take (i := 26) (oi := { dst := some 160, op := Op.binOp BinOp.eql 27 (Operand.tmp 154) (Operand.tmp 159) 27, type := 4, pos := "law.go:116", after := #[{ on := 20, ground := Ground.data }, { on := 25, ground := Ground.data }, { on := 15, ground := Ground.guard }], guard := some (15, true) }) (v := (.bool true)) rfl (by kernel_rfl) (by kernel_rfl) (by kernel_rfl) (by kernel_rfl) (by kernel_rfl) (fun _ _ _ h => h) (HC4.out.cls HS8.out) ?_ ?_
     ·
      refine Or.inl ⟨rfl, fun w hSw => ?_⟩
      exact EffR.same (by go_simp)
     try simp only [Act.put, zA, zB, zC]
     refine wpAnyU_take (i := 27) (oi := { dst := some 161, op := Op.pick (Operand.tmp 149) (Operand.tmp 160) (Operand.const (Value.bool false)), type := 4, pos := "law.go:116", after := #[{ on := 15, ground := Ground.data }, { on := 26, ground := Ground.data }], guard := none }) (v := (.bool true)) rfl (by kernel_rfl) (by kernel_rfl) (by kernel_rfl) (by kernel_rfl) (by kernel_rfl) (fun _ _ _ h => h) (HC4.out.cls HS8.out) ?_ ?_
     ·
      refine Or.inl ⟨rfl, fun w hSw => ?_⟩
      exact EffR.same (by go_simp)
     try simp only [Act.put, zA, zB, zC]
     refine wpAnyU_take (i := 28) (oi := { dst := some 162, op := Op.move (Operand.tmp 161), type := 4, pos := "law.go:116", after := #[{ on := 27, ground := Ground.data }, { on := 25, ground := Ground.chain }], guard := none }) (v := (.bool true)) rfl (by kernel_rfl) (by kernel_rfl) (by kernel_rfl) (by kernel_rfl) (by kernel_rfl) (fun _ _ _ h => h) (HC4.out.cls HS8.out) ?_ ?_
     ·
      refine Or.inl ⟨rfl, fun w hSw => ?_⟩
      exact EffR.same (by go_simp)
     try simp only [Act.put, zA, zB, zC]
     refine wpAnyU_take (i := 29) (oi := { dst := some 163, op := Op.move (Operand.tmp 0), type := 66, pos := "law.go:116", after := #[{ on := 28, ground := Ground.guard }], guard := some (28, true) }) (v := (.pointer (some ⟨px, 0, none⟩))) rfl (by kernel_rfl) (by kernel_rfl) (by kernel_rfl) (by kernel_rfl) (by kernel_rfl) (fun _ _ _ h => h) (HC4.out.cls HS8.out) ?_ ?_
     ·
      refine Or.inl ⟨rfl, fun w hSw => ?_⟩
      exact EffR.same (by go_simp)
     try simp only [Act.put, zA, zB, zC]
     refine wpAnyU_ready (rs := [30]) (by kernel_rfl) (by simp) ?_
     refine AllReadyU.cons (o := { dst := some 164, op := Op.call { callee := Callee.value (Operand.func 33), args := #[Operand.tmp 163], argTypes := #[66] }, type := 4, pos := "law.go:116", after := #[{ on := 29, ground := Ground.data }, { on := 28, ground := Ground.chain }, { on := 28, ground := Ground.guard }], guard := some (28, true) }) rfl (fun wA30 hA30 K hK => ?_) AllReadyU.nil
     obtain ⟨F5, he5, hs5⟩ := (HL4.out.below hA30).disks
     have hxp := (HC4.out.below hA30).here HSX0.out
     have hop := open_any F5 wA30 px g q n D2 _ _ hxp he5 (fun e => (HC4.out.2 px (hs5 px e)).elim HPX.out (fun e2 => by have := HPXW.out; have := HBW.out.size; omega)) HDI.out.1 hI.out.n4
     have HS5 := Lib.hid hs5
     have HC30 := Lib.hid (HC4.out.below hA30)
     have hr0 := (HC30.out.here HS8.out).2.2
     clear he5 hs5 hxp
     go_simp
     refine hop.mono ?_
     clear hop
     rintro e0 w9 ⟨rfl, hop9⟩
     have HS9 : Hid (SQ px g q bb xb w9) := by
      obtain ⟨F9, vl9, vr9, hx9, hk9, _⟩ := hop9
      refine ⟨hx9.cell (j := 1) rfl, hx9.cell (j := 3) rfl, fun j v hv => ?_⟩
      exact hk9.cell (hr0 j v hv) (fun e => HNBB.out.2 e.symm)
     have HO9 := Lib.hid hop9
     refine hK.out _ _ (BL w9) (⟨fun x h => ⟨BL.cell h HS9.out.1, BL.cell h HS9.out.2.1, fun j v hv => BL.cell h (HS9.out.2.2 j v hv)⟩, fun _ _ h hb => Below.next h hb⟩ : Cls (SQ px g q bb xb) (BL w9)) (Below.refl _ _) ?_
     clear hop9 hr0
     clear hK K
     try simp only [Act.put, zA, zB, zC]
     refine wpAnyU_take (i := 31) (oi := { dst := some 165, op := Op.pick (Operand.tmp 162) (Operand.tmp 164) (Operand.const (Value.bool false)), type := 4, pos := "law.go:116", after := #[{ on := 28, ground := Ground.data }, { on := 30, ground := Ground.data }], guard := none }) (v := (.bool true)) rfl (by kernel_rfl) (by kernel_rfl) (by kernel_rfl) (by kernel_rfl) (by kernel_rfl) (fun _ _ _ h => h) (⟨fun x h => ⟨BL.cell h HS9.out.1, BL.cell h HS9.out.2.1, fun j v hv => BL.cell h (HS9.out.2.2 j v hv)⟩, fun _ _ h hb => Below.next h hb⟩ : Cls (SQ px g q bb xb) (BL w9)) ?_ ?_
     ·
      refine Or.inl ⟨rfl, fun w hSw => ?_⟩
      exact EffR.same (by go_simp)
     try simp only [Act.put, zA, zB, zC]
     refine wpAnyU_take (i := 32) (oi := { dst := some 4, op := Op.assign (Operand.tmp 165), type := 4, pos := "law.go:116", after := #[{ on := 31, ground := Ground.data }, { on := 30, ground := Ground.chain }, { on := 0, ground := Ground.phase }, { on := 1, ground := Ground.phase }, { on := 2, ground := Ground.phase }, { on := 3, ground := Ground.phase }, { on := 4, ground := Ground.phase }, { on := 5, ground := Ground.phase }, { on := 6, ground := Ground.phase }, { on := 7, ground := Ground.phase }, { on := 8, ground := Ground.phase }, { on := 9, ground := Ground.phase }, { on := 10, ground := Ground.phase }, { on := 11, ground := Ground.phase }, { on := 12, ground := Ground.phase }, { on := 13, ground := Ground.phase }, { on := 14, ground := Ground.phase }, { on := 15, ground := Ground.phase }, { on := 16, ground := Ground.phase }, { on := 17, ground := Ground.phase }, { on := 18, ground := Ground.phase }, { on := 19, ground := Ground.phase }, { on := 20, ground := Ground.phase }, { on := 21, ground := Ground.phase }, { on := 22, ground := Ground.phase }, { on := 23, ground := Ground.phase }, { on := 24, ground := Ground.phase }, { on := 25, ground := Ground.phase }, { on := 26, ground := Ground.phase }, { on := 27, ground := Ground.phase }, { on := 28, ground := Ground.phase }, { on := 29, ground := Ground.phase }, { on := 30, ground := Ground.phase }, { on := 31, ground := Ground.phase }], guard := none }) (v := (.bool true)) rfl (by kernel_rfl) (by kernel_rfl) (by kernel_rfl) (by kernel_rfl) (by kernel_rfl) (fun _ _ _ h => h) (⟨fun x h => ⟨BL.cell h HS9.out.1, BL.cell h HS9.out.2.1, fun j v hv => BL.cell h (HS9.out.2.2 j v hv)⟩, fun _ _ h hb => Below.next h hb⟩ : Cls (SQ px g q bb xb) (BL w9)) ?_ ?_
     ·
      refine Or.inl ⟨rfl, fun w hSw => ?_⟩
      exact EffR.same (by go_simp)
     try simp only [Act.put, zA, zB, zC]
     refine wpAnyU_done (by kernel_rfl) (fun w1 hb1 => ?_) _
     have HOE := Lib.hid (HO9.out.below hb1)
     clear hb1
     go_wp2_with fail
     go_ret
     exact StepPost.opened hI.out ((KC.refl F w).below HBW.out |>.next HC30.out) HS5.out HDI.out HOE.out
 ·
  clear hnb
  have n4 : ((r : Int) == 4) = false := by rw [beq_eq_false_iff_ne]; omega
  have n5 : ((r : Int) == 5) = false := by rw [beq_eq_false_iff_ne]; omega
  have n6 : ((r : Int) == 6) = false := by rw [beq_eq_false_iff_ne]; omega
  have n7 : ((r : Int) == 7) = false := by rw [beq_eq_false_iff_ne]; omega
  have n8 : ((r : Int) == 8) = false := by rw [beq_eq_false_iff_ne]; omega
  have n9 : ((r : Int) == 9) = false := by rw [beq_eq_false_iff_ne]; omega
  obtain ⟨N, hN⟩ : ∃ z, z = rows.length := ⟨_, rfl⟩
  have HNN := Lib.hid hN
  have hm3 : m3 = N := by rw [hN]; exact HM3.out
  subst hm3
  have hn20 : m3 ≤ 1000 := by rw [hN]; exact HNL.out
  have hLN : L.length = m3 := by rw [hN]; exact HV30.out.here.2.1
  have HLN := Lib.hid hLN
  have HRS : Hid (∀ y, Below w.heap.size w y → Rs encS 1 y (.slice a3 m3 c3) L ∧ RowsOf y L rows) := fun y hb => HV30.out y ((Kept.of_below hb).weaken (fun _ e => e.elim))
  clear hN hLN hgb hwB
  go_enter Try.func34, Try.ntmps34
  go_wp2_with fail
  rw [← HGB0.out, ← HWB0.out]
  simp only [hr]
  clear hr hu
  go_loopw [10, 11] (fun v3 i wr => ∃ (k : Nat) (vs : List SV) (a : Option Addr) (q c : Nat), k ≤ m3 ∧ i = .int .i64 k ∧ v3 = .slice a q c ∧ OwnR encS 1 22 wr wB.heap.size (.slice a q c) vs ∧ vs.length = k ∧ Hid (∀ i (h1 : i < vs.length) (h2 : i < (rows.take k).length), OwnB 5 wr wB.heap.size vs[i].v (rows.take k)[i]) ∧ Below wB.heap.size wB wr) (fun _ i _ => m3 - (intOf i).toNat)
  case atStart => exact ⟨0, [], none, 0, 0, Nat.zero_le _, rfl, rfl, OwnR.empty encS_len _ _ _, rfl, fun i h1 => absurd h1 (Nat.not_lt_zero _), Below.refl _ _⟩
  case round =>
   obtain ⟨k, vs, a3r, q3r, c3r, hk, rfl, rfl, ho, hvs, HAL, hbel⟩ := hrel
   have HO := Lib.hid ho
   have HB := Lib.hid hbel
   have HVS := Lib.hid hvs
   have hcb3 := (HSBB.out.below hbel).cell (j := 3) rfl
   clear ho hbel hvs
   by_cases hlt : k < m3
   ·
    have hkl : k < rows.length := by have := HNN.out; omega
    have hkv : k < L.length := by have := HLN.out; omega
    have hr3 := HRS.out wr (HWB.out.next HB.out)
    obtain ⟨b, off, rfl, _, hca⟩ := Sl.at hr3.1.2 (by rw [flat_encS, List.length_map]; omega)
    obtain ⟨⟨s1, s2, s3⟩, hs⟩ : ∃ z, z = L[k] := ⟨_, rfl⟩
    have hcell : wr.cell? ⟨b, off + k, none⟩ = some (.slice s1 s2 s3) := by
     have h9 := hca k (by rw [flat_encS, List.length_map]; exact hkv)
     rw [h9]
     simp only [flat_encS, List.getElem_map, ← hs]
     rfl
    have hob2 : Bs wr (.slice s1 s2 s3) rows[k] := by
     have := hr3.2.2 k hkv hkl
     rw [← hs] at this
     exact this
    have hk0 : (0 : Int) ≤ k ∧ (k : Int) < m3 := by omega
    have hcl := Twin_any wr _ _ hob2 (by have := HLR.out _ (List.getElem_mem hkl); omega)
    clear hca hs hob2 hr3
    go_wp2_with fail
    refine hcl.mono ?_
    clear hcl
    rintro e w2 ⟨v2, rfl, hv2, hb2⟩
    obtain ⟨p1, p2, p3, rfl, _, hv3⟩ := hv2.named
    have hsz := HB.out.size
    have hone : Rs encS 1 (w2.alloc (.cells #[.slice p1 p2 p3] 22)) (.slice (some ⟨w2.heap.size, 0, none⟩) 1 1) [((p1, p2, p3) : SV)] := Rs.one encS_len w2 ((p1, p2, p3) : SV) 22
    have hba : Below wr.heap.size wr (w2.alloc (.cells #[.slice p1 p2 p3] 22)) := hb2.alloc hb2.size _
    have HO2 := Lib.hid (HO.out.below hba)
    have HV2 := Lib.hid (OwnB.base (OwnB.alloc hv3 (.cells #[.slice p1 p2 p3] 22)) hsz)
    have HAL2 : Hid (∀ i (h1 : i < vs.length) (h2 : i < (rows.take k).length), OwnB 5 (w2.alloc (.cells #[.slice p1 p2 p3] 22)) wB.heap.size vs[i].v (rows.take k)[i]) := fun i h1 h2 => OwnB.below (HAL.out i h1 h2) hba
    have HBA := Lib.hid hba
    have HONE := Lib.hid hone
    have hle : (vs.length + [((p1, p2, p3) : SV)].length) * 24 ≤ 140737488355328 := by have := HVS.out; simp; omega
    have hzb : wB.heap.size ≤ (w2.alloc (.cells #[.slice p1 p2 p3] 22)).heap.size := Nat.le_trans hsz hba.size
    clear hone hba hv2 hv3 hb2
    go_wp2_with (first
     | (at_builtin; refine wpList_append_rows (v := .slice a3r q3r c3r) rfl (.tmp 173) (.tmp 180) 23 rfl (L := vs) (M := [((p1, p2, p3) : SV)]) (base := wB.heap.size) elem_s rfl rfl HO2.out HONE.out encS_one hle (by decide) hzb ?_; intro a9 n9 c9 w9 Hn9 ho9 hg9 hat9 hb9)
     | fail)
    have hty : ∀ k, (Value.slice a3r q3r c3r).ownBlock = some k → ∃ cur fr, (w2.alloc (.cells #[.slice p1 p2 p3] 22)).heap[k]? = some (.cells cur 22 fr) := fun k hk => ownsRow_type HO2.out.2 hk
    have hl1 : (rows.take k).length = k := by rw [List.length_take]; omega
    refine ⟨⟨k + 1, vs ++ [((p1, p2, p3) : SV)], a9, n9, c9, by omega, by push_cast; rfl, rfl, ho9, by rw [List.length_append, HVS.out]; rfl, ?_, HB.out.trans ((HBA.out.mono hsz).trans hb9)⟩, by simp [intOf]; omega⟩
    rw [take_snoc rows k hkl]
    exact recs_snoc (by rw [HVS.out, hl1]) (fun i h1 h2 => OwnB.grownApart (HAL2.out i h1 h2) hg9 hty (by decide)) (OwnB.grownApart HV2.out hg9 hty (by decide))
   ·
    obtain rfl : k = m3 := by omega
    obtain ⟨N, hNk⟩ : ∃ z, z = k := ⟨_, rfl⟩
    subst hNk
    obtain ⟨W, hW⟩ : ∃ z, z = wr := ⟨_, rfl⟩
    have HBW : Hid (Below w.heap.size w W) := by rw [hW]; exact HWB.out.next HB.out
    have HBB : Hid (Below wB.heap.size wB W) := by rw [hW]; exact HB.out
    have hl1 : rows.take N = rows := List.take_of_length_le (by have := HNN.out; omega)
    have hrm : recsM W (fun k => w.heap.size ≤ k ∧ k < W.heap.size) (.slice a3r q3r c3r) rows := by
     have hwb := HWB.out.size
     rw [hW]
     refine ⟨vs, by rw [HVS.out, HNN.out], HO.out.base (Nat.zero_le _), fun q hq => ⟨by have := OwnR.ge HO.out q hq; omega, OwnR.lt HO.out q hq⟩, fun i h1 h2 => ?_⟩
     have h9 := HAL.out i h1 (by rw [hl1]; exact h2)
     have e9 : (rows.take N)[i]'(by rw [hl1]; exact h2) = rows[i] := by simp
     rw [e9] at h9
     exact ⟨h9.base (Nat.zero_le _), fun q hq => ⟨by have := OwnB.ge h9 q hq; omega, OwnB.lt h9 q hq⟩⟩
    obtain ⟨vs2, hru, hvs2, hvb1, hvb2⟩ := hrm.rowsU
    have HSR : Hid (Stay F W (fun y => Bss y (.slice a3r q3r c3r) rows)) := Stay.recs hrm (fun k e1 e2 => by have := HLT.out k e2; omega)
    clear HO HAL HVS hl1 hrm hcb3
    obtain ⟨vs, hvs⟩ : ∃ z, z = vs2 := ⟨_, rfl⟩
    rw [← hvs] at hru hvs2 hvb2
    clear hvs
    have HVS : Hid (vs.length = N) := by show _ = _; rw [hvs2, HNN.out]
    have HRB : Hid ((∀ k, (Value.slice a3r q3r c3r).ownBlock = some k → w.heap.size ≤ k ∧ k < W.heap.size) ∧ ∀ s ∈ vs, ∀ k, s.v.ownBlock = some k → w.heap.size ≤ k ∧ k < W.heap.size) := ⟨hvb1, hvb2⟩
    obtain rfl : N = q3r := by rw [hru.len, HVS.out]
    have HRW := Lib.hid hru
    clear hvs2 hvb1 hvb2 hru
    have HC0 : Hid (KC F W F W) := KC.refl F W
    have HL0 : Hid (L5 F W g gl q rl n D T D T) := HL.out.below HBW.out
    have HS : Hid (Stay F W (SP px g gl q rl gb [Value.int .i64 do_, .int .i64 num, .slice a2 m2 c2, .slice a3 N c3, .slice a4 m4 c4])) := HSB.out.below HBB.out
    have HV3 : Hid (Stay F W (fun y => Rs encS 1 y (.slice a3 N c3) L ∧ RowsOf y L rows)) := HV30.out.below HBW.out
    obtain ⟨E, hE⟩ : ∃ z, z = (apR n D T rows).1 := ⟨_, rfl⟩
    obtain ⟨Dn, hDn⟩ : ∃ z, z = (apR n D T rows).2.1 := ⟨_, rfl⟩
    obtain ⟨Tn, hTn⟩ : ∃ z, z = (apR n D T rows).2.2 := ⟨_, rfl⟩
    have HE := Lib.hid hE
    have HDN := Lib.hid hDn
    have HTN := Lib.hid hTn
    have hcb3 := (HSBB.out.below HB.out).cell (j := 3) rfl
    clear hE hDn hTn
    go_upto_region 34 with fail
    rw [← hW]
    clear hW hcb3
    refine wp_region_uni (S0 := (SP px g gl q rl gb [Value.int .i64 do_, .int .i64 num, .slice a2 m2 c2, .slice a3 N c3, .slice a4 m4 c4])) (S := BL W) 15 (by kernel_rfl) (Below.refl _ _).drew ?_
    refine wpAnyU_take (i := 0) (oi := { dst := some 182, op := Op.move (Operand.tmp 0), type := 66, pos := "law.go:122", after := #[], guard := none }) (v := (.pointer (some ⟨px, 0, none⟩))) rfl (by kernel_rfl) (by kernel_rfl) (by kernel_rfl) (by kernel_rfl) (by kernel_rfl) (fun _ _ _ h => h) (HC0.out.cls HS.out) ?_ ?_
    ·
     refine Or.inl ⟨rfl, fun w hSw => ?_⟩
     exact EffR.same (by go_simp)
    try simp only [Act.put, zA, zB, zC]
    refine wpAnyU_take (i := 1) (oi := { dst := some 183, op := Op.nilCheck (Operand.tmp 182), type := 0, pos := "law.go:122", after := #[{ on := 0, ground := Ground.data }], guard := none }) (v := (.pointer (some ⟨px, 0, none⟩))) rfl (by kernel_rfl) (by kernel_rfl) (by kernel_rfl) (by kernel_rfl) (by kernel_rfl) (fun _ _ _ h => h) (HC0.out.cls HS.out) ?_ ?_
    ·
     refine Or.inl ⟨rfl, fun w hSw => ?_⟩
     exact EffR.same (by go_simp)
    try simp only [Act.put, zA, zB, zC]
    refine wpAnyU_take (i := 2) (oi := { dst := some 184, op := Op.fieldAddr 71 (Operand.tmp 183) 0, type := 0, pos := "law.go:122", after := #[{ on := 1, ground := Ground.data }], guard := none }) (v := (.pointer (some ⟨px, 0, none⟩))) rfl (by kernel_rfl) (by kernel_rfl) (by kernel_rfl) (by kernel_rfl) (by kernel_rfl) (fun _ _ _ h => h) (HC0.out.cls HS.out) ?_ ?_
    ·
     refine Or.inl ⟨rfl, fun w hSw => ?_⟩
     exact EffR.same (by go_simp)
    try simp only [Act.put, zA, zB, zC]
    refine wpAnyU_take (i := 3) (oi := { dst := some 185, op := Op.load 30 (Operand.tmp 184), type := 30, pos := "law.go:122", after := #[{ on := 2, ground := Ground.data }], guard := none }) (v := (.pointer (some ⟨gl, 0, none⟩))) rfl (by kernel_rfl) (by kernel_rfl) (by kernel_rfl) (by kernel_rfl) (by kernel_rfl) (fun _ _ _ h => h) (HC0.out.cls HS.out) ?_ ?_
    ·
     refine Or.inl ⟨rfl, fun w hSw => ?_⟩
     have e0 := hSw.1.cell (j := 0) rfl
     exact EffR.same (by go_simp)
    try simp only [Act.put, zA, zB, zC]
    refine wpAnyU_take (i := 4) (oi := { dst := some 186, op := Op.move (Operand.tmp 10), type := 23, pos := "law.go:122", after := #[], guard := none }) (v := (.slice a3r N c3r)) rfl (by kernel_rfl) (by kernel_rfl) (by kernel_rfl) (by kernel_rfl) (by kernel_rfl) (fun _ _ _ h => h) (HC0.out.cls HS.out) ?_ ?_
    ·
     refine Or.inl ⟨rfl, fun w hSw => ?_⟩
     exact EffR.same (by go_simp)
    try simp only [Act.put, zA, zB, zC]
    refine wpAnyU_take (i := 6) (oi := { dst := some 188, op := Op.move (Operand.tmp 0), type := 66, pos := "law.go:122", after := #[], guard := none }) (v := (.pointer (some ⟨px, 0, none⟩))) rfl (by kernel_rfl) (by kernel_rfl) (by kernel_rfl) (by kernel_rfl) (by kernel_rfl) (fun _ _ _ h => h) (HC0.out.cls HS.out) ?_ ?_
    ·
     refine Or.inl ⟨rfl, fun w hSw => ?_⟩
     exact EffR.same (by go_simp)
    try simp only [Act.put, zA, zB, zC]
    refine wpAnyU_take (i := 7) (oi := { dst := some 189, op := Op.nilCheck (Operand.tmp 188), type := 0, pos := "law.go:122", after := #[{ on := 6, ground := Ground.data }], guard := none }) (v := (.pointer (some ⟨px, 0, none⟩))) rfl (by kernel_rfl) (by kernel_rfl) (by kernel_rfl) (by kernel_rfl) (by kernel_rfl) (fun _ _ _ h => h) (HC0.out.cls HS.out) ?_ ?_
    ·
     refine Or.inl ⟨rfl, fun w hSw => ?_⟩
     exact EffR.same (by go_simp)
    try simp only [Act.put, zA, zB, zC]
    refine wpAnyU_take (i := 8) (oi := { dst := some 190, op := Op.fieldAddr 71 (Operand.tmp 189) 2, type := 0, pos := "law.go:122", after := #[{ on := 7, ground := Ground.data }], guard := none }) (v := (.pointer (some ⟨px, 2, none⟩))) rfl (by kernel_rfl) (by kernel_rfl) (by kernel_rfl) (by kernel_rfl) (by kernel_rfl) (fun _ _ _ h => h) (HC0.out.cls HS.out) ?_ ?_
    ·
     refine Or.inl ⟨rfl, fun w hSw => ?_⟩
     exact EffR.same (by go_simp)
    try simp only [Act.put, zA, zB, zC]
    refine wpAnyU_take (i := 9) (oi := { dst := some 191, op := Op.load 69 (Operand.tmp 190), type := 69, pos := "law.go:122", after := #[{ on := 8, ground := Ground.data }], guard := none }) (v := (.pointer (some ⟨rl, 0, none⟩))) rfl (by kernel_rfl) (by kernel_rfl) (by kernel_rfl) (by kernel_rfl) (by kernel_rfl) (fun _ _ _ h => h) (HC0.out.cls HS.out) ?_ ?_
    ·
     refine Or.inl ⟨rfl, fun w hSw => ?_⟩
     have e0 := hSw.1.cell (j := 2) rfl
     exact EffR.same (by go_simp)
    try simp only [Act.put, zA, zB, zC]
    refine wpAnyU_take (i := 10) (oi := { dst := some 192, op := Op.fieldAddr 74 (Operand.tmp 3) 3, type := 0, pos := "law.go:122", after := #[], guard := none }) (v := (.pointer (some ⟨gb, 3, none⟩))) rfl (by kernel_rfl) (by kernel_rfl) (by kernel_rfl) (by kernel_rfl) (by kernel_rfl) (fun _ _ _ h => h) (HC0.out.cls HS.out) ?_ ?_
    ·
     refine Or.inl ⟨rfl, fun w hSw => ?_⟩
     exact EffR.same (by go_simp)
    try simp only [Act.put, zA, zB, zC]
    refine wpAnyU_take (i := 11) (oi := { dst := some 193, op := Op.load 23 (Operand.tmp 192), type := 23, pos := "law.go:122", after := #[{ on := 10, ground := Ground.data }], guard := none }) (v := (.slice a3 N c3)) rfl (by kernel_rfl) (by kernel_rfl) (by kernel_rfl) (by kernel_rfl) (by kernel_rfl) (fun _ _ _ h => h) (HC0.out.cls HS.out) ?_ ?_
    ·
     refine Or.inl ⟨rfl, fun w hSw => ?_⟩
     have e0 := hSw.2.cell (j := 3) rfl
     exact EffR.same (by go_simp)
    try simp only [Act.put, zA, zB, zC]
    refine wpAnyU_ready (rs := [5]) (by kernel_rfl) (by simp) ?_
    refine AllReadyU.cons (o := { dst := some 187, op := Op.call { callee := Callee.value (Operand.func 15), args := #[Operand.tmp 185, Operand.tmp 186], argTypes := #[30, 23] }, type := 27, pos := "law.go:122", after := #[{ on := 3, ground := Ground.data }, { on := 4, ground := Ground.data }], guard := none }) rfl (fun wA5 hA5 K hK => ?_) AllReadyU.nil
    have hs := Append_5 wA5 g gl q rl n D D T T kk (HL0.out.below hA5) hI.out (by omega) HOFF.out (.slice a3r N c3r) rows (((HC0.out.below hA5).stay HSR.out)) HLR.out HNL.out
    rw [← HE.out, ← HDN.out, ← HTN.out] at hs
    go_simp
    refine hs.mono ?_
    clear hs
    rintro e0 w1 ⟨rfl, F1, hl1, hc1⟩
    have HL1 := Lib.hid hl1
    have HC1 : Hid (KC F W F1 w1) := (HC0.out.below hA5).next hc1
    refine hK.out _ _ (BL w1) (HC1.out.cls HS.out) (Below.refl _ _) ?_
    clear hl1 hc1
    clear hK K
    try simp only [Act.put, zA, zB, zC]
    refine wpAnyU_ready (rs := [12]) (by kernel_rfl) (by simp) ?_
    refine AllReadyU.cons (o := { dst := some 194, op := Op.call { callee := Callee.value (Operand.func 56), args := #[Operand.tmp 191, Operand.tmp 193], argTypes := #[69, 23] }, type := 27, pos := "law.go:122", after := #[{ on := 9, ground := Ground.data }, { on := 11, ground := Ground.data }, { on := 5, ground := Ground.chain }], guard := none }) rfl (fun wA12 hA12 K hK => ?_) AllReadyU.nil
    have hs := PAppend_5 wA12 g gl q rl n Dn D Tn T kk (HL1.out.below hA12) hI.out (by omega) HOFF.out (.slice a3 N c3) L rows ((HC1.out.below hA12).stay HV3.out) HLR.out HNL.out
    rw [← HE.out, ← HDN.out, ← HTN.out] at hs
    go_simp
    refine hs.mono ?_
    clear hs
    rintro e0 w2 ⟨rfl, F2, hl2, hc2⟩
    have HL2 := Lib.hid hl2
    have HC2 : Hid (KC F W F2 w2) := (HC1.out.below hA12).next hc2
    refine hK.out _ _ (BL w2) (HC2.out.cls HS.out) (Below.refl _ _) ?_
    clear hl2 hc2
    clear hK K
    try simp only [Act.put, zA, zB, zC]
    refine wpAnyU_take (i := 13) (oi := { dst := some 195, op := Op.binOp BinOp.eql 27 (Operand.tmp 187) (Operand.tmp 194) 27, type := 4, pos := "law.go:122", after := #[{ on := 5, ground := Ground.data }, { on := 12, ground := Ground.data }], guard := none }) (v := (.bool true)) rfl (by kernel_rfl) (by kernel_rfl) (by kernel_rfl) (by kernel_rfl) (by kernel_rfl) (fun _ _ _ h => h) (HC2.out.cls HS.out) ?_ ?_
    ·
     refine Or.inl ⟨rfl, fun w hSw => ?_⟩
     exact EffR.same (by go_simp)
    try simp only [Act.put, zA, zB, zC]
    refine wpAnyU_take (i := 14) (oi := { dst := some 12, op := Op.assign (Operand.tmp 195), type := 4, pos := "law.go:122", after := #[{ on := 13, ground := Ground.data }, { on := 12, ground := Ground.chain }, { on := 0, ground := Ground.phase }, { on := 1, ground := Ground.phase }, { on := 2, ground := Ground.phase }, { on := 3, ground := Ground.phase }, { on := 4, ground := Ground.phase }, { on := 5, ground := Ground.phase }, { on := 6, ground := Ground.phase }, { on := 7, ground := Ground.phase }, { on := 8, ground := Ground.phase }, { on := 9, ground := Ground.phase }, { on := 10, ground := Ground.phase }, { on := 11, ground := Ground.phase }, { on := 12, ground := Ground.phase }, { on := 13, ground := Ground.phase }], guard := none }) (v := (.bool true)) rfl (by kernel_rfl) (by kernel_rfl) (by kernel_rfl) (by kernel_rfl) (by kernel_rfl) (fun _ _ _ h => h) (HC2.out.cls HS.out) ?_ ?_
    ·
     refine Or.inl ⟨rfl, fun w hSw => ?_⟩
     exact EffR.same (by go_simp)
    try simp only [Act.put, zA, zB, zC]
    refine wpAnyU_done (by kernel_rfl) (fun w3 hb1 => ?_) _
    have HL3 := Lib.hid (HL2.out.below hb1)
    have HC3 := Lib.hid (HC2.out.below hb1)
    clear hb1
    have HL8 := HL3
    have HC8 : Hid (KC F w F2 w3) := (KC.refl F w).below HBW.out |>.next HC3.out
    have HRU : Hid (RowsU w3 (.slice a3r N c3r) vs) := HRW.out.kept HC3.out.1 (fun k e1 e2 => by have := HRB.out.1 k e1; have := HLT.out k e2; omega) (fun s hs k e1 e2 => by have := HRB.out.2 s hs k e1; have := HLT.out k e2; omega)
    have HNF : Hid (∀ k, F2 k → ¬ (w.heap.size ≤ k ∧ k < W.heap.size)) := fun k e1 e2 => by
     rcases HC3.out.2 k e1 with e3 | e3
     ·
      have := HLT.out k e3; omega
     ·
      omega
    obtain ⟨w8, hw8⟩ : ∃ z, z = w3 := ⟨_, rfl⟩
    obtain ⟨F8, hF8⟩ : ∃ z, z = F2 := ⟨_, rfl⟩
    rw [← hw8, ← hF8] at HL8 HC8
    rw [← hw8] at HRU ⊢
    rw [← hF8] at HNF
    clear hw8 hF8 HL3 HC3
    go_wp2_with fail
    go_loopw [13] (fun i wr => ∃ j : Nat, j ≤ N ∧ i = .int .i64 j ∧ RowsU wr (.slice a3r N c3r) vs ∧ Kept (fun k => w.heap.size ≤ k ∧ k < W.heap.size) w8 wr) (fun i _ => N - (intOf i).toNat)
    case atStart => exact ⟨0, Nat.zero_le _, rfl, HRU.out, Kept.refl _ _⟩
    case round =>
     obtain ⟨j, hj, rfl, hru, hkr⟩ := hrel
     have HR2 := Lib.hid hru
     have HK2 := Lib.hid hkr
     clear hru hkr
     by_cases hjl : j < N
     ·
      have hjv : j < vs.length := by have := HVS.out; omega
      obtain ⟨bk, off, rfl, hca⟩ := HR2.out.at (by omega)
      obtain ⟨⟨s1, s2, s3⟩, hs⟩ : ∃ z, z = vs[j] := ⟨_, rfl⟩
      have hcell : wr.cell? ⟨bk, off + j, none⟩ = some (.slice s1 s2 s3) := by
       have := hca j hjv
       rw [← hs] at this
       exact this
      have hou : OwnU wr (.slice s1 s2 s3) s2 := by
       have := HR2.out.2 vs[j] (List.getElem_mem hjv)
       rw [← hs] at this
       exact this
      have HOB9 : Hid (∀ k, (Value.slice s1 s2 s3).ownBlock = some k → w.heap.size ≤ k ∧ k < W.heap.size) := fun k e => HRB.out.2 vs[j] (List.getElem_mem hjv) k (by rw [← hs]; exact e)
      have hsp := SpoilU_any wr _ _ hou
      have HOU := Lib.hid hou
      have hj0 : (0 : Int) ≤ j ∧ (j : Int) < N := by omega
      clear hca hs hou
      go_wp2_with fail
      refine hsp.mono ?_
      clear hsp
      rintro e w10 ⟨rfl, hk10, hu10⟩
      have HR10 := Lib.hid (HR2.out.spoil HOU.out hk10 hu10)
      have HK10 : Hid (Kept (fun k => w.heap.size ≤ k ∧ k < W.heap.size) w8 w10) := HK2.out.trans hk10 (fun k _ e => HOB9.out k e)
      clear hk10 hu10
      go_wp2_with fail
      exact ⟨⟨j + 1, by omega, by push_cast; rfl, HR10.out, HK10.out⟩, by simp [intOf]; omega⟩
     ·
      obtain rfl : N = j := by omega
      go_wp2_with fail
      go_ret
      have HL9 : Hid (L5 F8 wr g gl q rl n Dn Tn Dn Tn) := HL8.out.kept HK2.out HNF.out
      rw [HDN.out, HTN.out] at HL9
      exact StepPost.same HL9.out ((hI.out.append rows HLR.out HNL.out).upto (by omega)) (HC8.out.fresh HK2.out (fun k e => e.1)) HSX.out
end Cam
