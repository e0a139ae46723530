import Derived.Test.YtlnclfiiplpaiaaPdW
import Derived.Test.YtlnclfiiplpaiaaDkY
/- the page's disk: Sync. -/
namespace Cam
open Go Go.RowKit Go.Proofs
theorem PMem.setSyn {w : World} {g gs : Nat} {vo : Value} {n : Nat} {D : DK} (h : PMem w g gs vo n D) {k : Nat} (hk : k < n) {b : List UInt8} (hb : b.length = 64) : PMem (w.setCells gs (k * 64) (bvs b)) g gs vo n { D with syn := D.syn.set k b } := by
 have hkk := setCells_kept gs (bvs b) (k * 64) w
 have hW : ∀ a ∈ D.syn, (bvs a).length = 64 := fun a ha => by rw [bvs_length]; exact h.ok.syn.2 a ha
 have hkn : k < D.syn.length := by rw [h.ok.syn.1]; exact hk
 refine ⟨h.hd.keptJ hkk h.ne, ?_, h.ho.keptJ hkk (fun z hz => (h.own hz).2.1), ⟨h.ok.n1, ⟨by simp [h.ok.syn.1], fun x hx => ?_⟩, h.ok.now, h.ok.op, h.ok.few, h.ok.arm⟩⟩
 ·
  have := h.hs.puts (vs := bvs b) (o := k * 64) (by rw [flatW_length hW, bvs_length, hb]; have := Nat.mul_le_mul_right 64 hkn; rw [Nat.succ_mul] at this; exact this)
  rw [flatW_set hW hkn b (by rw [bvs_length, hb])] at this
  exact this
 ·
  rcases List.mem_or_eq_of_mem_set hx with e | rfl
  ·
   exact h.ok.syn.2 x e
  ·
   exact hb
theorem PMem.clear {w : World} {g gs : Nat} {vo : Value} {n : Nat} {D : DK} (h : PMem w g gs vo n D) : PMem (w.setCell ⟨g, 2, none⟩ (.slice none 0 0)) g gs (.slice none 0 0) n { D with op := [] } :=
 ⟨h.hd.put 2 (.slice none 0 0), h.hs.keptJ (keptG _ _ _ _) (fun e => h.ne e.symm), OwnR.empty encW_len _ _ _, ⟨h.ok.n1, h.ok.syn, h.ok.now, (fun x hx => by cases hx), (by simp), h.ok.arm⟩⟩
set_option maxHeartbeats 3200000 in
set_option maxRecDepth 100000 in
theorem psync_any (w : World) (g gs : Nat) (vo : Value) (n : Nat) (D : DK) (h : PMem w g gs vo n D) :
  Calls Try.prog 50 #[.pointer (some ⟨g, 0, none⟩)] w fun e w' => e = .returned (.int .i64 (dSync D).1) ∧ PPost w g gs vo n (dSync D).2 w' := by
 obtain ⟨a, q, c, rfl, _⟩ := h.ho.named
 obtain ⟨hq, _⟩ := h.opAt
 have hc3 := h.cells.2.2.2.1
 have H := Lib.hid h
 obtain ⟨o, ho⟩ : ∃ o, o = D.off := ⟨_, rfl⟩
 rw [← ho] at hc3
 cases o with
 | true =>
  have HD : Hid (dSync D = (7, D)) := by show _ = _; unfold dSync; rw [if_pos ho.symm]
  clear ho h
  go_enter Try.func50, Try.ntmps50
  go_wp2_with fail
  go_ret
  rw [HD.out]
  exact ⟨rfl, _, H.out, Kept.refl _ _, fun k hk => .inl hk⟩
 | false =>
  have hl := plast_any w g gs _ n D h
  obtain ⟨s1, s2, s3⟩ := dLast_same D
  obtain ⟨lb, hlb⟩ : ∃ lb, lb = (dLast D).1 := ⟨_, rfl⟩
  obtain ⟨D1, hD1⟩ : ∃ D1, D1 = (dLast D).2 := ⟨_, rfl⟩
  rw [← hlb, ← hD1] at hl
  rw [← hD1] at s1 s2 s3
  have HD : Hid (dSync D = if lb = true then (7, D1) else (0, { D1 with syn := sets D1.syn D1.op, op := [] })) := by
   show _ = _
   unfold dSync
   rw [if_neg (by rw [← ho]; simp), ← hlb, ← hD1, s1, s3]
  have HQ : Hid (q = D1.op.length) := by show _ = _; rw [s3]; exact hq
  clear ho hlb hD1 s1 s2 s3 h hq
  cases lb with
  | true =>
   go_enter Try.func50, Try.ntmps50
   go_wp2_with (first | (go_at_call 64; refine hl.mono ?_; rintro e w1 ⟨rfl, hd1, hk1⟩) | fail)
   go_ret
   rw [HD.out]
   exact ⟨rfl, _, hd1, hk1.weaken (fun i e => .inl e), fun k hk => .inl hk⟩
  | false =>
   go_enter Try.func50, Try.ntmps50
   go_wp2_with (first | (go_at_call 64; refine hl.mono ?_; rintro e w1 ⟨rfl, hd1, hk1⟩) | fail)
   have HP1 := Lib.hid hd1
   have HK1 := Lib.hid hk1
   clear hl hc3 hd1 hk1
   go_wp2_with fail
   go_loopw [3] (fun i wr => ∃ j : Nat, j ≤ q ∧ i = .int .i64 j ∧ PMem wr g gs (.slice a q c) n { D1 with syn := sets D1.syn (D1.op.take j) } ∧ Kept (fun k => k = gs) w1 wr) (fun i _ => q - (intOf i).toNat)
   case atStart => exact ⟨0, Nat.zero_le _, rfl, HP1.out, Kept.refl _ _⟩
   case round =>
    obtain ⟨j, hj, rfl, hpr, hkr⟩ := hrel
    have HPR := Lib.hid hpr
    have HKR := Lib.hid hkr
    have hqf : (q : Int) ≤ 1000000 := by have := hpr.ok.few; have := HQ.out; show (q : Int) ≤ 1000000; have h8 : q ≤ 1000000 := (by rw [HQ.out]; exact hpr.ok.few); omega
    have hc2 := hpr.cells.2.2.1
    have hn1 := hpr.ok.n1
    clear hkr
    by_cases hlt : j < q
    ·
     obtain ⟨hq2, hop2⟩ := hpr.opAt
     have hjl : j < D1.op.length := by have := HQ.out; omega
     obtain ⟨bo, rfl, k1, k2, k3, hel⟩ := hop2 (by show 0 < D1.op.length; omega)
     obtain ⟨k4, k5, k6, k7⟩ := hel j hjl
     obtain ⟨xk, hxk⟩ : ∃ z, z = D1.op[j].1 := ⟨_, rfl⟩
     obtain ⟨xb, hxb⟩ : ∃ z, z = D1.op[j].2 := ⟨_, rfl⟩
     have htk : sets D1.syn (D1.op.take (j + 1)) = (sets D1.syn (D1.op.take j)).set xk xb := by rw [sets_take hjl, hxk, hxb]
     have k4' : xk < n := by rw [hxk]; exact k4
     have k5' : xb.length = 64 := by rw [hxb]; exact k5
     have k6' : wr.cell? ⟨bo, j * 65, none⟩ = some (.int .i64 (xk : Int)) := by rw [hxk]; exact k6
     have k7' : wr.rangeAt bo (j * 65 + 1) (bvs xb) := by rw [hxb]; exact k7
     have HC1 := Lib.hid hpr.cells.2.1
     have HC2 := Lib.hid hc2
     have HCA := Lib.hid k6'
     have HRA := Lib.hid k7'
     have HSZ := Lib.hid (size64_of k5')
     have HTK := Lib.hid htk
     have HX5 := Lib.hid k5'
     have HXK := Lib.hid k4'
     have hj0 : (0 : Int) ≤ j ∧ (j : Int) < q := by omega
     have hx0 : (0 : Int) ≤ xk ∧ (xk : Int) < n := by omega
     clear k1 k2 k3 k4 k5 k6 k7 k4' k5' k6' k7' hel hxk hxb htk hpr hop2 hq2
     go_wp2_with fail
     refine wp_region_bl 21 (by kernel_rfl) ?_
     refine wpAnyU_take (i := 0) (oi := { dst := some 21, op := Op.move (Operand.tmp 0), type := 67, pos := "ref.go:81", after := #[], guard := none }) (v := (.pointer (some ⟨g, 0, none⟩))) rfl (by kernel_rfl) (by kernel_rfl) (by kernel_rfl) (by kernel_rfl) (by kernel_rfl) (fun _ _ _ h => h) (BL.cls wr) ?_ ?_
     ·
      refine Or.inl ⟨rfl, fun w hSw => ?_⟩
      exact EffR.same (by go_simp)
     try simp only [Act.put, zA, zB, zC]
     refine wpAnyU_take (i := 1) (oi := { dst := some 22, op := Op.nilCheck (Operand.tmp 21), type := 0, pos := "ref.go:81", after := #[{ on := 0, ground := Ground.data }], guard := none }) (v := (.pointer (some ⟨g, 0, none⟩))) rfl (by kernel_rfl) (by kernel_rfl) (by kernel_rfl) (by kernel_rfl) (by kernel_rfl) (fun _ _ _ h => h) (BL.cls wr) ?_ ?_
     ·
      refine Or.inl ⟨rfl, fun w hSw => ?_⟩
      exact EffR.same (by go_simp)
     try simp only [Act.put, zA, zB, zC]
     refine wpAnyU_take (i := 2) (oi := { dst := some 23, op := Op.fieldAddr 78 (Operand.tmp 22) 1, type := 0, pos := "ref.go:81", after := #[{ on := 1, ground := Ground.data }], guard := none }) (v := (.pointer (some ⟨g, 1, none⟩))) rfl (by kernel_rfl) (by kernel_rfl) (by kernel_rfl) (by kernel_rfl) (by kernel_rfl) (fun _ _ _ h => h) (BL.cls wr) ?_ ?_
     ·
      refine Or.inl ⟨rfl, fun w hSw => ?_⟩
      exact EffR.same (by go_simp)
     try simp only [Act.put, zA, zB, zC]
     refine wpAnyU_take (i := 3) (oi := { dst := some 24, op := Op.load 75 (Operand.tmp 23), type := 75, pos := "ref.go:81", after := #[{ on := 2, ground := Ground.data }], guard := none }) (v := (.slice (some ⟨gs, 0, none⟩) n n)) rfl (by kernel_rfl) (by kernel_rfl) (by kernel_rfl) (by kernel_rfl) (by kernel_rfl) (fun _ _ _ h => h) (BL.cls wr) ?_ ?_
     ·
      refine Or.inl ⟨rfl, fun w hSw => ?_⟩
      have e0 := BL.cell hSw HC1.out
      exact EffR.same (by go_simp)
     try simp only [Act.put, zA, zB, zC]
     refine wpAnyU_take (i := 4) (oi := { dst := some 25, op := Op.move (Operand.tmp 0), type := 67, pos := "ref.go:81", after := #[], guard := none }) (v := (.pointer (some ⟨g, 0, none⟩))) rfl (by kernel_rfl) (by kernel_rfl) (by kernel_rfl) (by kernel_rfl) (by kernel_rfl) (fun _ _ _ h => h) (BL.cls wr) ?_ ?_
     ·
      refine Or.inl ⟨rfl, fun w hSw => ?_⟩
      exact EffR.same (by go_simp)
     try simp only [Act.put, zA, zB, zC]
     refine wpAnyU_take (i := 5) (oi := { dst := some 26, op := Op.nilCheck (Operand.tmp 25), type := 0, pos := "ref.go:81", after := #[{ on := 4, ground := Ground.data }], guard := none }) (v := (.pointer (some ⟨g, 0, none⟩))) rfl (by kernel_rfl) (by kernel_rfl) (by kernel_rfl) (by kernel_rfl) (by kernel_rfl) (fun _ _ _ h => h) (BL.cls wr) ?_ ?_
     ·
      refine Or.inl ⟨rfl, fun w hSw => ?_⟩
      exact EffR.same (by go_simp)
     try simp only [Act.put, zA, zB, zC]
     refine wpAnyU_take (i := 6) (oi := { dst := some 27, op := Op.fieldAddr 78 (Operand.tmp 26) 2, type := 0, pos := "ref.go:81", after := #[{ on := 5, ground := Ground.data }], guard := none }) (v := (.pointer (some ⟨g, 2, none⟩))) rfl (by kernel_rfl) (by kernel_rfl) (by kernel_rfl) (by kernel_rfl) (by kernel_rfl) (fun _ _ _ h => h) (BL.cls wr) ?_ ?_
     ·
      refine Or.inl ⟨rfl, fun w hSw => ?_⟩
      exact EffR.same (by go_simp)
     try simp only [Act.put, zA, zB, zC]
     refine wpAnyU_take (i := 7) (oi := { dst := some 28, op := Op.load 76 (Operand.tmp 27), type := 76, pos := "ref.go:81", after := #[{ on := 6, ground := Ground.data }], guard := none }) (v := (.slice (some ⟨bo, 0, none⟩) q c)) rfl (by kernel_rfl) (by kernel_rfl) (by kernel_rfl) (by kernel_rfl) (by kernel_rfl) (fun _ _ _ h => h) (BL.cls wr) ?_ ?_
     ·
      refine Or.inl ⟨rfl, fun w hSw => ?_⟩
      have e0 := BL.cell hSw HC2.out
      exact EffR.same (by go_simp)
     try simp only [Act.put, zA, zB, zC]
     refine wpAnyU_take (i := 8) (oi := { dst := some 29, op := Op.move (Operand.tmp 3), type := 3, pos := "ref.go:81", after := #[], guard := none }) (v := (.int .i64 (j : Int))) rfl (by kernel_rfl) (by kernel_rfl) (by kernel_rfl) (by kernel_rfl) (by kernel_rfl) (fun _ _ _ h => h) (BL.cls wr) ?_ ?_
     ·
      refine Or.inl ⟨rfl, fun w hSw => ?_⟩
      exact EffR.same (by go_simp)
     try simp only [Act.put, zA, zB, zC]
     refine wpAnyU_take (i := 9) (oi := { dst := some 30, op := Op.indexAddr 76 (Operand.tmp 28) (Operand.tmp 29), type := 0, pos := "ref.go:81", after := #[{ on := 7, ground := Ground.data }, { on := 8, ground := Ground.data }], guard := none }) (v := (.pointer (some ⟨bo, j * 65, none⟩))) rfl (by kernel_rfl) (by kernel_rfl) (by kernel_rfl) (by kernel_rfl) (by kernel_rfl) (fun _ _ _ h => h) (BL.cls wr) ?_ ?_
     ·
      refine Or.inl ⟨rfl, fun w hSw => ?_⟩
      have hq : ¬ q ≤ j := (by omega)
      exact EffR.same (by go_simp)
     try simp only [Act.put, zA, zB, zC]
     refine wpAnyU_take (i := 10) (oi := { dst := some 31, op := Op.fieldAddr 100 (Operand.tmp 30) 0, type := 0, pos := "ref.go:81", after := #[{ on := 9, ground := Ground.data }], guard := none }) (v := (.pointer (some ⟨bo, j * 65, none⟩))) rfl (by kernel_rfl) (by kernel_rfl) (by kernel_rfl) (by kernel_rfl) (by kernel_rfl) (fun _ _ _ h => h) (BL.cls wr) ?_ ?_
     ·
      refine Or.inl ⟨rfl, fun w hSw => ?_⟩
      exact EffR.same (by go_simp)
     try simp only [Act.put, zA, zB, zC]
     refine wpAnyU_take (i := 11) (oi := { dst := some 32, op := Op.load 3 (Operand.tmp 31), type := 3, pos := "ref.go:81", after := #[{ on := 10, ground := Ground.data }], guard := none }) (v := (.int .i64 (xk : Int))) rfl (by kernel_rfl) (by kernel_rfl) (by kernel_rfl) (by kernel_rfl) (by kernel_rfl) (fun _ _ _ h => h) (BL.cls wr) ?_ ?_
     ·
      refine Or.inl ⟨rfl, fun w hSw => ?_⟩
      have e0 := BL.cell hSw HCA.out
      exact EffR.same (by go_simp)
     try simp only [Act.put, zA, zB, zC]
     refine wpAnyU_take (i := 12) (oi := { dst := some 33, op := Op.move (Operand.tmp 0), type := 67, pos := "ref.go:81", after := #[], guard := none }) (v := (.pointer (some ⟨g, 0, none⟩))) rfl (by kernel_rfl) (by kernel_rfl) (by kernel_rfl) (by kernel_rfl) (by kernel_rfl) (fun _ _ _ h => h) (BL.cls wr) ?_ ?_
     ·
      refine Or.inl ⟨rfl, fun w hSw => ?_⟩
      exact EffR.same (by go_simp)
     try simp only [Act.put, zA, zB, zC]
     refine wpAnyU_take (i := 13) (oi := { dst := some 34, op := Op.nilCheck (Operand.tmp 33), type := 0, pos := "ref.go:81", after := #[{ on := 12, ground := Ground.data }], guard := none }) (v := (.pointer (some ⟨g, 0, none⟩))) rfl (by kernel_rfl) (by kernel_rfl) (by kernel_rfl) (by kernel_rfl) (by kernel_rfl) (fun _ _ _ h => h) (BL.cls wr) ?_ ?_
     ·
      refine Or.inl ⟨rfl, fun w hSw => ?_⟩
      exact EffR.same (by go_simp)
     try simp only [Act.put, zA, zB, zC]
     refine wpAnyU_take (i := 14) (oi := { dst := some 35, op := Op.fieldAddr 78 (Operand.tmp 34) 2, type := 0, pos := "ref.go:81", after := #[{ on := 13, ground := Ground.data }], guard := none }) (v := (.pointer (some ⟨g, 2, none⟩))) rfl (by kernel_rfl) (by kernel_rfl) (by kernel_rfl) (by kernel_rfl) (by kernel_rfl) (fun _ _ _ h => h) (BL.cls wr) ?_ ?_
     ·
      refine Or.inl ⟨rfl, fun w hSw => ?_⟩
      exact EffR.same (by go_simp)
     try simp only [Act.put, zA, zB, zC]
     refine wpAnyU_take (i := 15) (oi := { dst := some 36, op := Op.load 76 (Operand.tmp 35), type := 76, pos := "ref.go:81", after := #[{ on := 14, ground := Ground.data }], guard := none }) (v := (.slice (some ⟨bo, 0, none⟩) q c)) rfl (by kernel_rfl) (by kernel_rfl) (by kernel_rfl) (by kernel_rfl) (by kernel_rfl) (fun _ _ _ h => h) (BL.cls wr) ?_ ?_
     ·
      refine Or.inl ⟨rfl, fun w hSw => ?_⟩
      have e0 := BL.cell hSw HC2.out
      exact EffR.same (by go_simp)
     try simp only [Act.put, zA, zB, zC]
     refine wpAnyU_take (i := 16) (oi := { dst := some 37, op := Op.move (Operand.tmp 3), type := 3, pos := "ref.go:81", after := #[], guard := none }) (v := (.int .i64 (j : Int))) rfl (by kernel_rfl) (by kernel_rfl) (by kernel_rfl) (by kernel_rfl) (by kernel_rfl) (fun _ _ _ h => h) (BL.cls wr) ?_ ?_
     ·
      refine Or.inl ⟨rfl, fun w hSw => ?_⟩
      exact EffR.same (by go_simp)
     try simp only [Act.put, zA, zB, zC]
     refine wpAnyU_take (i := 17) (oi := { dst := some 38, op := Op.indexAddr 76 (Operand.tmp 36) (Operand.tmp 37), type := 0, pos := "ref.go:81", after := #[{ on := 15, ground := Ground.data }, { on := 16, ground := Ground.data }], guard := none }) (v := (.pointer (some ⟨bo, j * 65, none⟩))) rfl (by kernel_rfl) (by kernel_rfl) (by kernel_rfl) (by kernel_rfl) (by kernel_rfl) (fun _ _ _ h => h) (BL.cls wr) ?_ ?_
     ·
      refine Or.inl ⟨rfl, fun w hSw => ?_⟩
      have hq : ¬ q ≤ j := (by omega)
      exact EffR.same (by go_simp)
     try simp only [Act.put, zA, zB, zC]
     refine wpAnyU_take (i := 18) (oi := { dst := some 39, op := Op.fieldAddr 100 (Operand.tmp 38) 1, type := 0, pos := "ref.go:81", after := #[{ on := 17, ground := Ground.data }], guard := none }) (v := (.pointer (some ⟨bo, j * 65 + 1, none⟩))) rfl (by kernel_rfl) (by kernel_rfl) (by kernel_rfl) (by kernel_rfl) (by kernel_rfl) (fun _ _ _ h => h) (BL.cls wr) ?_ ?_
     ·
      refine Or.inl ⟨rfl, fun w hSw => ?_⟩
      exact EffR.same (by go_simp)
     try simp only [Act.put, zA, zB, zC]
     refine wpAnyU_take (i := 19) (oi := { dst := some 40, op := Op.load 36 (Operand.tmp 39), type := 36, pos := "ref.go:81", after := #[{ on := 18, ground := Ground.data }], guard := none }) (v := (.agg (bvs xb).toArray)) rfl (by kernel_rfl) (by kernel_rfl) (by kernel_rfl) (by kernel_rfl) (by kernel_rfl) (fun _ _ _ h => h) (BL.cls wr) ?_ ?_
     ·
      refine Or.inl ⟨rfl, fun w hSw => ?_⟩
      exact eff_load_midP 36 (.tmp 39) rfl bo (j * 65 + 1) rfl (bvs xb) _ (fun i v hv => BL.cell hSw (HRA.out i v hv)) Try.underlying36 rfl HSZ.out
     try simp only [Act.put, zA, zB, zC]
     refine wpAnyU_take (i := 20) (oi := { dst := some 41, op := Op.indexAddr 75 (Operand.tmp 24) (Operand.tmp 32), type := 0, pos := "ref.go:81", after := #[{ on := 3, ground := Ground.data }, { on := 11, ground := Ground.data }, { on := 0, ground := Ground.phase }, { on := 1, ground := Ground.phase }, { on := 2, ground := Ground.phase }, { on := 3, ground := Ground.phase }, { on := 4, ground := Ground.phase }, { on := 5, ground := Ground.phase }, { on := 6, ground := Ground.phase }, { on := 7, ground := Ground.phase }, { on := 8, ground := Ground.phase }, { on := 9, ground := Ground.phase }, { on := 10, ground := Ground.phase }, { on := 11, ground := Ground.phase }, { on := 12, ground := Ground.phase }, { on := 13, ground := Ground.phase }, { on := 14, ground := Ground.phase }, { on := 15, ground := Ground.phase }, { on := 16, ground := Ground.phase }, { on := 17, ground := Ground.phase }, { on := 18, ground := Ground.phase }, { on := 19, ground := Ground.phase }], guard := none }) (v := (.pointer (some ⟨gs, xk * 64, none⟩))) rfl (by kernel_rfl) (by kernel_rfl) (by kernel_rfl) (by kernel_rfl) (by kernel_rfl) (fun _ _ _ h => h) (BL.cls wr) ?_ ?_
     ·
      refine Or.inl ⟨rfl, fun w hSw => ?_⟩
      have hq : ¬ n ≤ xk := (by omega)
      exact EffR.same (by go_simp)
     try simp only [Act.put, zA, zB, zC]
     refine wpAnyU_last (o := { dst := none, op := Op.store 36 (Operand.tmp 41) (Operand.tmp 40), type := 0, pos := "ref.go:81", after := #[{ on := 20, ground := Ground.data }, { on := 19, ground := Ground.data }, { on := 0, ground := Ground.phase }, { on := 1, ground := Ground.phase }, { on := 2, ground := Ground.phase }, { on := 3, ground := Ground.phase }, { on := 4, ground := Ground.phase }, { on := 5, ground := Ground.phase }, { on := 6, ground := Ground.phase }, { on := 7, ground := Ground.phase }, { on := 8, ground := Ground.phase }, { on := 9, ground := Ground.phase }, { on := 10, ground := Ground.phase }, { on := 11, ground := Ground.phase }, { on := 12, ground := Ground.phase }, { on := 13, ground := Ground.phase }, { on := 14, ground := Ground.phase }, { on := 15, ground := Ground.phase }, { on := 16, ground := Ground.phase }, { on := 17, ground := Ground.phase }, { on := 18, ground := Ground.phase }, { on := 19, ground := Ground.phase }], guard := none }) (by kernel_rfl) (by kernel_rfl) rfl (fun w1x hb1 K hK => ?_)
     have hp9 := HPR.out.below hb1
     refine step_store_mid rfl 36 (.tmp 41) (.tmp 40) rfl gs (xk * 64) (bvs xb) rfl rfl (blockRoom hp9.hs.hc hp9.ok.syn.2 (by rw [hp9.ok.syn.1]; exact HXK.out) HX5.out) HSZ.out (bs_oneCell _) ?_
     have HPF := Lib.hid (hp9.setSyn HXK.out HX5.out)
     have HKF := Lib.hid ((HKR.out.next hb1).trans (setCells_kept gs (bvs xb) (xk * 64) w1x) (fun _ _ e => e))
     clear hp9
     refine hK.out _ _ ?_
     clear hK K
     try simp only [Act.put]
     obtain ⟨wF, hwF⟩ : ∃ z, z = w1x.setCells gs (xk * 64) (bvs xb) := ⟨_, rfl⟩
     rw [← hwF] at HPF HKF ⊢
     clear hwF hb1
     go_wp2_with fail
     refine ⟨⟨j + 1, by omega, by push_cast; rfl, ?_, HKF.out⟩, by simp [intOf]; omega⟩
     rw [HTK.out]
     exact HPF.out
    ·
     obtain rfl : j = q := by omega
     have hnn := Lib.hid hpr.clear
     have hfz := hpr.hd.frozen
     clear hpr
     go_wp2_with fail
     go_ret
     rw [HD.out, if_neg (by decide)]
     refine ⟨rfl, .slice none 0 0, ?_, ?_, fun k hk => by cases hk⟩
     ·
      have h9 := hnn.out
      have e : D1.op.take j = D1.op := by rw [HQ.out]; exact List.take_length
      simp only [e] at h9
      exact h9
     ·
      exact (HK1.out.weaken (fun i e => .inl e)).trans ((HKR.out.weaken (fun i e => Or.inr (Or.inl e))).trans ((keptG _ _ _ _).weaken (fun i e => .inl e)) (fun _ _ e => e)) (fun _ _ e => e)
end Cam
