import Derived.Test.YtlnclfiiplpaiaaPdTz
import Derived.Test.YtlnclfiiplpaiaaUni
/- the page's disk: Write. -/
namespace Cam
open Go Go.RowKit Go.Proofs
theorem step_append_rowsP {α : Type} {enc : α → List Value} {K : Nat} {P : Program} {ops : Array Oper} {o : Oper} {a : Act} {w : World} {K' : Act → World → Prop} {Q : Exit → Act → World → Prop} {E' : Prop}
  (hg : o.guard = none) (s x : Operand) (t : TypeId) (hop : o.op = Op.call { callee := Callee.builtin Builtin.append, args := #[s, x], argTypes := #[t, t] })
  {e base bytes : Nat} {v vx : Value} {L M : List α} (E : Elem P t e K bytes) (hs : a.eval s = v) (hx : a.eval x = vx)
  (hown : OwnR enc K e w base v L) (hsrc : Rs enc K w vx M) (h1 : ∀ a, ∀ u ∈ enc a, u.oneCell' = true) (hlen : (L.length + M.length) * bytes ≤ 140737488355328) (hb : 0 < bytes) (hbase : base ≤ w.heap.size)
  (h : ∀ a' n' cap' w', Hid (n' = L.length + M.length) → OwnR enc K e w' base (.slice a' n' cap') (L ++ M) → w.grownBy w' v.ownBlock →
   Hid ((Value.slice a' n' cap').ownBlock = v.ownBlock ∨ (Value.slice a' n' cap').ownBlock = some w.heap.size) → Below base w w' → K' (a.put o.dst (.slice a' n' cap')) w') :
  if Region.wanted o (yielded ops a.tmps) = true then Oper.wp P o a w K' Q else E' := by
 have hw : Region.wanted o (yielded ops a.tmps) = true := by simp [Region.wanted, hg]
 rw [if_pos hw]
 have hl : L.length + M.length ≤ maxLen := by
  have := Nat.le_mul_of_pos_right (L.length + M.length) hb
  unfold maxLen
  omega
 obtain ⟨a', cap', w', hr, h2, h3, h4⟩ := run_append_sl_at (P := P) (ty := o.type) w E hown.2 hsrc.2 (flatW_one h1 M) hl hlen hbase
 unfold Oper.wp execOp
 simp only [hop, resolve, invoke, builtin, Sem.run_bind, Sem.run_pure, Result.andThen_ok, List.map_toArray, List.map_cons, List.map_nil, hs, hx, hr]
 exact h a' _ cap' w' rfl (OwnR.app hown.1 h2) h3 h4 ((Below.refl _ _).grown h3 hbase (fun k hk => hown.ge k hk))
theorem eff_load_midP {P : Program} {op : Oper} {a : Act} {w : World} (ty : TypeId) (x : Operand) (ho : op.op = .load ty x)
  (b o : Nat) (hx : a.eval x = .pointer (some ⟨b, o, none⟩)) (cs : List Value) (d : TypeDesc) (hc : w.rangeAt b o cs)
  (hu : P.underlying ty = some d) (hd : d.isRow = true) (hi : (P.info? ty).map (·.size) = some cs.length) : EffR P (.agg cs.toArray) w ((execOp a.eval op).run P w) :=
 EffR.same (by
  unfold execOp
  simp only [ho, hx, Instr.loadAt, Instr.sureAddr, Sem.run_bind, Sem.run_pure, Result.andThen_ok, run_loadVar_mid w b o ty cs d hc hu hd hi])
theorem PMem.push {wA w9 : World} {g gs : Nat} {vo : Value} {n : Nat} {D : DK} {k : Nat} {b : List UInt8} {a' : Option Addr} {n' c' : Nat} (h : PMem wA g gs vo n D) (hk : k < n) (hb : b.length = 64) (hf : D.op.length < 1000000) (ho : OwnR encW 65 100 w9 0 (.slice a' n' c') (D.op ++ [(k, b)])) (hg : wA.grownBy w9 vo.ownBlock) :
  PMem (w9.setCell ⟨g, 2, none⟩ (.slice a' n' c')) g gs (.slice a' n' c') n (dPut D k b) := by
 have hkk := Kept.of_grown hg
 have h1 := h.hd.keptJ hkk (fun e => (h.own e).1 rfl)
 have h2 := h.hs.keptJ hkk (fun e => (h.own e).2.1 rfl)
 refine ⟨h1.put 2 (.slice a' n' c'), h2.keptJ (keptG _ _ _ _) (fun e => h.ne e.symm), ho.keptJ (keptG _ _ _ _) (fun z hz => h1.own_neP ho.2 (by decide) hz), ⟨h.ok.n1, h.ok.syn, ⟨?_, fun x hx => ?_⟩, fun x hx => ?_, ?_, h.ok.arm⟩⟩
 ·
  show (D.now.set k b).length = n
  rw [List.length_set]
  exact h.ok.now.1
 ·
  rcases List.mem_or_eq_of_mem_set hx with e | rfl
  ·
   exact h.ok.now.2 x e
  ·
   exact hb
 ·
  rcases List.mem_append.1 hx with e | e
  ·
   exact h.ok.op x e
  ·
   rw [List.mem_singleton] at e
   rw [e]
   exact ⟨hk, hb⟩
 ·
  show (D.op ++ [(k, b)]).length ≤ _
  simp
  omega
theorem PMem.push2 {wA w9 wF : World} {g gs : Nat} {vo : Value} {n : Nat} {D : DK} {k : Nat} {b : List UInt8} {a' : Option Addr} {n' c' : Nat} (h : PMem wA g gs vo n D) (hk : k < n) (hb : b.length = 64) (hf : D.op.length < 1000000) (ho : OwnR encW 65 100 w9 0 (.slice a' n' c') (D.op ++ [(k, b)])) (hg : wA.grownBy w9 vo.ownBlock) (hF : Below w9.heap.size w9 wF) :
  PMem (wF.setCell ⟨g, 2, none⟩ (.slice a' n' c')) g gs (.slice a' n' c') n (dPut D k b) := by
 have hkk := Kept.of_grown hg
 have h1 := (h.hd.keptJ hkk (fun e => (h.own e).1 rfl)).below hF
 have h2 := (h.hs.keptJ hkk (fun e => (h.own e).2.1 rfl)).below hF
 have h3 := h.push hk hb hf ho hg
 exact ⟨h1.put 2 (.slice a' n' c'), h2.keptJ (keptG _ _ _ _) (fun e => h.ne e.symm), (ho.below hF).keptJ (keptG _ _ _ _) (fun z hz => h1.own_neP (ho.below hF).2 (by decide) hz), h3.ok⟩
def PPost (w : World) (g gs : Nat) (vo : Value) (n : Nat) (D : DK) (w' : World) : Prop := ∃ vo', PMem w' g gs vo' n D ∧ Kept (PS g gs vo) w w' ∧ ∀ k, vo'.ownBlock = some k → vo.ownBlock = some k ∨ w.heap.size ≤ k
def dWriteR (n : Nat) (D : DK) (at_ : Int) (b : List UInt8) : Int × DK := if dRight n D at_ = 0 then dWrite D at_.toNat b else (dRight n D at_, D)
theorem dLast_put (D : DK) (k : Nat) (b : List UInt8) : dLast (dPut D k b) = ((dLast D).1, dPut (dLast D).2 k b) := by
 unfold dLast dPut
 split
 ·
  rfl
 ·
  split <;> rfl
set_option maxHeartbeats 3200000 in
set_option maxRecDepth 100000 in
theorem pwrite_any (w : World) (g gs : Nat) (vo : Value) (n : Nat) (D : DK) (h : PMem w g gs vo n D) (at_ : Int) (b : List UInt8) (hb : b.length = 64) (hf : D.op.length < 1000000) :
  Calls Try.prog 55 #[.pointer (some ⟨g, 0, none⟩), .int .i64 at_, .agg (bvs b).toArray] w fun e w' => e = .returned (.int .i64 (dWriteR n D at_ b).1) ∧ PPost w g gs vo n (dWriteR n D at_ b).2 w' := by
 obtain ⟨a, q, c, rfl, _⟩ := h.ho.named
 have hbA : Below w.heap.size w (w.alloc (.cells (bvs b).toArray 36)) := (Below.refl _ _).alloc (Nat.le_refl _) _
 have hA := h.below hbA
 have hBox : HT (w.alloc (.cells (bvs b).toArray 36)) w.heap.size 36 (bvs b) := HT.new
 have hc3 := hA.cells.2.2.2.1
 obtain ⟨o, ho⟩ : ∃ z, z = D.off := ⟨_, rfl⟩
 rw [← ho] at hc3
 cases o with
 | true =>
  have hr : dWriteR n D at_ b = (7, D) := by unfold dWriteR dRight; rw [if_pos ho.symm, if_neg (by decide)]
  have HR := Lib.hid hr
  have HA := Lib.hid hA
  have HBA := Lib.hid hbA
  clear h hA hBox hbA ho hr
  go_enter Try.func55, Try.ntmps55
  go_wp2_with fail
  go_ret
  rw [HR.out]
  exact ⟨rfl, _, HA.out, (Kept.of_below HBA.out).weaken (fun _ e => e.elim), fun _ e => .inl e⟩
 | false =>
  have hbl := pblock_any _ g gs _ n D hA at_
  by_cases hin : 0 ≤ at_ ∧ at_ < (n : Int)
  ·
   rw [decide_eq_true hin] at hbl
   have hr0 : dRight n D at_ = 0 := by unfold dRight; rw [if_neg (by rw [← ho]; decide), if_neg (by omega)]
   obtain ⟨k, rfl⟩ : ∃ k : Nat, at_ = (k : Int) := ⟨at_.toNat, by omega⟩
   have hkn : k < n := by omega
   have hla := plast_any _ g gs _ n D hA
   obtain ⟨s1, s2, s3⟩ := dLast_same D
   obtain ⟨lb, hlb⟩ : ∃ lb, lb = (dLast D).1 := ⟨_, rfl⟩
   obtain ⟨D1, hD1⟩ : ∃ D1, D1 = (dLast D).2 := ⟨_, rfl⟩
   have hres : dWriteR n D (k : Int) b = (if lb = true then 7 else 0, dPut D1 k b) := by
    unfold dWriteR dWrite
    rw [if_pos hr0, if_neg (by rw [← ho]; decide), dLast_put, ← hlb, ← hD1, Int.toNat_natCast]
   rw [← hlb, ← hD1] at hla
   rw [← hD1] at s3
   have HRES := Lib.hid hres
   have HF1 : Hid (D1.op.length < 1000000) := by show _ < _; rw [s3]; exact hf
   have HKN := Lib.hid hkn
   have HBL := Lib.hid hb
   have HSZ := Lib.hid (size64_of hb)
   have HBX := Lib.hid hBox
   have HBA := Lib.hid hbA
   have HGN : Hid (g ≠ w.heap.size ∧ gs ≠ w.heap.size ∧ ∀ z, (Value.slice a q c).ownBlock = some z → z ≠ w.heap.size) := ⟨by have := h.hd.lt; omega, by have := h.hs.lt; omega, fun z hz => by have := (h.own hz).2.2; omega⟩
   clear h hA hBox hbA ho hr0 hin s1 s2 s3 hlb hD1 hres hkn hb hf
   go_enter Try.func55, Try.ntmps55
   go_wp2_with fail
   refine hbl.mono ?_
   clear hbl
   rintro e w1 ⟨rfl, rfl⟩
   clear hc3
   go_wp2_with fail
   refine hla.mono ?_
   clear hla
   rintro e W ⟨rfl, hp1, hk1⟩
   obtain ⟨gb, hgb⟩ : ∃ z, z = w.heap.size := ⟨_, rfl⟩
   have HKW : Hid (Kept (PS g gs (.slice a q c)) w W) := ((Kept.of_below HBA.out).weaken (fun _ e => e.elim)).trans hk1 (fun _ _ e => .inl e)
   have HBB : Hid (HT W gb 36 (bvs b)) := by show HT _ _ _ _; rw [hgb]; exact HBX.out.keptJ hk1 (fun e => HGN.out.1 e.symm)
   have HGB : Hid (¬ PS g gs (.slice a q c) gb) := by
    show ¬ _
    rw [hgb]
    rintro (e | e | e)
    ·
     exact HGN.out.1 e.symm
    ·
     exact HGN.out.2.1 e.symm
    ·
     exact HGN.out.2.2 _ e rfl
   have HRB : Hid (W.rangeAt gb 0 (bvs b)) := HBB.out.hc.bytes
   have HC2 : Hid (W.cell? ⟨g, 2, none⟩ = some (.slice a q c)) := hp1.cells.2.2.1
   have HP1 := Lib.hid hp1
   have hwsz : w.heap.size ≤ W.heap.size := HKW.out.size
   rw [← hgb]
   clear hp1 hk1 hgb
   go_wp2_with fail
   refine wp_region_uni (S0 := (fun x => x.cell? ⟨g, 2, none⟩ = some (.slice a q c) ∧ x.rangeAt gb 0 (bvs b))) (S := BL W) 12 (by kernel_rfl) (Below.refl _ _).drew ?_
   refine wpAnyU_take (i := 0) (oi := { dst := some 18, op := Op.move (Operand.tmp 0), type := 67, pos := "ref.go:69", after := #[], guard := none }) (v := (.pointer (some ⟨g, 0, none⟩))) rfl (by kernel_rfl) (by kernel_rfl) (by kernel_rfl) (by kernel_rfl) (by kernel_rfl) (fun _ _ _ h => h) (⟨fun x h => ⟨BL.cell h HC2.out, fun j v hv => BL.cell h (HRB.out j v hv)⟩, fun _ _ h hb => Below.next h hb⟩ : Cls (fun x => x.cell? ⟨g, 2, none⟩ = some (.slice a q c) ∧ x.rangeAt gb 0 (bvs b)) (BL W)) ?_ ?_
   ·
    refine Or.inl ⟨rfl, fun w hSw => ?_⟩
    exact EffR.same (by go_simp)
   try simp only [Act.put, zA, zB, zC]
   refine wpAnyU_take (i := 1) (oi := { dst := some 19, op := Op.move (Operand.tmp 0), type := 67, pos := "ref.go:69", after := #[], guard := none }) (v := (.pointer (some ⟨g, 0, none⟩))) rfl (by kernel_rfl) (by kernel_rfl) (by kernel_rfl) (by kernel_rfl) (by kernel_rfl) (fun _ _ _ h => h) (⟨fun x h => ⟨BL.cell h HC2.out, fun j v hv => BL.cell h (HRB.out j v hv)⟩, fun _ _ h hb => Below.next h hb⟩ : Cls (fun x => x.cell? ⟨g, 2, none⟩ = some (.slice a q c) ∧ x.rangeAt gb 0 (bvs b)) (BL W)) ?_ ?_
   ·
    refine Or.inl ⟨rfl, fun w hSw => ?_⟩
    exact EffR.same (by go_simp)
   try simp only [Act.put, zA, zB, zC]
   refine wpAnyU_take (i := 2) (oi := { dst := some 20, op := Op.nilCheck (Operand.tmp 19), type := 0, pos := "ref.go:69", after := #[{ on := 1, ground := Ground.data }], guard := none }) (v := (.pointer (some ⟨g, 0, none⟩))) rfl (by kernel_rfl) (by kernel_rfl) (by kernel_rfl) (by kernel_rfl) (by kernel_rfl) (fun _ _ _ h => h) (⟨fun x h => ⟨BL.cell h HC2.out, fun j v hv => BL.cell h (HRB.out j v hv)⟩, fun _ _ h hb => Below.next h hb⟩ : Cls (fun x => x.cell? ⟨g, 2, none⟩ = some (.slice a q c) ∧ x.rangeAt gb 0 (bvs b)) (BL W)) ?_ ?_
   ·
    refine Or.inl ⟨rfl, fun w hSw => ?_⟩
    exact EffR.same (by go_simp)
   try simp only [Act.put, zA, zB, zC]
   refine wpAnyU_take (i := 3) (oi := { dst := some 21, op := Op.fieldAddr 78 (Operand.tmp 20) 2, type := 0, pos := "ref.go:69", after := #[{ on := 2, ground := Ground.data }], guard := none }) (v := (.pointer (some ⟨g, 2, none⟩))) rfl (by kernel_rfl) (by kernel_rfl) (by kernel_rfl) (by kernel_rfl) (by kernel_rfl) (fun _ _ _ h => h) (⟨fun x h => ⟨BL.cell h HC2.out, fun j v hv => BL.cell h (HRB.out j v hv)⟩, fun _ _ h hb => Below.next h hb⟩ : Cls (fun x => x.cell? ⟨g, 2, none⟩ = some (.slice a q c) ∧ x.rangeAt gb 0 (bvs b)) (BL W)) ?_ ?_
   ·
    refine Or.inl ⟨rfl, fun w hSw => ?_⟩
    exact EffR.same (by go_simp)
   try simp only [Act.put, zA, zB, zC]
   refine wpAnyU_take (i := 4) (oi := { dst := some 22, op := Op.load 76 (Operand.tmp 21), type := 76, pos := "ref.go:69", after := #[{ on := 3, ground := Ground.data }], guard := none }) (v := (.slice a q c)) rfl (by kernel_rfl) (by kernel_rfl) (by kernel_rfl) (by kernel_rfl) (by kernel_rfl) (fun _ _ _ h => h) (⟨fun x h => ⟨BL.cell h HC2.out, fun j v hv => BL.cell h (HRB.out j v hv)⟩, fun _ _ h hb => Below.next h hb⟩ : Cls (fun x => x.cell? ⟨g, 2, none⟩ = some (.slice a q c) ∧ x.rangeAt gb 0 (bvs b)) (BL W)) ?_ ?_
   ·
    refine Or.inl ⟨rfl, fun w hSw => ?_⟩
    have e0 := hSw.1
    exact EffR.same (by go_simp)
   try simp only [Act.put, zA, zB, zC]
   refine wpAnyU_take (i := 5) (oi := { dst := some 23, op := Op.move (Operand.tmp 1), type := 3, pos := "ref.go:69", after := #[], guard := none }) (v := (.int .i64 (k : Int))) rfl (by kernel_rfl) (by kernel_rfl) (by kernel_rfl) (by kernel_rfl) (by kernel_rfl) (fun _ _ _ h => h) (⟨fun x h => ⟨BL.cell h HC2.out, fun j v hv => BL.cell h (HRB.out j v hv)⟩, fun _ _ h hb => Below.next h hb⟩ : Cls (fun x => x.cell? ⟨g, 2, none⟩ = some (.slice a q c) ∧ x.rangeAt gb 0 (bvs b)) (BL W)) ?_ ?_
   ·
    refine Or.inl ⟨rfl, fun w hSw => ?_⟩
    exact EffR.same (by go_simp)
   try simp only [Act.put, zA, zB, zC]
   refine wpAnyU_take (i := 6) (oi := { dst := some 24, op := Op.load 36 (Operand.tmp 5), type := 36, pos := "ref.go:69", after := #[], guard := none }) (v := (.agg (bvs b).toArray)) rfl (by kernel_rfl) (by kernel_rfl) (by kernel_rfl) (by kernel_rfl) (by kernel_rfl) (fun _ _ _ h => h) (⟨fun x h => ⟨BL.cell h HC2.out, fun j v hv => BL.cell h (HRB.out j v hv)⟩, fun _ _ h hb => Below.next h hb⟩ : Cls (fun x => x.cell? ⟨g, 2, none⟩ = some (.slice a q c) ∧ x.rangeAt gb 0 (bvs b)) (BL W)) ?_ ?_
   ·
    refine Or.inl ⟨rfl, fun w hSw => ?_⟩
    exact eff_load_midP 36 (.tmp 5) rfl gb 0 rfl (bvs b) _ hSw.2 Try.underlying36 rfl HSZ.out
   try simp only [Act.put, zA, zB, zC]
   refine wpAnyU_ready (rs := [7]) (by kernel_rfl) (by simp) ?_
   refine AllReadyU.cons (o := { dst := some 25, op := Op.build 100 #[(0, Operand.tmp 23), (1, Operand.tmp 24)], type := 100, pos := "ref.go:69", after := #[{ on := 5, ground := Ground.data }, { on := 6, ground := Ground.data }], guard := none }) rfl (fun wA7 hA7 K hK => ?_) AllReadyU.nil
   refine step_build_write rfl (.tmp 23) (.tmp 24) rfl k b HBL.out rfl rfl ?_
   have HA7 := Lib.hid hA7
   have HS7 : Hid (wA7.cell? ⟨g, 2, none⟩ = some (.slice a q c) ∧ wA7.rangeAt gb 0 (bvs b)) := ⟨BL.cell hA7 HC2.out, fun j v hv => BL.cell hA7 (HRB.out j v hv)⟩
   refine hK.out _ _ (BL wA7) (⟨fun x h => ⟨BL.cell h HS7.out.1, fun j v hv => BL.cell h (HS7.out.2 j v hv)⟩, fun _ _ h hb => Below.next h hb⟩ : Cls (fun x => x.cell? ⟨g, 2, none⟩ = some (.slice a q c) ∧ x.rangeAt gb 0 (bvs b)) (BL wA7)) (Below.refl _ _) ?_
   clear hK K
   try simp only [Act.put, zA, zB, zC]
   refine wpAnyU_ready (rs := [8]) (by kernel_rfl) (by simp) ?_
   refine AllReadyU.cons (o := { dst := some 26, op := Op.buildSlice 76 1 #[(0, Operand.tmp 25)], type := 76, pos := "ref.go:69", after := #[{ on := 7, ground := Ground.data }], guard := none }) rfl (fun wA8 hA8 K hK => ?_) AllReadyU.nil
   have hone : Rs encW 65 (wA8.alloc (.cells (fW (k, b)).toArray 100)) (.slice (some ⟨wA8.heap.size, 0, none⟩) 1 1) [(k, b)] := by
    have h9 := Rs.one encW_len wA8 (k, b) 100
    rw [encW_fW HBL.out] at h9
    exact h9
   refine step_lay_write rfl (.tmp 25) rfl (fW (k, b)) (fW_length HBL.out) rfl ?_
   have hWb : BL W (wA8.alloc (.cells (fW (k, b)).toArray 100)) := Below.alloc (HA7.out.next hA8) (Below.size (HA7.out.next hA8)) _
   obtain ⟨wb, hwb⟩ : ∃ z, z = wA8.alloc (.cells (fW (k, b)).toArray 100) := ⟨_, rfl⟩
   rw [← hwb] at hone hWb ⊢
   obtain ⟨gl, hgl⟩ : ∃ z, z = wA8.heap.size := ⟨_, rfl⟩
   rw [← hgl] at hone ⊢
   have HONE := Lib.hid hone
   have HWB := Lib.hid hWb
   have HS8 : Hid (wb.cell? ⟨g, 2, none⟩ = some (.slice a q c) ∧ wb.rangeAt gb 0 (bvs b)) := ⟨BL.cell HWB.out HC2.out, fun j v hv => BL.cell HWB.out (HRB.out j v hv)⟩
   refine hK.out _ _ (BL wb) (⟨fun x h => ⟨BL.cell h HS8.out.1, fun j v hv => BL.cell h (HS8.out.2 j v hv)⟩, fun _ _ h hb => Below.next h hb⟩ : Cls (fun x => x.cell? ⟨g, 2, none⟩ = some (.slice a q c) ∧ x.rangeAt gb 0 (bvs b)) (BL wb)) (Below.refl _ _) ?_
   clear hone hWb hwb hgl
   clear hK K
   try simp only [Act.put, zA, zB, zC]
   refine wpAnyU_ready (rs := [9]) (by kernel_rfl) (by simp) ?_
   refine AllReadyU.cons (o := { dst := some 27, op := Op.call { callee := Callee.builtin Builtin.append, args := #[Operand.tmp 22, Operand.tmp 26], argTypes := #[76, 76] }, type := 76, pos := "ref.go:69", after := #[{ on := 4, ground := Ground.data }, { on := 8, ground := Ground.data }], guard := none }) rfl (fun wA9 hA9 K hK => ?_) AllReadyU.nil
   have hpA := HP1.out.below (HWB.out.next hA9)
   have hrs := HONE.out.mono hA9
   refine step_append_rowsP (v := .slice a q c) (vx := .slice (some ⟨gl, 0, none⟩) 1 1) rfl (.tmp 22) (.tmp 26) 76 rfl (L := D1.op) (M := [(k, b)]) (base := 0) elem_write rfl rfl hpA.ho hrs encW_one (by have := HF1.out; simp; omega) (by decide) (Nat.zero_le _) ?_
   intro a9 n9 c9 w9 Hn9 ho9 hg9 hat9 _
   have hk9 : Kept (PS g gs (.slice a q c)) W w9 := (((Kept.of_below (HWB.out.next hA9)).weaken (fun _ e => e.elim)).trans (Kept.of_grown hg9) (fun _ _ e => .inr (.inr e)))
   have hgw : PMem (w9.setCell ⟨g, 2, none⟩ (.slice a9 n9 c9)) g gs (.slice a9 n9 c9) n (dPut D1 k b) := hpA.push HKN.out HBL.out HF1.out ho9 hg9
   have hcell : w9.cell? ⟨g, 2, none⟩ = some (.slice a q c) := (hpA.hd.keptJ (Kept.of_grown hg9) (fun e => (hpA.own e).1 rfl)).cell rfl
   have hfr9 : w9.frozen? ⟨g, 2, none⟩ = false := (hpA.hd.keptJ (Kept.of_grown hg9) (fun e => (hpA.own e).1 rfl)).frozen 2
   have hown9 : ∀ z, (Value.slice a9 n9 c9).ownBlock = some z → (Value.slice a q c).ownBlock = some z ∨ W.heap.size ≤ z := fun z hz => by
    rcases hat9.out with e | e
    ·
     exact .inl (e.symm.trans hz)
    ·
     have h2 := e.symm.trans hz
     simp only [Option.some.injEq] at h2
     have := Below.size (HWB.out.next hA9)
     exact .inr (by omega)
   have HK9 := Lib.hid hk9
   have HO9 := Lib.hid ho9
   have HC9 := Lib.hid hcell
   have HF9 := Lib.hid hfr9
   have HOW9 := Lib.hid hown9
   have HG9 := Lib.hid hg9
   have HPA := Lib.hid hpA
   have HA9 := Lib.hid hA9
   have hW9 : BL W w9 → BL W w9 := fun h => h
   have HS9 : Hid (w9.cell? ⟨g, 2, none⟩ = some (.slice a q c) ∧ w9.rangeAt gb 0 (bvs b)) := ⟨HC9.out, ((HBB.out.below (HWB.out.next hA9)).keptJ (Kept.of_grown hg9) (fun e => HGB.out (.inr (.inr e)))).hc.bytes⟩
   refine hK.out _ _ (BL w9) (⟨fun x h => ⟨BL.cell h HS9.out.1, fun j v hv => BL.cell h (HS9.out.2 j v hv)⟩, fun _ _ h hb => Below.next h hb⟩ : Cls (fun x => x.cell? ⟨g, 2, none⟩ = some (.slice a q c) ∧ x.rangeAt gb 0 (bvs b)) (BL w9)) (Below.refl _ _) ?_
   clear hpA hrs Hn9 ho9 hg9 hat9 hk9 hgw hcell hfr9 hown9 hW9
   clear hK K
   try simp only [Act.put, zA, zB, zC]
   refine wpAnyU_take (i := 10) (oi := { dst := some 28, op := Op.nilCheck (Operand.tmp 18), type := 0, pos := "ref.go:69", after := #[{ on := 0, ground := Ground.data }, { on := 0, ground := Ground.phase }, { on := 1, ground := Ground.phase }, { on := 2, ground := Ground.phase }, { on := 3, ground := Ground.phase }, { on := 4, ground := Ground.phase }, { on := 5, ground := Ground.phase }, { on := 6, ground := Ground.phase }, { on := 7, ground := Ground.phase }, { on := 8, ground := Ground.phase }, { on := 9, ground := Ground.phase }], guard := none }) (v := (.pointer (some ⟨g, 0, none⟩))) rfl (by kernel_rfl) (by kernel_rfl) (by kernel_rfl) (by kernel_rfl) (by kernel_rfl) (fun _ _ _ h => h) (⟨fun x h => ⟨BL.cell h HS9.out.1, fun j v hv => BL.cell h (HS9.out.2 j v hv)⟩, fun _ _ h hb => Below.next h hb⟩ : Cls (fun x => x.cell? ⟨g, 2, none⟩ = some (.slice a q c) ∧ x.rangeAt gb 0 (bvs b)) (BL w9)) ?_ ?_
   ·
    refine Or.inl ⟨rfl, fun w hSw => ?_⟩
    exact EffR.same (by go_simp)
   try simp only [Act.put, zA, zB, zC]
   refine wpAnyU_take (i := 11) (oi := { dst := some 29, op := Op.fieldAddr 78 (Operand.tmp 28) 2, type := 0, pos := "ref.go:69", after := #[{ on := 10, ground := Ground.data }, { on := 0, ground := Ground.phase }, { on := 1, ground := Ground.phase }, { on := 2, ground := Ground.phase }, { on := 3, ground := Ground.phase }, { on := 4, ground := Ground.phase }, { on := 5, ground := Ground.phase }, { on := 6, ground := Ground.phase }, { on := 7, ground := Ground.phase }, { on := 8, ground := Ground.phase }, { on := 9, ground := Ground.phase }], guard := none }) (v := (.pointer (some ⟨g, 2, none⟩))) rfl (by kernel_rfl) (by kernel_rfl) (by kernel_rfl) (by kernel_rfl) (by kernel_rfl) (fun _ _ _ h => h) (⟨fun x h => ⟨BL.cell h HS9.out.1, fun j v hv => BL.cell h (HS9.out.2 j v hv)⟩, fun _ _ h hb => Below.next h hb⟩ : Cls (fun x => x.cell? ⟨g, 2, none⟩ = some (.slice a q c) ∧ x.rangeAt gb 0 (bvs b)) (BL w9)) ?_ ?_
   ·
    refine Or.inl ⟨rfl, fun w hSw => ?_⟩
    exact EffR.same (by go_simp)
   try simp only [Act.put, zA, zB, zC]
   refine wpAnyU_last (o := { dst := none, op := Op.store 76 (Operand.tmp 29) (Operand.tmp 27), type := 0, pos := "ref.go:69", after := #[{ on := 11, ground := Ground.data }, { on := 9, ground := Ground.data }, { on := 9, ground := Ground.chain }, { on := 0, ground := Ground.phase }, { on := 1, ground := Ground.phase }, { on := 2, ground := Ground.phase }, { on := 3, ground := Ground.phase }, { on := 4, ground := Ground.phase }, { on := 5, ground := Ground.phase }, { on := 6, ground := Ground.phase }, { on := 7, ground := Ground.phase }, { on := 8, ground := Ground.phase }, { on := 9, ground := Ground.phase }], guard := none }) (by kernel_rfl) (by kernel_rfl) rfl (fun w1x hb1 K hK => ?_)
   have hpw := HPA.out.below (Below.refl _ _)
   have ho9 := OwnR.below HO9.out hb1
   have c2 := BL.cell hb1 HC9.out
   have f2 : w1x.frozen? ⟨g, 2, none⟩ = false := (Below.frozen hb1 (World.block_lt_of_cell? _ _ HC9.out)).trans HF9.out
   have hpush := PMem.push2 HPA.out HKN.out HBL.out HF1.out HO9.out HG9.out hb1
   have hkF : Kept (PS g gs (.slice a q c)) W (w1x.setCell ⟨g, 2, none⟩ (.slice a9 n9 c9)) := (HK9.out.next hb1).trans (keptG w1x g 2 (.slice a9 n9 c9)) (fun _ _ e => .inl e)
   have HPU := Lib.hid hpush
   have HKF := Lib.hid hkF
   clear hpw ho9 hpush hkF
   go_simp
   refine hK.out _ _ ?_
   clear hK K
   try simp only [Act.put]
   clear c2 f2
   obtain ⟨wF, hwF⟩ : ∃ z, z = w1x.setCell ⟨g, 2, none⟩ (.slice a9 n9 c9) := ⟨_, rfl⟩
   rw [← hwF] at HPU HKF ⊢
   clear hwF hb1
   cases lb with
   | true =>
    go_wp2_with fail
    go_ret
    exact ⟨by rw [HRES.out]; rfl, by rw [HRES.out]; exact ⟨_, HPU.out, HKW.out.trans HKF.out (fun _ _ e => e), (fun z hz => (HOW9.out z hz).imp id (fun e => Nat.le_trans hwsz e))⟩⟩
   | false =>
    go_wp2_with fail
    go_ret
    exact ⟨by rw [HRES.out]; rfl, by rw [HRES.out]; exact ⟨_, HPU.out, HKW.out.trans HKF.out (fun _ _ e => e), (fun z hz => (HOW9.out z hz).imp id (fun e => Nat.le_trans hwsz e))⟩⟩
  ·
   rw [decide_eq_false hin] at hbl
   have hr : dWriteR n D at_ b = (3, D) := by
    have h3 : dRight n D at_ = 3 := by unfold dRight; rw [if_neg (by rw [← ho]; decide), if_pos (by omega)]
    unfold dWriteR
    rw [h3, if_neg (by decide)]
   have HR := Lib.hid hr
   have HA := Lib.hid hA
   have HBA := Lib.hid hbA
   clear h hA hBox hbA ho hr hin
   go_enter Try.func55, Try.ntmps55
   go_wp2_with fail
   refine hbl.mono ?_
   clear hbl
   rintro e w1 ⟨rfl, rfl⟩
   go_wp2_with fail
   go_ret
   rw [HR.out]
   exact ⟨rfl, _, HA.out, (Kept.of_below HBA.out).weaken (fun _ e => e.elim), fun _ e => .inl e⟩
end Cam
