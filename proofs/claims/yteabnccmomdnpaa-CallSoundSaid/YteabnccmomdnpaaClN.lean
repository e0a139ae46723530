import Derived.Test.YteabnccmomdnpaaClH
import Derived.Test.YteabnccmomdnpaaClD
import Derived.Test.YteabnccmomdnpaaUni
/- cambistref15.Calls. -/
namespace Cam
open Go Go.RowKit Go.Proofs

theorem okAt_ref {l : List CT} {k : Nat} (hk : k < l.length) {cw cc ca ct : Int} (he : l[k] = ⟨cw, cc, ca, ct⟩) :
    okAt l k = (decide ((1 : Int) ≤ cw ∧ cw ≤ 16) && decide ((0 : Int) ≤ cc ∧ cc ≤ 2) && decide ((1 : Int) ≤ ca ∧ ca ≤ 4611686018427387904) && decide ((0 : Int) ≤ ct ∧ ct ≤ 1099511627776) &&
      (decide (k = 0) || decide (cmpK (l.getD (k - 1) ct0) cw cc < 0))) := by
  unfold okAt okB rightC rightB
  rw [getD_eq hk, he]
  simp only
  congr 1
  rw [Bool.eq_iff_iff]
  simp only [Bool.and_eq_true, decide_eq_true_eq]
  omega
theorem cmpK_less (c : CT) (who cur : Int) : decide (cmpK c who cur < 0) = dLess c.who c.cur who cur := by
  unfold dLess
  apply decide_eq_decide.2
  unfold cmpK sgn
  simp only [orL]
  grind
def isOkB (l : List CT) : Bool := decide (chkE l = 0)
theorem isOk_bad {l : List CT} {k : Nat} (hk : k < l.length) (h : okAt l k = false) : isOkB l = false := by
  unfold isOkB
  rw [chkE_bad hk h]
  rfl
theorem isOk_ok {l : List CT} (h : ∀ k, k < l.length → okAt l k = true) : isOkB l = true := by
  unfold isOkB
  rw [chkE_ok h]
  rfl
set_option maxRecDepth 100000 in
set_option maxHeartbeats 6400000 in
theorem rCalls_any (w : World) (v : Value) (l : List CT) (h : Cs w v l) (hl : l.length ≤ 100000) :
    Calls Try.prog 14 #[v] w fun e w' => e = .returned (.bool (isOkB l)) ∧ Below w.heap.size w w' := by
  obtain ⟨av, cap, rfl, hcap, hm⟩ := h.shape
  obtain ⟨n, hn⟩ : ∃ n, n = l.length := ⟨_, rfl⟩
  have HN := Lib.hid hn
  rw [← hn] at hcap hl ⊢
  rw [← hn] at h
  clear hn
  go_enter Try.func14, Try.ntmps14
  go_wp2_with fail
  go_loopw [3] (fun i wr => ∃ k : Nat, k ≤ n ∧ i = .int .i64 k ∧ Hid (∀ q, q < k → okAt l q = true) ∧ Below w.heap.size w wr) (fun i _ => n - (intOf i).toNat)
  case atStart => exact ⟨0, Nat.zero_le _, rfl, fun q hq => by omega, Below.refl _ _⟩
  case round =>
    obtain ⟨k, hk, rfl, HO, hbel⟩ := hrel
    by_cases hlt : k < n
    · have hkl : k < l.length := by have := HN.out; omega
      obtain ⟨bl, off, rfl, _, hc⟩ := Cs.at4 (h.mono hbel) (by omega)
      obtain ⟨c, hcx⟩ : ∃ c, c = l[k] := ⟨_, rfl⟩
      obtain ⟨hc0, hc1, hc2, hc3⟩ := hc k hkl
      rw [← hcx] at hc0 hc1 hc2 hc3
      have HBAD0 : Hid (okAt l k = false → isOkB l = false) := isOk_bad hkl
      have HOK0 : Hid (okAt l k = true → ∀ q, q < k + 1 → okAt l q = true) := fun h q hq => by
        by_cases e : q = k
        · rw [e]; exact h
        · exact HO.out q (by omega)
      obtain ⟨cw, cc, ca, ct⟩ := c
      simp only at hc0 hc1 hc2 hc3
      have hat := okAt_ref hkl hcx.symm
      have cWho := fun w => rWho_any w cw
      have cCur := fun w => rCur_any w cc
      have cAmt := fun w => within15_any w ca 1 4611686018427387904
      have cAt := fun w => within15_any w ct 0 1099511627776
      obtain ⟨bw, hbw⟩ : ∃ b, b = decide ((1 : Int) ≤ cw ∧ cw ≤ 16) := ⟨_, rfl⟩
      obtain ⟨bc, hbc⟩ : ∃ b, b = decide ((0 : Int) ≤ cc ∧ cc ≤ 2) := ⟨_, rfl⟩
      obtain ⟨ba, hba⟩ : ∃ b, b = decide ((1 : Int) ≤ ca ∧ ca ≤ 4611686018427387904) := ⟨_, rfl⟩
      obtain ⟨bt, hbt⟩ : ∃ b, b = decide ((0 : Int) ≤ ct ∧ ct ≤ 1099511627776) := ⟨_, rfl⟩
      rw [← hbw] at cWho hat
      rw [← hbc] at cCur hat
      rw [← hba] at cAmt hat
      rw [← hbt] at cAt hat
      clear hbw hbc hba hbt
      have hbW := hbel.alloc hbel.size (.cells #[.int .i64 cw, .int .i64 cc, .int .i64 ca, .int .i64 ct] 28)
      have hn0 := heap_alloc_new wr (.cells #[.int .i64 cw, .int .i64 cc, .int .i64 ca, .int .i64 ct] 28)
      have hcl : ∀ j u, #[Value.int .i64 cw, .int .i64 cc, .int .i64 ca, .int .i64 ct][j]? = some u → (wr.alloc (.cells #[.int .i64 cw, .int .i64 cc, .int .i64 ca, .int .i64 ct] 28)).cell? ⟨wr.heap.size, j, none⟩ = some u := by
        intro j u hu
        unfold World.cell?
        rw [hn0]
        exact hu
      have hpv : ∀ q, k = q + 1 → ∃ p : CT, l.getD q ct0 = p ∧ (wr.alloc (.cells #[.int .i64 cw, .int .i64 cc, .int .i64 ca, .int .i64 ct] 28)).cell? ⟨bl, off + q * 4, none⟩ = some (.int .i64 p.who) ∧ (wr.alloc (.cells #[.int .i64 cw, .int .i64 cc, .int .i64 ca, .int .i64 ct] 28)).cell? ⟨bl, off + q * 4 + 1, none⟩ = some (.int .i64 p.cur) ∧ (wr.alloc (.cells #[.int .i64 cw, .int .i64 cc, .int .i64 ca, .int .i64 ct] 28)).cell? ⟨bl, off + q * 4 + 2, none⟩ = some (.int .i64 p.amt) := by
        intro q hq
        obtain ⟨p0, p1, p2, p3⟩ := hc q (by omega)
        have c : ∀ {p : Addr} {x : Value}, wr.cell? p = some x → (wr.alloc (.cells #[.int .i64 cw, .int .i64 cc, .int .i64 ca, .int .i64 ct] 28)).cell? p = some x := fun h => (((Below.refl _ wr).alloc (Nat.le_refl _) _).cell (World.block_lt_of_cell? wr _ h)).trans h
        exact ⟨_, getD_eq (by omega), c p0, c p1, c p2⟩
      have HPV := Lib.hid hpv
      have HAT := Lib.hid hat
      have HBW := Lib.hid hbW
      have HCL := Lib.hid hcl
      clear hc hcx hcl hn0 hbW hbel hpv h hat HO
      go_wp2_with fail
      clear hc0 hc1 hc2 hc3
      have hc0 := HCL.out 0 _ rfl
      have hc1 := HCL.out 1 _ rfl
      have hc2 := HCL.out 2 _ rfl
      have hc3 := HCL.out 3 _ rfl
      clear HCL
      generalize hW : (wr.alloc (.cells #[.int .i64 cw, .int .i64 cc, .int .i64 ca, .int .i64 ct] 28)) = W at *
      clear hW
      generalize wr.heap.size = gc at *
      cases k with
      | zero =>
        clear HPV
        rw [show (decide (0 = 0) : Bool) = true from rfl, Bool.true_or, Bool.and_true] at HAT
        push_cast at *
        refine wp_region_bl 41 (by kernel_rfl) ?_
        refine wpAnyU_take (i := 0) (oi := { dst := some 15, op := Op.fieldAddr 28 (Operand.tmp 4) 0, type := 0, pos := "ref.go:261", after := #[], guard := none }) (v := (.pointer (some ⟨gc, 0, none⟩))) rfl (by kernel_rfl) (by kernel_rfl) (by kernel_rfl) (by kernel_rfl) (by kernel_rfl) (fun _ _ _ h => h) (BL.cls W) ?_ ?_
        · refine Or.inl ⟨rfl, fun w hSw => ?_⟩
          exact EffR.same (by go_simp)
        try simp only [Act.put, List.setIfInBounds_toArray, List.set_cons_zero, List.set_cons_succ]
        refine wpAnyU_take (i := 1) (oi := { dst := some 16, op := Op.fieldAddr 26 (Operand.tmp 15) 0, type := 0, pos := "ref.go:261", after := #[{ on := 0, ground := Ground.data }], guard := none }) (v := (.pointer (some ⟨gc, 0, none⟩))) rfl (by kernel_rfl) (by kernel_rfl) (by kernel_rfl) (by kernel_rfl) (by kernel_rfl) (fun _ _ _ h => h) (BL.cls W) ?_ ?_
        · refine Or.inl ⟨rfl, fun w hSw => ?_⟩
          exact EffR.same (by go_simp)
        try simp only [Act.put, List.setIfInBounds_toArray, List.set_cons_zero, List.set_cons_succ]
        refine wpAnyU_take (i := 2) (oi := { dst := some 17, op := Op.load 3 (Operand.tmp 16), type := 3, pos := "ref.go:261", after := #[{ on := 1, ground := Ground.data }], guard := none }) (v := (.int .i64 cw)) rfl (by kernel_rfl) (by kernel_rfl) (by kernel_rfl) (by kernel_rfl) (by kernel_rfl) (fun _ _ _ h => h) (BL.cls W) ?_ ?_
        · refine Or.inl ⟨rfl, fun w hSw => ?_⟩
          have e0 := BL.cell hSw hc0
          exact EffR.same (by go_simp)
        try simp only [Act.put, List.setIfInBounds_toArray, List.set_cons_zero, List.set_cons_succ]
        refine wpAnyU_take (i := 3) (oi := { dst := some 18, op := Op.call { callee := Callee.value (Operand.func 28), args := #[Operand.tmp 17], argTypes := #[3] }, type := 4, pos := "ref.go:261", after := #[{ on := 2, ground := Ground.data }], guard := none }) (v := (.bool bw)) rfl (by kernel_rfl) (by kernel_rfl) (by kernel_rfl) (by kernel_rfl) (by kernel_rfl) (fun _ _ _ h => h) (BL.cls W) ?_ ?_
        · refine Or.inl ⟨rfl, fun w hSw => ?_⟩
          go_simp
          show Calls _ _ _ _ _
          refine (cWho _).mono ?_
          rintro e w1 ⟨rfl, rfl⟩
          exact ⟨rfl, Below.refl _ _⟩
        try simp only [Act.put, List.setIfInBounds_toArray, List.set_cons_zero, List.set_cons_succ]
        refine wpAnyU_take (i := 4) (oi := { dst := some 19, op := Op.unOp UnOp.not 4 (Operand.tmp 18), type := 4, pos := "ref.go:261", after := #[{ on := 3, ground := Ground.data }], guard := none }) (v := (.bool (!bw))) rfl (by kernel_rfl) (by kernel_rfl) (by kernel_rfl) (by kernel_rfl) (by kernel_rfl) (fun _ _ _ h => h) (BL.cls W) ?_ ?_
        · refine Or.inl ⟨rfl, fun w hSw => ?_⟩
          exact EffR.same (by go_simp)
        try simp only [Act.put, List.setIfInBounds_toArray, List.set_cons_zero, List.set_cons_succ]
        refine wpAnyU_take (i := 5) (oi := { dst := some 20, op := Op.move (Operand.tmp 19), type := 4, pos := "ref.go:261", after := #[{ on := 4, ground := Ground.data }, { on := 3, ground := Ground.chain }], guard := none }) (v := (.bool (!bw))) rfl (by kernel_rfl) (by kernel_rfl) (by kernel_rfl) (by kernel_rfl) (by kernel_rfl) (fun _ _ _ h => h) (BL.cls W) ?_ ?_
        · refine Or.inl ⟨rfl, fun w hSw => ?_⟩
          exact EffR.same (by go_simp)
        try simp only [Act.put, List.setIfInBounds_toArray, List.set_cons_zero, List.set_cons_succ]
        refine wpAnyU_take (i := 6) (oi := { dst := some 21, op := Op.fieldAddr 28 (Operand.tmp 4) 0, type := 0, pos := "ref.go:261", after := #[{ on := 5, ground := Ground.guard }], guard := some (5, false) }) (v := (cond ((!((!bw)))) (.pointer (some ⟨gc, 0, none⟩)) undef)) rfl (by kernel_rfl) (by kernel_rfl) (by kernel_rfl) (by kernel_rfl) (by kernel_rfl) (fun _ _ _ h => h) (BL.cls W) ?_ ?_
        · cases bw <;> first | exact Or.inr ⟨rfl, rfl⟩ | (refine Or.inl ⟨rfl, fun w hSw => ?_⟩; exact EffR.same (by go_simp))
        try simp only [Act.put, List.setIfInBounds_toArray, List.set_cons_zero, List.set_cons_succ]
        refine wpAnyU_take (i := 7) (oi := { dst := some 22, op := Op.fieldAddr 26 (Operand.tmp 21) 1, type := 0, pos := "ref.go:261", after := #[{ on := 6, ground := Ground.data }, { on := 5, ground := Ground.guard }], guard := some (5, false) }) (v := (cond ((!((!bw)))) (.pointer (some ⟨gc, 1, none⟩)) undef)) rfl (by kernel_rfl) (by kernel_rfl) (by kernel_rfl) (by kernel_rfl) (by kernel_rfl) (fun _ _ _ h => h) (BL.cls W) ?_ ?_
        · cases bw <;> first | exact Or.inr ⟨rfl, rfl⟩ | (refine Or.inl ⟨rfl, fun w hSw => ?_⟩; exact EffR.same (by go_simp))
        try simp only [Act.put, List.setIfInBounds_toArray, List.set_cons_zero, List.set_cons_succ]
        refine wpAnyU_take (i := 8) (oi := { dst := some 23, op := Op.load 3 (Operand.tmp 22), type := 3, pos := "ref.go:261", after := #[{ on := 7, ground := Ground.data }, { on := 5, ground := Ground.guard }], guard := some (5, false) }) (v := (cond ((!((!bw)))) (.int .i64 cc) undef)) rfl (by kernel_rfl) (by kernel_rfl) (by kernel_rfl) (by kernel_rfl) (by kernel_rfl) (fun _ _ _ h => h) (BL.cls W) ?_ ?_
        · cases bw <;> first | exact Or.inr ⟨rfl, rfl⟩ | (refine Or.inl ⟨rfl, fun w hSw => ?_⟩; have e0 := BL.cell hSw hc1; exact EffR.same (by go_simp))
        try simp only [Act.put, List.setIfInBounds_toArray, List.set_cons_zero, List.set_cons_succ]
        refine wpAnyU_take (i := 9) (oi := { dst := some 24, op := Op.call { callee := Callee.value (Operand.func 29), args := #[Operand.tmp 23], argTypes := #[3] }, type := 4, pos := "ref.go:261", after := #[{ on := 8, ground := Ground.data }, { on := 5, ground := Ground.chain }, { on := 5, ground := Ground.guard }], guard := some (5, false) }) (v := (cond ((!((!bw)))) (.bool bc) undef)) rfl (by kernel_rfl) (by kernel_rfl) (by kernel_rfl) (by kernel_rfl) (by kernel_rfl) (fun _ _ _ h => h) (BL.cls W) ?_ ?_
        · cases bw <;> first | exact Or.inr ⟨rfl, rfl⟩ | (refine Or.inl ⟨rfl, fun w hSw => ?_⟩; go_simp; show Calls _ _ _ _ _; refine (cCur _).mono ?_; rintro e w1 ⟨rfl, rfl⟩; exact ⟨rfl, Below.refl _ _⟩)
        try simp only [Act.put, List.setIfInBounds_toArray, List.set_cons_zero, List.set_cons_succ]
        refine wpAnyU_take (i := 10) (oi := { dst := some 25, op := Op.unOp UnOp.not 4 (Operand.tmp 24), type := 4, pos := "ref.go:261", after := #[{ on := 9, ground := Ground.data }, { on := 5, ground := Ground.guard }], guard := some (5, false) }) (v := (cond ((!((!bw)))) (.bool (!bc)) undef)) rfl (by kernel_rfl) (by kernel_rfl) (by kernel_rfl) (by kernel_rfl) (by kernel_rfl) (fun _ _ _ h => h) (BL.cls W) ?_ ?_
        · cases bw <;> first | exact Or.inr ⟨rfl, rfl⟩ | (refine Or.inl ⟨rfl, fun w hSw => ?_⟩; exact EffR.same (by go_simp))
        try simp only [Act.put, List.setIfInBounds_toArray, List.set_cons_zero, List.set_cons_succ]
        obtain ⟨x11, hx11⟩ : ∃ b : Bool, b = ((!bw) || (!bc)) := ⟨_, rfl⟩
        have HX11 := Lib.hid hx11
        clear hx11
        refine wpAnyU_take (i := 11) (oi := { dst := some 26, op := Op.pick (Operand.tmp 20) (Operand.const (Value.bool true)) (Operand.tmp 25), type := 4, pos := "ref.go:261", after := #[{ on := 5, ground := Ground.data }, { on := 10, ground := Ground.data }], guard := none }) (v := (.bool x11)) rfl (by kernel_rfl) (by kernel_rfl) (by kernel_rfl) (by kernel_rfl) (by kernel_rfl) (fun _ _ _ h => h) (BL.cls W) ?_ ?_
        · cases bw <;> cases bc <;> first | exact Or.inr ⟨rfl, rfl⟩ | (refine Or.inl ⟨rfl, fun w hSw => ?_⟩; have hx := HX11.out; simp at hx; subst hx; exact EffR.same (by go_simp))
        try simp only [Act.put, List.setIfInBounds_toArray, List.set_cons_zero, List.set_cons_succ]
        refine wpAnyU_take (i := 12) (oi := { dst := some 27, op := Op.move (Operand.tmp 26), type := 4, pos := "ref.go:261", after := #[{ on := 11, ground := Ground.data }, { on := 9, ground := Ground.chain }], guard := none }) (v := (.bool x11)) rfl (by kernel_rfl) (by kernel_rfl) (by kernel_rfl) (by kernel_rfl) (by kernel_rfl) (fun _ _ _ h => h) (BL.cls W) ?_ ?_
        · refine Or.inl ⟨rfl, fun w hSw => ?_⟩
          exact EffR.same (by go_simp)
        try simp only [Act.put, List.setIfInBounds_toArray, List.set_cons_zero, List.set_cons_succ]
        refine wpAnyU_take (i := 13) (oi := { dst := some 28, op := Op.fieldAddr 28 (Operand.tmp 4) 0, type := 0, pos := "ref.go:261", after := #[{ on := 12, ground := Ground.guard }], guard := some (12, false) }) (v := (cond ((!(x11))) (.pointer (some ⟨gc, 0, none⟩)) undef)) rfl (by kernel_rfl) (by kernel_rfl) (by kernel_rfl) (by kernel_rfl) (by kernel_rfl) (fun _ _ _ h => h) (BL.cls W) ?_ ?_
        · cases x11 <;> first | exact Or.inr ⟨rfl, rfl⟩ | (refine Or.inl ⟨rfl, fun w hSw => ?_⟩; exact EffR.same (by go_simp))
        try simp only [Act.put, List.setIfInBounds_toArray, List.set_cons_zero, List.set_cons_succ]
        refine wpAnyU_take (i := 14) (oi := { dst := some 29, op := Op.fieldAddr 26 (Operand.tmp 28) 2, type := 0, pos := "ref.go:261", after := #[{ on := 13, ground := Ground.data }, { on := 12, ground := Ground.guard }], guard := some (12, false) }) (v := (cond ((!(x11))) (.pointer (some ⟨gc, 2, none⟩)) undef)) rfl (by kernel_rfl) (by kernel_rfl) (by kernel_rfl) (by kernel_rfl) (by kernel_rfl) (fun _ _ _ h => h) (BL.cls W) ?_ ?_
        · cases x11 <;> first | exact Or.inr ⟨rfl, rfl⟩ | (refine Or.inl ⟨rfl, fun w hSw => ?_⟩; exact EffR.same (by go_simp))
        try simp only [Act.put, List.setIfInBounds_toArray, List.set_cons_zero, List.set_cons_succ]
        refine wpAnyU_take (i := 15) (oi := { dst := some 30, op := Op.load 3 (Operand.tmp 29), type := 3, pos := "ref.go:261", after := #[{ on := 14, ground := Ground.data }, { on := 12, ground := Ground.guard }], guard := some (12, false) }) (v := (cond ((!(x11))) (.int .i64 ca) undef)) rfl (by kernel_rfl) (by kernel_rfl) (by kernel_rfl) (by kernel_rfl) (by kernel_rfl) (fun _ _ _ h => h) (BL.cls W) ?_ ?_
        · cases x11 <;> first | exact Or.inr ⟨rfl, rfl⟩ | (refine Or.inl ⟨rfl, fun w hSw => ?_⟩; have e0 := BL.cell hSw hc2; exact EffR.same (by go_simp))
        try simp only [Act.put, List.setIfInBounds_toArray, List.set_cons_zero, List.set_cons_succ]
        refine wpAnyU_take (i := 16) (oi := { dst := some 31, op := Op.call { callee := Callee.value (Operand.func 30), args := #[Operand.tmp 30, Operand.const (Value.int IntKind.i64 1), Operand.const (Value.int IntKind.i64 4611686018427387904)], argTypes := #[3, 3, 3] }, type := 4, pos := "ref.go:261", after := #[{ on := 15, ground := Ground.data }, { on := 12, ground := Ground.chain }, { on := 12, ground := Ground.guard }], guard := some (12, false) }) (v := (cond ((!(x11))) (.bool ba) undef)) rfl (by kernel_rfl) (by kernel_rfl) (by kernel_rfl) (by kernel_rfl) (by kernel_rfl) (fun _ _ _ h => h) (BL.cls W) ?_ ?_
        · cases x11 <;> first | exact Or.inr ⟨rfl, rfl⟩ | (refine Or.inl ⟨rfl, fun w hSw => ?_⟩; go_simp; show Calls _ _ _ _ _; refine (cAmt _).mono ?_; rintro e w1 ⟨rfl, rfl⟩; exact ⟨rfl, Below.refl _ _⟩)
        try simp only [Act.put, List.setIfInBounds_toArray, List.set_cons_zero, List.set_cons_succ]
        refine wpAnyU_take (i := 17) (oi := { dst := some 32, op := Op.unOp UnOp.not 4 (Operand.tmp 31), type := 4, pos := "ref.go:261", after := #[{ on := 16, ground := Ground.data }, { on := 12, ground := Ground.guard }], guard := some (12, false) }) (v := (cond ((!(x11))) (.bool (!ba)) undef)) rfl (by kernel_rfl) (by kernel_rfl) (by kernel_rfl) (by kernel_rfl) (by kernel_rfl) (fun _ _ _ h => h) (BL.cls W) ?_ ?_
        · cases x11 <;> first | exact Or.inr ⟨rfl, rfl⟩ | (refine Or.inl ⟨rfl, fun w hSw => ?_⟩; exact EffR.same (by go_simp))
        try simp only [Act.put, List.setIfInBounds_toArray, List.set_cons_zero, List.set_cons_succ]
        obtain ⟨x18, hx18⟩ : ∃ b : Bool, b = (x11 || (!ba)) := ⟨_, rfl⟩
        have HX18 := Lib.hid hx18
        clear hx18
        refine wpAnyU_take (i := 18) (oi := { dst := some 33, op := Op.pick (Operand.tmp 27) (Operand.const (Value.bool true)) (Operand.tmp 32), type := 4, pos := "ref.go:261", after := #[{ on := 12, ground := Ground.data }, { on := 17, ground := Ground.data }], guard := none }) (v := (.bool x18)) rfl (by kernel_rfl) (by kernel_rfl) (by kernel_rfl) (by kernel_rfl) (by kernel_rfl) (fun _ _ _ h => h) (BL.cls W) ?_ ?_
        · cases x11 <;> cases ba <;> first | exact Or.inr ⟨rfl, rfl⟩ | (refine Or.inl ⟨rfl, fun w hSw => ?_⟩; have hx := HX18.out; simp at hx; subst hx; exact EffR.same (by go_simp))
        try simp only [Act.put, List.setIfInBounds_toArray, List.set_cons_zero, List.set_cons_succ]
        refine wpAnyU_take (i := 19) (oi := { dst := some 34, op := Op.move (Operand.tmp 33), type := 4, pos := "ref.go:261", after := #[{ on := 18, ground := Ground.data }, { on := 16, ground := Ground.chain }], guard := none }) (v := (.bool x18)) rfl (by kernel_rfl) (by kernel_rfl) (by kernel_rfl) (by kernel_rfl) (by kernel_rfl) (fun _ _ _ h => h) (BL.cls W) ?_ ?_
        · refine Or.inl ⟨rfl, fun w hSw => ?_⟩
          exact EffR.same (by go_simp)
        try simp only [Act.put, List.setIfInBounds_toArray, List.set_cons_zero, List.set_cons_succ]
        refine wpAnyU_take (i := 20) (oi := { dst := some 35, op := Op.fieldAddr 28 (Operand.tmp 4) 1, type := 0, pos := "ref.go:261", after := #[{ on := 19, ground := Ground.guard }], guard := some (19, false) }) (v := (cond ((!(x18))) (.pointer (some ⟨gc, 3, none⟩)) undef)) rfl (by kernel_rfl) (by kernel_rfl) (by kernel_rfl) (by kernel_rfl) (by kernel_rfl) (fun _ _ _ h => h) (BL.cls W) ?_ ?_
        · cases x18 <;> first | exact Or.inr ⟨rfl, rfl⟩ | (refine Or.inl ⟨rfl, fun w hSw => ?_⟩; exact EffR.same (by go_simp))
        try simp only [Act.put, List.setIfInBounds_toArray, List.set_cons_zero, List.set_cons_succ]
        refine wpAnyU_take (i := 21) (oi := { dst := some 36, op := Op.load 3 (Operand.tmp 35), type := 3, pos := "ref.go:261", after := #[{ on := 20, ground := Ground.data }, { on := 19, ground := Ground.guard }], guard := some (19, false) }) (v := (cond ((!(x18))) (.int .i64 ct) undef)) rfl (by kernel_rfl) (by kernel_rfl) (by kernel_rfl) (by kernel_rfl) (by kernel_rfl) (fun _ _ _ h => h) (BL.cls W) ?_ ?_
        · cases x18 <;> first | exact Or.inr ⟨rfl, rfl⟩ | (refine Or.inl ⟨rfl, fun w hSw => ?_⟩; have e0 := BL.cell hSw hc3; exact EffR.same (by go_simp))
        try simp only [Act.put, List.setIfInBounds_toArray, List.set_cons_zero, List.set_cons_succ]
        refine wpAnyU_take (i := 22) (oi := { dst := some 37, op := Op.call { callee := Callee.value (Operand.func 30), args := #[Operand.tmp 36, Operand.const (Value.int IntKind.i64 0), Operand.const (Value.int IntKind.i64 1099511627776)], argTypes := #[3, 3, 3] }, type := 4, pos := "ref.go:261", after := #[{ on := 21, ground := Ground.data }, { on := 19, ground := Ground.chain }, { on := 19, ground := Ground.guard }], guard := some (19, false) }) (v := (cond ((!(x18))) (.bool bt) undef)) rfl (by kernel_rfl) (by kernel_rfl) (by kernel_rfl) (by kernel_rfl) (by kernel_rfl) (fun _ _ _ h => h) (BL.cls W) ?_ ?_
        · cases x18 <;> first | exact Or.inr ⟨rfl, rfl⟩ | (refine Or.inl ⟨rfl, fun w hSw => ?_⟩; go_simp; show Calls _ _ _ _ _; refine (cAt _).mono ?_; rintro e w1 ⟨rfl, rfl⟩; exact ⟨rfl, Below.refl _ _⟩)
        try simp only [Act.put, List.setIfInBounds_toArray, List.set_cons_zero, List.set_cons_succ]
        refine wpAnyU_take (i := 23) (oi := { dst := some 38, op := Op.unOp UnOp.not 4 (Operand.tmp 37), type := 4, pos := "ref.go:261", after := #[{ on := 22, ground := Ground.data }, { on := 19, ground := Ground.guard }], guard := some (19, false) }) (v := (cond ((!(x18))) (.bool (!bt)) undef)) rfl (by kernel_rfl) (by kernel_rfl) (by kernel_rfl) (by kernel_rfl) (by kernel_rfl) (fun _ _ _ h => h) (BL.cls W) ?_ ?_
        · cases x18 <;> first | exact Or.inr ⟨rfl, rfl⟩ | (refine Or.inl ⟨rfl, fun w hSw => ?_⟩; exact EffR.same (by go_simp))
        try simp only [Act.put, List.setIfInBounds_toArray, List.set_cons_zero, List.set_cons_succ]
        obtain ⟨x24, hx24⟩ : ∃ b : Bool, b = (x18 || (!bt)) := ⟨_, rfl⟩
        have HX24 := Lib.hid hx24
        clear hx24
        refine wpAnyU_take (i := 24) (oi := { dst := some 39, op := Op.pick (Operand.tmp 34) (Operand.const (Value.bool true)) (Operand.tmp 38), type := 4, pos := "ref.go:261", after := #[{ on := 19, ground := Ground.data }, { on := 23, ground := Ground.data }], guard := none }) (v := (.bool x24)) rfl (by kernel_rfl) (by kernel_rfl) (by kernel_rfl) (by kernel_rfl) (by kernel_rfl) (fun _ _ _ h => h) (BL.cls W) ?_ ?_
        · cases x18 <;> cases bt <;> first | exact Or.inr ⟨rfl, rfl⟩ | (refine Or.inl ⟨rfl, fun w hSw => ?_⟩; have hx := HX24.out; simp at hx; subst hx; exact EffR.same (by go_simp))
        try simp only [Act.put, List.setIfInBounds_toArray, List.set_cons_zero, List.set_cons_succ]
        refine wpAnyU_take (i := 25) (oi := { dst := some 40, op := Op.move (Operand.tmp 39), type := 4, pos := "ref.go:261", after := #[{ on := 24, ground := Ground.data }, { on := 22, ground := Ground.chain }], guard := none }) (v := (.bool x24)) rfl (by kernel_rfl) (by kernel_rfl) (by kernel_rfl) (by kernel_rfl) (by kernel_rfl) (fun _ _ _ h => h) (BL.cls W) ?_ ?_
        · refine Or.inl ⟨rfl, fun w hSw => ?_⟩
          exact EffR.same (by go_simp)
        try simp only [Act.put, List.setIfInBounds_toArray, List.set_cons_zero, List.set_cons_succ]
        refine wpAnyU_take (i := 26) (oi := { dst := some 41, op := Op.move (Operand.tmp 3), type := 3, pos := "ref.go:261", after := #[{ on := 25, ground := Ground.guard }], guard := some (25, false) }) (v := (cond ((!(x24))) (.int .i64 (0)) undef)) rfl (by kernel_rfl) (by kernel_rfl) (by kernel_rfl) (by kernel_rfl) (by kernel_rfl) (fun _ _ _ h => h) (BL.cls W) ?_ ?_
        · cases x24 <;> first | exact Or.inr ⟨rfl, rfl⟩ | (refine Or.inl ⟨rfl, fun w hSw => ?_⟩; exact EffR.same (by go_simp))
        try simp only [Act.put, List.setIfInBounds_toArray, List.set_cons_zero, List.set_cons_succ]
        refine wpAnyU_take (i := 27) (oi := { dst := some 42, op := Op.binOp BinOp.gtr 3 (Operand.tmp 41) (Operand.const (Value.int IntKind.i64 0)) 3, type := 4, pos := "ref.go:261", after := #[{ on := 26, ground := Ground.data }, { on := 25, ground := Ground.guard }], guard := some (25, false) }) (v := (cond ((!(x24))) (.bool false) undef)) rfl (by kernel_rfl) (by kernel_rfl) (by kernel_rfl) (by kernel_rfl) (by kernel_rfl) (fun _ _ _ h => h) (BL.cls W) ?_ ?_
        · cases x24 <;> first | exact Or.inr ⟨rfl, rfl⟩ | (refine Or.inl ⟨rfl, fun w hSw => ?_⟩; exact EffR.same (by go_simp))
        try simp only [Act.put, List.setIfInBounds_toArray, List.set_cons_zero, List.set_cons_succ]
        refine wpAnyU_take (i := 28) (oi := { dst := some 43, op := Op.move (Operand.tmp 42), type := 4, pos := "ref.go:261", after := #[{ on := 27, ground := Ground.data }, { on := 25, ground := Ground.chain }, { on := 25, ground := Ground.guard }], guard := some (25, false) }) (v := (cond ((!(x24))) (.bool false) undef)) rfl (by kernel_rfl) (by kernel_rfl) (by kernel_rfl) (by kernel_rfl) (by kernel_rfl) (fun _ _ _ h => h) (BL.cls W) ?_ ?_
        · cases x24 <;> first | exact Or.inr ⟨rfl, rfl⟩ | (refine Or.inl ⟨rfl, fun w hSw => ?_⟩; exact EffR.same (by go_simp))
        try simp only [Act.put, List.setIfInBounds_toArray, List.set_cons_zero, List.set_cons_succ]
        refine wpAnyU_take (i := 29) (oi := { dst := some 44, op := Op.move (Operand.tmp 0), type := 22, pos := "ref.go:261", after := #[{ on := 28, ground := Ground.guard }], guard := some (28, true) }) (v := undef) rfl (by kernel_rfl) (by kernel_rfl) (by kernel_rfl) (by kernel_rfl) (by kernel_rfl) (fun _ _ _ h => h) (BL.cls W) ?_ ?_
        · cases x24 <;> exact Or.inr ⟨rfl, rfl⟩
        try simp only [Act.put, List.setIfInBounds_toArray, List.set_cons_zero, List.set_cons_succ]
        refine wpAnyU_take (i := 30) (oi := { dst := some 45, op := Op.move (Operand.tmp 3), type := 3, pos := "ref.go:261", after := #[{ on := 28, ground := Ground.guard }], guard := some (28, true) }) (v := undef) rfl (by kernel_rfl) (by kernel_rfl) (by kernel_rfl) (by kernel_rfl) (by kernel_rfl) (fun _ _ _ h => h) (BL.cls W) ?_ ?_
        · cases x24 <;> exact Or.inr ⟨rfl, rfl⟩
        try simp only [Act.put, List.setIfInBounds_toArray, List.set_cons_zero, List.set_cons_succ]
        refine wpAnyU_take (i := 31) (oi := { dst := some 46, op := Op.binOp BinOp.sub 3 (Operand.tmp 45) (Operand.const (Value.int IntKind.i64 1)) 3, type := 3, pos := "ref.go:261", after := #[{ on := 30, ground := Ground.data }, { on := 28, ground := Ground.guard }], guard := some (28, true) }) (v := undef) rfl (by kernel_rfl) (by kernel_rfl) (by kernel_rfl) (by kernel_rfl) (by kernel_rfl) (fun _ _ _ h => h) (BL.cls W) ?_ ?_
        · cases x24 <;> exact Or.inr ⟨rfl, rfl⟩
        try simp only [Act.put, List.setIfInBounds_toArray, List.set_cons_zero, List.set_cons_succ]
        refine wpAnyU_take (i := 32) (oi := { dst := some 47, op := Op.indexAddr 22 (Operand.tmp 44) (Operand.tmp 46), type := 0, pos := "ref.go:261", after := #[{ on := 29, ground := Ground.data }, { on := 31, ground := Ground.data }, { on := 28, ground := Ground.guard }], guard := some (28, true) }) (v := undef) rfl (by kernel_rfl) (by kernel_rfl) (by kernel_rfl) (by kernel_rfl) (by kernel_rfl) (fun _ _ _ h => h) (BL.cls W) ?_ ?_
        · cases x24 <;> exact Or.inr ⟨rfl, rfl⟩
        try simp only [Act.put, List.setIfInBounds_toArray, List.set_cons_zero, List.set_cons_succ]
        refine wpAnyU_take (i := 33) (oi := { dst := some 48, op := Op.fieldAddr 28 (Operand.tmp 47) 0, type := 0, pos := "ref.go:261", after := #[{ on := 32, ground := Ground.data }, { on := 28, ground := Ground.guard }], guard := some (28, true) }) (v := undef) rfl (by kernel_rfl) (by kernel_rfl) (by kernel_rfl) (by kernel_rfl) (by kernel_rfl) (fun _ _ _ h => h) (BL.cls W) ?_ ?_
        · cases x24 <;> exact Or.inr ⟨rfl, rfl⟩
        try simp only [Act.put, List.setIfInBounds_toArray, List.set_cons_zero, List.set_cons_succ]
        refine wpAnyU_take (i := 34) (oi := { dst := some 49, op := Op.load 26 (Operand.tmp 48), type := 26, pos := "ref.go:261", after := #[{ on := 33, ground := Ground.data }, { on := 28, ground := Ground.guard }], guard := some (28, true) }) (v := undef) rfl (by kernel_rfl) (by kernel_rfl) (by kernel_rfl) (by kernel_rfl) (by kernel_rfl) (fun _ _ _ h => h) (BL.cls W) ?_ ?_
        · cases x24 <;> exact Or.inr ⟨rfl, rfl⟩
        try simp only [Act.put, List.setIfInBounds_toArray, List.set_cons_zero, List.set_cons_succ]
        refine wpAnyU_take (i := 35) (oi := { dst := some 50, op := Op.fieldAddr 28 (Operand.tmp 4) 0, type := 0, pos := "ref.go:261", after := #[{ on := 28, ground := Ground.guard }], guard := some (28, true) }) (v := undef) rfl (by kernel_rfl) (by kernel_rfl) (by kernel_rfl) (by kernel_rfl) (by kernel_rfl) (fun _ _ _ h => h) (BL.cls W) ?_ ?_
        · cases x24 <;> exact Or.inr ⟨rfl, rfl⟩
        try simp only [Act.put, List.setIfInBounds_toArray, List.set_cons_zero, List.set_cons_succ]
        refine wpAnyU_take (i := 36) (oi := { dst := some 51, op := Op.load 26 (Operand.tmp 50), type := 26, pos := "ref.go:261", after := #[{ on := 35, ground := Ground.data }, { on := 28, ground := Ground.guard }], guard := some (28, true) }) (v := undef) rfl (by kernel_rfl) (by kernel_rfl) (by kernel_rfl) (by kernel_rfl) (by kernel_rfl) (fun _ _ _ h => h) (BL.cls W) ?_ ?_
        · cases x24 <;> exact Or.inr ⟨rfl, rfl⟩
        try simp only [Act.put, List.setIfInBounds_toArray, List.set_cons_zero, List.set_cons_succ]
        refine wpAnyU_take (i := 37) (oi := { dst := some 52, op := Op.call { callee := Callee.value (Operand.func 31), args := #[Operand.tmp 49, Operand.tmp 51], argTypes := #[26, 26] }, type := 4, pos := "ref.go:261", after := #[{ on := 34, ground := Ground.data }, { on := 36, ground := Ground.data }, { on := 28, ground := Ground.chain }, { on := 28, ground := Ground.guard }], guard := some (28, true) }) (v := undef) rfl (by kernel_rfl) (by kernel_rfl) (by kernel_rfl) (by kernel_rfl) (by kernel_rfl) (fun _ _ _ h => h) (BL.cls W) ?_ ?_
        · cases x24 <;> exact Or.inr ⟨rfl, rfl⟩
        try simp only [Act.put, List.setIfInBounds_toArray, List.set_cons_zero, List.set_cons_succ]
        refine wpAnyU_take (i := 38) (oi := { dst := some 53, op := Op.unOp UnOp.not 4 (Operand.tmp 52), type := 4, pos := "ref.go:261", after := #[{ on := 37, ground := Ground.data }, { on := 28, ground := Ground.guard }], guard := some (28, true) }) (v := undef) rfl (by kernel_rfl) (by kernel_rfl) (by kernel_rfl) (by kernel_rfl) (by kernel_rfl) (fun _ _ _ h => h) (BL.cls W) ?_ ?_
        · cases x24 <;> exact Or.inr ⟨rfl, rfl⟩
        try simp only [Act.put, List.setIfInBounds_toArray, List.set_cons_zero, List.set_cons_succ]
        refine wpAnyU_take (i := 39) (oi := { dst := some 54, op := Op.pick (Operand.tmp 43) (Operand.tmp 53) (Operand.const (Value.bool false)), type := 4, pos := "ref.go:261", after := #[{ on := 28, ground := Ground.data }, { on := 38, ground := Ground.data }, { on := 25, ground := Ground.guard }], guard := some (25, false) }) (v := (cond ((!(x24))) (.bool false) undef)) rfl (by kernel_rfl) (by kernel_rfl) (by kernel_rfl) (by kernel_rfl) (by kernel_rfl) (fun _ _ _ h => h) (BL.cls W) ?_ ?_
        · cases x24 <;> first | exact Or.inr ⟨rfl, rfl⟩ | (refine Or.inl ⟨rfl, fun w hSw => ?_⟩; exact EffR.same (by go_simp))
        try simp only [Act.put, List.setIfInBounds_toArray, List.set_cons_zero, List.set_cons_succ]
        refine wpAnyU_take (i := 40) (oi := { dst := some 55, op := Op.pick (Operand.tmp 40) (Operand.const (Value.bool true)) (Operand.tmp 54), type := 4, pos := "ref.go:261", after := #[{ on := 25, ground := Ground.data }, { on := 39, ground := Ground.data }], guard := none }) (v := (.bool x24)) rfl (by kernel_rfl) (by kernel_rfl) (by kernel_rfl) (by kernel_rfl) (by kernel_rfl) (fun _ _ _ h => h) (BL.cls W) ?_ ?_
        · cases x24 <;> first | exact Or.inr ⟨rfl, rfl⟩ | (refine Or.inl ⟨rfl, fun w hSw => ?_⟩; exact EffR.same (by go_simp))
        try simp only [Act.put, List.setIfInBounds_toArray, List.set_cons_zero, List.set_cons_succ]
        refine wpAnyU_done (by kernel_rfl) (fun w1 hb1 => ?_) _
        have HBE := Lib.hid (HBW.out.trans (hb1.mono HBW.out.size))
        clear hb1 cWho cCur cAmt cAt hc0 hc1 hc2 hc3
        have HBAD := Lib.hid (fun h : x24 = true => HBAD0.out (by rw [HAT.out]; rw [HX24.out, HX18.out, HX11.out] at h; revert h; cases bw <;> cases bc <;> cases ba <;> cases bt <;> simp))
        have HOK := Lib.hid (fun h : x24 = false => HOK0.out (by rw [HAT.out]; rw [HX24.out, HX18.out, HX11.out] at h; revert h; cases bw <;> cases bc <;> cases ba <;> cases bt <;> simp))
        cases x24 with
        | true =>
          have HV := Lib.hid (HBAD.out rfl)
          clear HBAD HOK
          go_wp2_with fail
          go_ret
          exact ⟨by rw [HV.out]; rfl, HBE.out⟩
        | false =>
          have HV := Lib.hid (HOK.out rfl)
          clear HBAD HOK
          go_wp2_with fail
          exact ⟨⟨1, by omega, by push_cast; rfl, HV.out, HBE.out⟩, by simp [intOf]; omega⟩
      | succ q =>
        obtain ⟨p, hpe, hp0, hp1, hp2⟩ := HPV.out q rfl
        obtain ⟨pw, pc, pa, pt⟩ := p
        simp only at hp0 hp1 hp2
        have cLess := fun w => dueLess_any w pw pc pa cw cc ca
        obtain ⟨bl0, hbl0⟩ : ∃ b, b = dLess pw pc cw cc := ⟨_, rfl⟩
        rw [← hbl0] at cLess
        have HAT2 : Hid (okAt l (q + 1) = (bw && bc && ba && bt && bl0)) := by
          show _ = _
          rw [HAT.out, show q + 1 - 1 = q by omega, hpe, cmpK_less, ← hbl0]
          simp
        clear HAT hpe hbl0 HPV
        have HAT := HAT2
        clear HAT2
        have hw1 : IntKind.i64.wrap ((q : Int) + 1 - 1) = (q : Int) := by rw [IntKind.wrap_i64]; omega
        push_cast at *
        refine wp_region_bl 41 (by kernel_rfl) ?_
        refine wpAnyU_take (i := 0) (oi := { dst := some 15, op := Op.fieldAddr 28 (Operand.tmp 4) 0, type := 0, pos := "ref.go:261", after := #[], guard := none }) (v := (.pointer (some ⟨gc, 0, none⟩))) rfl (by kernel_rfl) (by kernel_rfl) (by kernel_rfl) (by kernel_rfl) (by kernel_rfl) (fun _ _ _ h => h) (BL.cls W) ?_ ?_
        · refine Or.inl ⟨rfl, fun w hSw => ?_⟩
          exact EffR.same (by go_simp)
        try simp only [Act.put, List.setIfInBounds_toArray, List.set_cons_zero, List.set_cons_succ]
        refine wpAnyU_take (i := 1) (oi := { dst := some 16, op := Op.fieldAddr 26 (Operand.tmp 15) 0, type := 0, pos := "ref.go:261", after := #[{ on := 0, ground := Ground.data }], guard := none }) (v := (.pointer (some ⟨gc, 0, none⟩))) rfl (by kernel_rfl) (by kernel_rfl) (by kernel_rfl) (by kernel_rfl) (by kernel_rfl) (fun _ _ _ h => h) (BL.cls W) ?_ ?_
        · refine Or.inl ⟨rfl, fun w hSw => ?_⟩
          exact EffR.same (by go_simp)
        try simp only [Act.put, List.setIfInBounds_toArray, List.set_cons_zero, List.set_cons_succ]
        refine wpAnyU_take (i := 2) (oi := { dst := some 17, op := Op.load 3 (Operand.tmp 16), type := 3, pos := "ref.go:261", after := #[{ on := 1, ground := Ground.data }], guard := none }) (v := (.int .i64 cw)) rfl (by kernel_rfl) (by kernel_rfl) (by kernel_rfl) (by kernel_rfl) (by kernel_rfl) (fun _ _ _ h => h) (BL.cls W) ?_ ?_
        · refine Or.inl ⟨rfl, fun w hSw => ?_⟩
          have e0 := BL.cell hSw hc0
          exact EffR.same (by go_simp)
        try simp only [Act.put, List.setIfInBounds_toArray, List.set_cons_zero, List.set_cons_succ]
        refine wpAnyU_take (i := 3) (oi := { dst := some 18, op := Op.call { callee := Callee.value (Operand.func 28), args := #[Operand.tmp 17], argTypes := #[3] }, type := 4, pos := "ref.go:261", after := #[{ on := 2, ground := Ground.data }], guard := none }) (v := (.bool bw)) rfl (by kernel_rfl) (by kernel_rfl) (by kernel_rfl) (by kernel_rfl) (by kernel_rfl) (fun _ _ _ h => h) (BL.cls W) ?_ ?_
        · refine Or.inl ⟨rfl, fun w hSw => ?_⟩
          go_simp
          show Calls _ _ _ _ _
          refine (cWho _).mono ?_
          rintro e w1 ⟨rfl, rfl⟩
          exact ⟨rfl, Below.refl _ _⟩
        try simp only [Act.put, List.setIfInBounds_toArray, List.set_cons_zero, List.set_cons_succ]
        refine wpAnyU_take (i := 4) (oi := { dst := some 19, op := Op.unOp UnOp.not 4 (Operand.tmp 18), type := 4, pos := "ref.go:261", after := #[{ on := 3, ground := Ground.data }], guard := none }) (v := (.bool (!bw))) rfl (by kernel_rfl) (by kernel_rfl) (by kernel_rfl) (by kernel_rfl) (by kernel_rfl) (fun _ _ _ h => h) (BL.cls W) ?_ ?_
        · refine Or.inl ⟨rfl, fun w hSw => ?_⟩
          exact EffR.same (by go_simp)
        try simp only [Act.put, List.setIfInBounds_toArray, List.set_cons_zero, List.set_cons_succ]
        refine wpAnyU_take (i := 5) (oi := { dst := some 20, op := Op.move (Operand.tmp 19), type := 4, pos := "ref.go:261", after := #[{ on := 4, ground := Ground.data }, { on := 3, ground := Ground.chain }], guard := none }) (v := (.bool (!bw))) rfl (by kernel_rfl) (by kernel_rfl) (by kernel_rfl) (by kernel_rfl) (by kernel_rfl) (fun _ _ _ h => h) (BL.cls W) ?_ ?_
        · refine Or.inl ⟨rfl, fun w hSw => ?_⟩
          exact EffR.same (by go_simp)
        try simp only [Act.put, List.setIfInBounds_toArray, List.set_cons_zero, List.set_cons_succ]
        refine wpAnyU_take (i := 6) (oi := { dst := some 21, op := Op.fieldAddr 28 (Operand.tmp 4) 0, type := 0, pos := "ref.go:261", after := #[{ on := 5, ground := Ground.guard }], guard := some (5, false) }) (v := (cond ((!((!bw)))) (.pointer (some ⟨gc, 0, none⟩)) undef)) rfl (by kernel_rfl) (by kernel_rfl) (by kernel_rfl) (by kernel_rfl) (by kernel_rfl) (fun _ _ _ h => h) (BL.cls W) ?_ ?_
        · cases bw <;> first | exact Or.inr ⟨rfl, rfl⟩ | (refine Or.inl ⟨rfl, fun w hSw => ?_⟩; exact EffR.same (by go_simp))
        try simp only [Act.put, List.setIfInBounds_toArray, List.set_cons_zero, List.set_cons_succ]
        refine wpAnyU_take (i := 7) (oi := { dst := some 22, op := Op.fieldAddr 26 (Operand.tmp 21) 1, type := 0, pos := "ref.go:261", after := #[{ on := 6, ground := Ground.data }, { on := 5, ground := Ground.guard }], guard := some (5, false) }) (v := (cond ((!((!bw)))) (.pointer (some ⟨gc, 1, none⟩)) undef)) rfl (by kernel_rfl) (by kernel_rfl) (by kernel_rfl) (by kernel_rfl) (by kernel_rfl) (fun _ _ _ h => h) (BL.cls W) ?_ ?_
        · cases bw <;> first | exact Or.inr ⟨rfl, rfl⟩ | (refine Or.inl ⟨rfl, fun w hSw => ?_⟩; exact EffR.same (by go_simp))
        try simp only [Act.put, List.setIfInBounds_toArray, List.set_cons_zero, List.set_cons_succ]
        refine wpAnyU_take (i := 8) (oi := { dst := some 23, op := Op.load 3 (Operand.tmp 22), type := 3, pos := "ref.go:261", after := #[{ on := 7, ground := Ground.data }, { on := 5, ground := Ground.guard }], guard := some (5, false) }) (v := (cond ((!((!bw)))) (.int .i64 cc) undef)) rfl (by kernel_rfl) (by kernel_rfl) (by kernel_rfl) (by kernel_rfl) (by kernel_rfl) (fun _ _ _ h => h) (BL.cls W) ?_ ?_
        · cases bw <;> first | exact Or.inr ⟨rfl, rfl⟩ | (refine Or.inl ⟨rfl, fun w hSw => ?_⟩; have e0 := BL.cell hSw hc1; exact EffR.same (by go_simp))
        try simp only [Act.put, List.setIfInBounds_toArray, List.set_cons_zero, List.set_cons_succ]
        refine wpAnyU_take (i := 9) (oi := { dst := some 24, op := Op.call { callee := Callee.value (Operand.func 29), args := #[Operand.tmp 23], argTypes := #[3] }, type := 4, pos := "ref.go:261", after := #[{ on := 8, ground := Ground.data }, { on := 5, ground := Ground.chain }, { on := 5, ground := Ground.guard }], guard := some (5, false) }) (v := (cond ((!((!bw)))) (.bool bc) undef)) rfl (by kernel_rfl) (by kernel_rfl) (by kernel_rfl) (by kernel_rfl) (by kernel_rfl) (fun _ _ _ h => h) (BL.cls W) ?_ ?_
        · cases bw <;> first | exact Or.inr ⟨rfl, rfl⟩ | (refine Or.inl ⟨rfl, fun w hSw => ?_⟩; go_simp; show Calls _ _ _ _ _; refine (cCur _).mono ?_; rintro e w1 ⟨rfl, rfl⟩; exact ⟨rfl, Below.refl _ _⟩)
        try simp only [Act.put, List.setIfInBounds_toArray, List.set_cons_zero, List.set_cons_succ]
        refine wpAnyU_take (i := 10) (oi := { dst := some 25, op := Op.unOp UnOp.not 4 (Operand.tmp 24), type := 4, pos := "ref.go:261", after := #[{ on := 9, ground := Ground.data }, { on := 5, ground := Ground.guard }], guard := some (5, false) }) (v := (cond ((!((!bw)))) (.bool (!bc)) undef)) rfl (by kernel_rfl) (by kernel_rfl) (by kernel_rfl) (by kernel_rfl) (by kernel_rfl) (fun _ _ _ h => h) (BL.cls W) ?_ ?_
        · cases bw <;> first | exact Or.inr ⟨rfl, rfl⟩ | (refine Or.inl ⟨rfl, fun w hSw => ?_⟩; exact EffR.same (by go_simp))
        try simp only [Act.put, List.setIfInBounds_toArray, List.set_cons_zero, List.set_cons_succ]
        obtain ⟨x11, hx11⟩ : ∃ b : Bool, b = ((!bw) || (!bc)) := ⟨_, rfl⟩
        have HX11 := Lib.hid hx11
        clear hx11
        refine wpAnyU_take (i := 11) (oi := { dst := some 26, op := Op.pick (Operand.tmp 20) (Operand.const (Value.bool true)) (Operand.tmp 25), type := 4, pos := "ref.go:261", after := #[{ on := 5, ground := Ground.data }, { on := 10, ground := Ground.data }], guard := none }) (v := (.bool x11)) rfl (by kernel_rfl) (by kernel_rfl) (by kernel_rfl) (by kernel_rfl) (by kernel_rfl) (fun _ _ _ h => h) (BL.cls W) ?_ ?_
        · cases bw <;> cases bc <;> first | exact Or.inr ⟨rfl, rfl⟩ | (refine Or.inl ⟨rfl, fun w hSw => ?_⟩; have hx := HX11.out; simp at hx; subst hx; exact EffR.same (by go_simp))
        try simp only [Act.put, List.setIfInBounds_toArray, List.set_cons_zero, List.set_cons_succ]
        refine wpAnyU_take (i := 12) (oi := { dst := some 27, op := Op.move (Operand.tmp 26), type := 4, pos := "ref.go:261", after := #[{ on := 11, ground := Ground.data }, { on := 9, ground := Ground.chain }], guard := none }) (v := (.bool x11)) rfl (by kernel_rfl) (by kernel_rfl) (by kernel_rfl) (by kernel_rfl) (by kernel_rfl) (fun _ _ _ h => h) (BL.cls W) ?_ ?_
        · refine Or.inl ⟨rfl, fun w hSw => ?_⟩
          exact EffR.same (by go_simp)
        try simp only [Act.put, List.setIfInBounds_toArray, List.set_cons_zero, List.set_cons_succ]
        refine wpAnyU_take (i := 13) (oi := { dst := some 28, op := Op.fieldAddr 28 (Operand.tmp 4) 0, type := 0, pos := "ref.go:261", after := #[{ on := 12, ground := Ground.guard }], guard := some (12, false) }) (v := (cond ((!(x11))) (.pointer (some ⟨gc, 0, none⟩)) undef)) rfl (by kernel_rfl) (by kernel_rfl) (by kernel_rfl) (by kernel_rfl) (by kernel_rfl) (fun _ _ _ h => h) (BL.cls W) ?_ ?_
        · cases x11 <;> first | exact Or.inr ⟨rfl, rfl⟩ | (refine Or.inl ⟨rfl, fun w hSw => ?_⟩; exact EffR.same (by go_simp))
        try simp only [Act.put, List.setIfInBounds_toArray, List.set_cons_zero, List.set_cons_succ]
        refine wpAnyU_take (i := 14) (oi := { dst := some 29, op := Op.fieldAddr 26 (Operand.tmp 28) 2, type := 0, pos := "ref.go:261", after := #[{ on := 13, ground := Ground.data }, { on := 12, ground := Ground.guard }], guard := some (12, false) }) (v := (cond ((!(x11))) (.pointer (some ⟨gc, 2, none⟩)) undef)) rfl (by kernel_rfl) (by kernel_rfl) (by kernel_rfl) (by kernel_rfl) (by kernel_rfl) (fun _ _ _ h => h) (BL.cls W) ?_ ?_
        · cases x11 <;> first | exact Or.inr ⟨rfl, rfl⟩ | (refine Or.inl ⟨rfl, fun w hSw => ?_⟩; exact EffR.same (by go_simp))
        try simp only [Act.put, List.setIfInBounds_toArray, List.set_cons_zero, List.set_cons_succ]
        refine wpAnyU_take (i := 15) (oi := { dst := some 30, op := Op.load 3 (Operand.tmp 29), type := 3, pos := "ref.go:261", after := #[{ on := 14, ground := Ground.data }, { on := 12, ground := Ground.guard }], guard := some (12, false) }) (v := (cond ((!(x11))) (.int .i64 ca) undef)) rfl (by kernel_rfl) (by kernel_rfl) (by kernel_rfl) (by kernel_rfl) (by kernel_rfl) (fun _ _ _ h => h) (BL.cls W) ?_ ?_
        · cases x11 <;> first | exact Or.inr ⟨rfl, rfl⟩ | (refine Or.inl ⟨rfl, fun w hSw => ?_⟩; have e0 := BL.cell hSw hc2; exact EffR.same (by go_simp))
        try simp only [Act.put, List.setIfInBounds_toArray, List.set_cons_zero, List.set_cons_succ]
        refine wpAnyU_take (i := 16) (oi := { dst := some 31, op := Op.call { callee := Callee.value (Operand.func 30), args := #[Operand.tmp 30, Operand.const (Value.int IntKind.i64 1), Operand.const (Value.int IntKind.i64 4611686018427387904)], argTypes := #[3, 3, 3] }, type := 4, pos := "ref.go:261", after := #[{ on := 15, ground := Ground.data }, { on := 12, ground := Ground.chain }, { on := 12, ground := Ground.guard }], guard := some (12, false) }) (v := (cond ((!(x11))) (.bool ba) undef)) rfl (by kernel_rfl) (by kernel_rfl) (by kernel_rfl) (by kernel_rfl) (by kernel_rfl) (fun _ _ _ h => h) (BL.cls W) ?_ ?_
        · cases x11 <;> first | exact Or.inr ⟨rfl, rfl⟩ | (refine Or.inl ⟨rfl, fun w hSw => ?_⟩; go_simp; show Calls _ _ _ _ _; refine (cAmt _).mono ?_; rintro e w1 ⟨rfl, rfl⟩; exact ⟨rfl, Below.refl _ _⟩)
        try simp only [Act.put, List.setIfInBounds_toArray, List.set_cons_zero, List.set_cons_succ]
        refine wpAnyU_take (i := 17) (oi := { dst := some 32, op := Op.unOp UnOp.not 4 (Operand.tmp 31), type := 4, pos := "ref.go:261", after := #[{ on := 16, ground := Ground.data }, { on := 12, ground := Ground.guard }], guard := some (12, false) }) (v := (cond ((!(x11))) (.bool (!ba)) undef)) rfl (by kernel_rfl) (by kernel_rfl) (by kernel_rfl) (by kernel_rfl) (by kernel_rfl) (fun _ _ _ h => h) (BL.cls W) ?_ ?_
        · cases x11 <;> first | exact Or.inr ⟨rfl, rfl⟩ | (refine Or.inl ⟨rfl, fun w hSw => ?_⟩; exact EffR.same (by go_simp))
        try simp only [Act.put, List.setIfInBounds_toArray, List.set_cons_zero, List.set_cons_succ]
        obtain ⟨x18, hx18⟩ : ∃ b : Bool, b = (x11 || (!ba)) := ⟨_, rfl⟩
        have HX18 := Lib.hid hx18
        clear hx18
        refine wpAnyU_take (i := 18) (oi := { dst := some 33, op := Op.pick (Operand.tmp 27) (Operand.const (Value.bool true)) (Operand.tmp 32), type := 4, pos := "ref.go:261", after := #[{ on := 12, ground := Ground.data }, { on := 17, ground := Ground.data }], guard := none }) (v := (.bool x18)) rfl (by kernel_rfl) (by kernel_rfl) (by kernel_rfl) (by kernel_rfl) (by kernel_rfl) (fun _ _ _ h => h) (BL.cls W) ?_ ?_
        · cases x11 <;> cases ba <;> first | exact Or.inr ⟨rfl, rfl⟩ | (refine Or.inl ⟨rfl, fun w hSw => ?_⟩; have hx := HX18.out; simp at hx; subst hx; exact EffR.same (by go_simp))
        try simp only [Act.put, List.setIfInBounds_toArray, List.set_cons_zero, List.set_cons_succ]
        refine wpAnyU_take (i := 19) (oi := { dst := some 34, op := Op.move (Operand.tmp 33), type := 4, pos := "ref.go:261", after := #[{ on := 18, ground := Ground.data }, { on := 16, ground := Ground.chain }], guard := none }) (v := (.bool x18)) rfl (by kernel_rfl) (by kernel_rfl) (by kernel_rfl) (by kernel_rfl) (by kernel_rfl) (fun _ _ _ h => h) (BL.cls W) ?_ ?_
        · refine Or.inl ⟨rfl, fun w hSw => ?_⟩
          exact EffR.same (by go_simp)
        try simp only [Act.put, List.setIfInBounds_toArray, List.set_cons_zero, List.set_cons_succ]
        refine wpAnyU_take (i := 20) (oi := { dst := some 35, op := Op.fieldAddr 28 (Operand.tmp 4) 1, type := 0, pos := "ref.go:261", after := #[{ on := 19, ground := Ground.guard }], guard := some (19, false) }) (v := (cond ((!(x18))) (.pointer (some ⟨gc, 3, none⟩)) undef)) rfl (by kernel_rfl) (by kernel_rfl) (by kernel_rfl) (by kernel_rfl) (by kernel_rfl) (fun _ _ _ h => h) (BL.cls W) ?_ ?_
        · cases x18 <;> first | exact Or.inr ⟨rfl, rfl⟩ | (refine Or.inl ⟨rfl, fun w hSw => ?_⟩; exact EffR.same (by go_simp))
        try simp only [Act.put, List.setIfInBounds_toArray, List.set_cons_zero, List.set_cons_succ]
        refine wpAnyU_take (i := 21) (oi := { dst := some 36, op := Op.load 3 (Operand.tmp 35), type := 3, pos := "ref.go:261", after := #[{ on := 20, ground := Ground.data }, { on := 19, ground := Ground.guard }], guard := some (19, false) }) (v := (cond ((!(x18))) (.int .i64 ct) undef)) rfl (by kernel_rfl) (by kernel_rfl) (by kernel_rfl) (by kernel_rfl) (by kernel_rfl) (fun _ _ _ h => h) (BL.cls W) ?_ ?_
        · cases x18 <;> first | exact Or.inr ⟨rfl, rfl⟩ | (refine Or.inl ⟨rfl, fun w hSw => ?_⟩; have e0 := BL.cell hSw hc3; exact EffR.same (by go_simp))
        try simp only [Act.put, List.setIfInBounds_toArray, List.set_cons_zero, List.set_cons_succ]
        refine wpAnyU_take (i := 22) (oi := { dst := some 37, op := Op.call { callee := Callee.value (Operand.func 30), args := #[Operand.tmp 36, Operand.const (Value.int IntKind.i64 0), Operand.const (Value.int IntKind.i64 1099511627776)], argTypes := #[3, 3, 3] }, type := 4, pos := "ref.go:261", after := #[{ on := 21, ground := Ground.data }, { on := 19, ground := Ground.chain }, { on := 19, ground := Ground.guard }], guard := some (19, false) }) (v := (cond ((!(x18))) (.bool bt) undef)) rfl (by kernel_rfl) (by kernel_rfl) (by kernel_rfl) (by kernel_rfl) (by kernel_rfl) (fun _ _ _ h => h) (BL.cls W) ?_ ?_
        · cases x18 <;> first | exact Or.inr ⟨rfl, rfl⟩ | (refine Or.inl ⟨rfl, fun w hSw => ?_⟩; go_simp; show Calls _ _ _ _ _; refine (cAt _).mono ?_; rintro e w1 ⟨rfl, rfl⟩; exact ⟨rfl, Below.refl _ _⟩)
        try simp only [Act.put, List.setIfInBounds_toArray, List.set_cons_zero, List.set_cons_succ]
        refine wpAnyU_take (i := 23) (oi := { dst := some 38, op := Op.unOp UnOp.not 4 (Operand.tmp 37), type := 4, pos := "ref.go:261", after := #[{ on := 22, ground := Ground.data }, { on := 19, ground := Ground.guard }], guard := some (19, false) }) (v := (cond ((!(x18))) (.bool (!bt)) undef)) rfl (by kernel_rfl) (by kernel_rfl) (by kernel_rfl) (by kernel_rfl) (by kernel_rfl) (fun _ _ _ h => h) (BL.cls W) ?_ ?_
        · cases x18 <;> first | exact Or.inr ⟨rfl, rfl⟩ | (refine Or.inl ⟨rfl, fun w hSw => ?_⟩; exact EffR.same (by go_simp))
        try simp only [Act.put, List.setIfInBounds_toArray, List.set_cons_zero, List.set_cons_succ]
        obtain ⟨x24, hx24⟩ : ∃ b : Bool, b = (x18 || (!bt)) := ⟨_, rfl⟩
        have HX24 := Lib.hid hx24
        clear hx24
        refine wpAnyU_take (i := 24) (oi := { dst := some 39, op := Op.pick (Operand.tmp 34) (Operand.const (Value.bool true)) (Operand.tmp 38), type := 4, pos := "ref.go:261", after := #[{ on := 19, ground := Ground.data }, { on := 23, ground := Ground.data }], guard := none }) (v := (.bool x24)) rfl (by kernel_rfl) (by kernel_rfl) (by kernel_rfl) (by kernel_rfl) (by kernel_rfl) (fun _ _ _ h => h) (BL.cls W) ?_ ?_
        · cases x18 <;> cases bt <;> first | exact Or.inr ⟨rfl, rfl⟩ | (refine Or.inl ⟨rfl, fun w hSw => ?_⟩; have hx := HX24.out; simp at hx; subst hx; exact EffR.same (by go_simp))
        try simp only [Act.put, List.setIfInBounds_toArray, List.set_cons_zero, List.set_cons_succ]
        refine wpAnyU_take (i := 25) (oi := { dst := some 40, op := Op.move (Operand.tmp 39), type := 4, pos := "ref.go:261", after := #[{ on := 24, ground := Ground.data }, { on := 22, ground := Ground.chain }], guard := none }) (v := (.bool x24)) rfl (by kernel_rfl) (by kernel_rfl) (by kernel_rfl) (by kernel_rfl) (by kernel_rfl) (fun _ _ _ h => h) (BL.cls W) ?_ ?_
        · refine Or.inl ⟨rfl, fun w hSw => ?_⟩
          exact EffR.same (by go_simp)
        try simp only [Act.put, List.setIfInBounds_toArray, List.set_cons_zero, List.set_cons_succ]
        refine wpAnyU_take (i := 26) (oi := { dst := some 41, op := Op.move (Operand.tmp 3), type := 3, pos := "ref.go:261", after := #[{ on := 25, ground := Ground.guard }], guard := some (25, false) }) (v := (cond ((!(x24))) (.int .i64 ((q : Int) + 1)) undef)) rfl (by kernel_rfl) (by kernel_rfl) (by kernel_rfl) (by kernel_rfl) (by kernel_rfl) (fun _ _ _ h => h) (BL.cls W) ?_ ?_
        · cases x24 <;> first | exact Or.inr ⟨rfl, rfl⟩ | (refine Or.inl ⟨rfl, fun w hSw => ?_⟩; exact EffR.same (by go_simp))
        try simp only [Act.put, List.setIfInBounds_toArray, List.set_cons_zero, List.set_cons_succ]
        refine wpAnyU_take (i := 27) (oi := { dst := some 42, op := Op.binOp BinOp.gtr 3 (Operand.tmp 41) (Operand.const (Value.int IntKind.i64 0)) 3, type := 4, pos := "ref.go:261", after := #[{ on := 26, ground := Ground.data }, { on := 25, ground := Ground.guard }], guard := some (25, false) }) (v := (cond ((!(x24))) (.bool true) undef)) rfl (by kernel_rfl) (by kernel_rfl) (by kernel_rfl) (by kernel_rfl) (by kernel_rfl) (fun _ _ _ h => h) (BL.cls W) ?_ ?_
        · cases x24 <;> first | exact Or.inr ⟨rfl, rfl⟩ | (refine Or.inl ⟨rfl, fun w hSw => ?_⟩; exact EffR.same (by go_simp))
        try simp only [Act.put, List.setIfInBounds_toArray, List.set_cons_zero, List.set_cons_succ]
        refine wpAnyU_take (i := 28) (oi := { dst := some 43, op := Op.move (Operand.tmp 42), type := 4, pos := "ref.go:261", after := #[{ on := 27, ground := Ground.data }, { on := 25, ground := Ground.chain }, { on := 25, ground := Ground.guard }], guard := some (25, false) }) (v := (cond ((!(x24))) (.bool true) undef)) rfl (by kernel_rfl) (by kernel_rfl) (by kernel_rfl) (by kernel_rfl) (by kernel_rfl) (fun _ _ _ h => h) (BL.cls W) ?_ ?_
        · cases x24 <;> first | exact Or.inr ⟨rfl, rfl⟩ | (refine Or.inl ⟨rfl, fun w hSw => ?_⟩; exact EffR.same (by go_simp))
        try simp only [Act.put, List.setIfInBounds_toArray, List.set_cons_zero, List.set_cons_succ]
        refine wpAnyU_take (i := 29) (oi := { dst := some 44, op := Op.move (Operand.tmp 0), type := 22, pos := "ref.go:261", after := #[{ on := 28, ground := Ground.guard }], guard := some (28, true) }) (v := (cond ((!(x24))) (.slice (some ⟨bl, off, none⟩) n cap) undef)) rfl (by kernel_rfl) (by kernel_rfl) (by kernel_rfl) (by kernel_rfl) (by kernel_rfl) (fun _ _ _ h => h) (BL.cls W) ?_ ?_
        · cases x24 <;> first | exact Or.inr ⟨rfl, rfl⟩ | (refine Or.inl ⟨rfl, fun w hSw => ?_⟩; exact EffR.same (by go_simp))
        try simp only [Act.put, List.setIfInBounds_toArray, List.set_cons_zero, List.set_cons_succ]
        refine wpAnyU_take (i := 30) (oi := { dst := some 45, op := Op.move (Operand.tmp 3), type := 3, pos := "ref.go:261", after := #[{ on := 28, ground := Ground.guard }], guard := some (28, true) }) (v := (cond ((!(x24))) (.int .i64 ((q : Int) + 1)) undef)) rfl (by kernel_rfl) (by kernel_rfl) (by kernel_rfl) (by kernel_rfl) (by kernel_rfl) (fun _ _ _ h => h) (BL.cls W) ?_ ?_
        · cases x24 <;> first | exact Or.inr ⟨rfl, rfl⟩ | (refine Or.inl ⟨rfl, fun w hSw => ?_⟩; exact EffR.same (by go_simp))
        try simp only [Act.put, List.setIfInBounds_toArray, List.set_cons_zero, List.set_cons_succ]
        refine wpAnyU_take (i := 31) (oi := { dst := some 46, op := Op.binOp BinOp.sub 3 (Operand.tmp 45) (Operand.const (Value.int IntKind.i64 1)) 3, type := 3, pos := "ref.go:261", after := #[{ on := 30, ground := Ground.data }, { on := 28, ground := Ground.guard }], guard := some (28, true) }) (v := (cond ((!(x24))) (.int .i64 (q : Int)) undef)) rfl (by kernel_rfl) (by kernel_rfl) (by kernel_rfl) (by kernel_rfl) (by kernel_rfl) (fun _ _ _ h => h) (BL.cls W) ?_ ?_
        · cases x24 <;> first | exact Or.inr ⟨rfl, rfl⟩ | (refine Or.inl ⟨rfl, fun w hSw => ?_⟩; exact EffR.same (by go_simp; exact IntWalk.i64_in _ (by omega)))
        try simp only [Act.put, List.setIfInBounds_toArray, List.set_cons_zero, List.set_cons_succ]
        refine wpAnyU_take (i := 32) (oi := { dst := some 47, op := Op.indexAddr 22 (Operand.tmp 44) (Operand.tmp 46), type := 0, pos := "ref.go:261", after := #[{ on := 29, ground := Ground.data }, { on := 31, ground := Ground.data }, { on := 28, ground := Ground.guard }], guard := some (28, true) }) (v := (cond ((!(x24))) (.pointer (some ⟨bl, off + q * 4, none⟩)) undef)) rfl (by kernel_rfl) (by kernel_rfl) (by kernel_rfl) (by kernel_rfl) (by kernel_rfl) (fun _ _ _ h => h) (BL.cls W) ?_ ?_
        · cases x24 <;> first | exact Or.inr ⟨rfl, rfl⟩ | (refine Or.inl ⟨rfl, fun w hSw => ?_⟩; have hq : ¬ n ≤ q := (by omega); exact EffR.same (by go_simp))
        try simp only [Act.put, List.setIfInBounds_toArray, List.set_cons_zero, List.set_cons_succ]
        refine wpAnyU_take (i := 33) (oi := { dst := some 48, op := Op.fieldAddr 28 (Operand.tmp 47) 0, type := 0, pos := "ref.go:261", after := #[{ on := 32, ground := Ground.data }, { on := 28, ground := Ground.guard }], guard := some (28, true) }) (v := (cond ((!(x24))) (.pointer (some ⟨bl, off + q * 4, none⟩)) undef)) rfl (by kernel_rfl) (by kernel_rfl) (by kernel_rfl) (by kernel_rfl) (by kernel_rfl) (fun _ _ _ h => h) (BL.cls W) ?_ ?_
        · cases x24 <;> first | exact Or.inr ⟨rfl, rfl⟩ | (refine Or.inl ⟨rfl, fun w hSw => ?_⟩; exact EffR.same (by go_simp))
        try simp only [Act.put, List.setIfInBounds_toArray, List.set_cons_zero, List.set_cons_succ]
        refine wpAnyU_take (i := 34) (oi := { dst := some 49, op := Op.load 26 (Operand.tmp 48), type := 26, pos := "ref.go:261", after := #[{ on := 33, ground := Ground.data }, { on := 28, ground := Ground.guard }], guard := some (28, true) }) (v := (cond ((!(x24))) (.agg #[.int .i64 pw, .int .i64 pc, .int .i64 pa]) undef)) rfl (by kernel_rfl) (by kernel_rfl) (by kernel_rfl) (by kernel_rfl) (by kernel_rfl) (fun _ _ _ h => h) (BL.cls W) ?_ ?_
        · cases x24 <;> first | exact Or.inr ⟨rfl, rfl⟩ | (refine Or.inl ⟨rfl, fun w hSw => ?_⟩; have e0 := BL.cell hSw hp0; have e1 := BL.cell hSw hp1; have e2 := BL.cell hSw hp2; exact EffR.same (by go_simp))
        try simp only [Act.put, List.setIfInBounds_toArray, List.set_cons_zero, List.set_cons_succ]
        refine wpAnyU_take (i := 35) (oi := { dst := some 50, op := Op.fieldAddr 28 (Operand.tmp 4) 0, type := 0, pos := "ref.go:261", after := #[{ on := 28, ground := Ground.guard }], guard := some (28, true) }) (v := (cond ((!(x24))) (.pointer (some ⟨gc, 0, none⟩)) undef)) rfl (by kernel_rfl) (by kernel_rfl) (by kernel_rfl) (by kernel_rfl) (by kernel_rfl) (fun _ _ _ h => h) (BL.cls W) ?_ ?_
        · cases x24 <;> first | exact Or.inr ⟨rfl, rfl⟩ | (refine Or.inl ⟨rfl, fun w hSw => ?_⟩; exact EffR.same (by go_simp))
        try simp only [Act.put, List.setIfInBounds_toArray, List.set_cons_zero, List.set_cons_succ]
        refine wpAnyU_take (i := 36) (oi := { dst := some 51, op := Op.load 26 (Operand.tmp 50), type := 26, pos := "ref.go:261", after := #[{ on := 35, ground := Ground.data }, { on := 28, ground := Ground.guard }], guard := some (28, true) }) (v := (cond ((!(x24))) (.agg #[.int .i64 cw, .int .i64 cc, .int .i64 ca]) undef)) rfl (by kernel_rfl) (by kernel_rfl) (by kernel_rfl) (by kernel_rfl) (by kernel_rfl) (fun _ _ _ h => h) (BL.cls W) ?_ ?_
        · cases x24 <;> first | exact Or.inr ⟨rfl, rfl⟩ | (refine Or.inl ⟨rfl, fun w hSw => ?_⟩; have e0 := BL.cell hSw hc0; have e1 := BL.cell hSw hc1; have e2 := BL.cell hSw hc2; exact EffR.same (by go_simp))
        try simp only [Act.put, List.setIfInBounds_toArray, List.set_cons_zero, List.set_cons_succ]
        refine wpAnyU_take (i := 37) (oi := { dst := some 52, op := Op.call { callee := Callee.value (Operand.func 31), args := #[Operand.tmp 49, Operand.tmp 51], argTypes := #[26, 26] }, type := 4, pos := "ref.go:261", after := #[{ on := 34, ground := Ground.data }, { on := 36, ground := Ground.data }, { on := 28, ground := Ground.chain }, { on := 28, ground := Ground.guard }], guard := some (28, true) }) (v := (cond ((!(x24))) (.bool bl0) undef)) rfl (by kernel_rfl) (by kernel_rfl) (by kernel_rfl) (by kernel_rfl) (by kernel_rfl) (fun _ _ _ h => h) (BL.cls W) ?_ ?_
        · cases x24 <;> first | exact Or.inr ⟨rfl, rfl⟩ | (refine Or.inl ⟨rfl, fun w hSw => ?_⟩; go_simp; show Calls _ _ _ _ _; refine (cLess _).mono ?_; rintro e w1 ⟨rfl, hb⟩; exact ⟨rfl, hb⟩)
        try simp only [Act.put, List.setIfInBounds_toArray, List.set_cons_zero, List.set_cons_succ]
        refine wpAnyU_take (i := 38) (oi := { dst := some 53, op := Op.unOp UnOp.not 4 (Operand.tmp 52), type := 4, pos := "ref.go:261", after := #[{ on := 37, ground := Ground.data }, { on := 28, ground := Ground.guard }], guard := some (28, true) }) (v := (cond ((!(x24))) (.bool (!bl0)) undef)) rfl (by kernel_rfl) (by kernel_rfl) (by kernel_rfl) (by kernel_rfl) (by kernel_rfl) (fun _ _ _ h => h) (BL.cls W) ?_ ?_
        · cases x24 <;> first | exact Or.inr ⟨rfl, rfl⟩ | (refine Or.inl ⟨rfl, fun w hSw => ?_⟩; exact EffR.same (by go_simp))
        try simp only [Act.put, List.setIfInBounds_toArray, List.set_cons_zero, List.set_cons_succ]
        refine wpAnyU_take (i := 39) (oi := { dst := some 54, op := Op.pick (Operand.tmp 43) (Operand.tmp 53) (Operand.const (Value.bool false)), type := 4, pos := "ref.go:261", after := #[{ on := 28, ground := Ground.data }, { on := 38, ground := Ground.data }, { on := 25, ground := Ground.guard }], guard := some (25, false) }) (v := (cond ((!(x24))) (.bool (!bl0)) undef)) rfl (by kernel_rfl) (by kernel_rfl) (by kernel_rfl) (by kernel_rfl) (by kernel_rfl) (fun _ _ _ h => h) (BL.cls W) ?_ ?_
        · cases x24 <;> cases bl0 <;> first | exact Or.inr ⟨rfl, rfl⟩ | (refine Or.inl ⟨rfl, fun w hSw => ?_⟩; exact EffR.same (by go_simp))
        try simp only [Act.put, List.setIfInBounds_toArray, List.set_cons_zero, List.set_cons_succ]
        obtain ⟨x40, hx40⟩ : ∃ b : Bool, b = (x24 || (!bl0)) := ⟨_, rfl⟩
        have HX40 := Lib.hid hx40
        clear hx40
        refine wpAnyU_take (i := 40) (oi := { dst := some 55, op := Op.pick (Operand.tmp 40) (Operand.const (Value.bool true)) (Operand.tmp 54), type := 4, pos := "ref.go:261", after := #[{ on := 25, ground := Ground.data }, { on := 39, ground := Ground.data }], guard := none }) (v := (.bool x40)) rfl (by kernel_rfl) (by kernel_rfl) (by kernel_rfl) (by kernel_rfl) (by kernel_rfl) (fun _ _ _ h => h) (BL.cls W) ?_ ?_
        · cases x24 <;> cases bl0 <;> first | exact Or.inr ⟨rfl, rfl⟩ | (refine Or.inl ⟨rfl, fun w hSw => ?_⟩; have hx := HX40.out; simp at hx; subst hx; exact EffR.same (by go_simp))
        try simp only [Act.put, List.setIfInBounds_toArray, List.set_cons_zero, List.set_cons_succ]
        refine wpAnyU_done (by kernel_rfl) (fun w1 hb1 => ?_) _
        have HBE := Lib.hid (HBW.out.trans (hb1.mono HBW.out.size))
        clear hb1 cWho cCur cAmt cAt hc0 hc1 hc2 hc3 cLess hp0 hp1 hp2
        have HBAD := Lib.hid (fun h : x40 = true => HBAD0.out (by rw [HAT.out]; rw [HX40.out, HX24.out, HX18.out, HX11.out] at h; revert h; cases bw <;> cases bc <;> cases ba <;> cases bt <;> cases bl0 <;> simp))
        have HOK := Lib.hid (fun h : x40 = false => HOK0.out (by rw [HAT.out]; rw [HX40.out, HX24.out, HX18.out, HX11.out] at h; revert h; cases bw <;> cases bc <;> cases ba <;> cases bt <;> cases bl0 <;> simp))
        cases x40 with
        | true =>
          have HV := Lib.hid (HBAD.out rfl)
          clear HBAD HOK
          go_wp2_with fail
          go_ret
          exact ⟨by rw [HV.out]; rfl, HBE.out⟩
        | false =>
          have HV := Lib.hid (HOK.out rfl)
          clear HBAD HOK
          go_wp2_with fail
          exact ⟨⟨q + 1 + 1, by omega, by push_cast; rfl, HV.out, HBE.out⟩, by simp [intOf]; omega⟩
    · have HV : Hid (isOkB l = true) := by
        show _ = _
        exact isOk_ok (fun q hq => HO.out q (by have := HN.out; omega))
      go_wp2_with fail
      go_ret
      exact ⟨by rw [HV.out]; rfl, hbel⟩
end Cam
