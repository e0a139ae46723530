import Derived.Test.YteabnccmomdnpaaClS
import Derived.Test.YteabnccmomdnpaaNumR
/- call.Check. -/
namespace Cam
open Go Go.RowKit Go.Proofs

theorem keepK4 {w W w1 : World} {p0 p1 p2 p3 : Addr} {x0 x1 x2 x3 : Value} (hb : Below W.heap.size W w1)
    (h : W.cell? p0 = some x0 ∧ W.cell? p1 = some x1 ∧ W.cell? p2 = some x2 ∧ W.cell? p3 = some x3 ∧ Below w.heap.size w W) :
    w1.cell? p0 = some x0 ∧ w1.cell? p1 = some x1 ∧ w1.cell? p2 = some x2 ∧ w1.cell? p3 = some x3 ∧ Below w.heap.size w w1 := by
  have c : ∀ {p : Addr} {x : Value}, W.cell? p = some x → w1.cell? p = some x := fun h => (hb.cell (World.block_lt_of_cell? W _ h)).trans h
  obtain ⟨h0, h1, h2, h3, h4⟩ := h
  exact ⟨c h0, c h1, c h2, c h3, h4.next hb⟩
def ct0 : CT := ⟨0, 0, 0, 0⟩
/-- a right call -/
def okB (c : CT) : Bool := rightC c.who c.cur && rightB c.amt && decide (1 ≤ c.amt) && decide (0 ≤ c.tick ∧ c.tick ≤ 1099511627776)
def okAt (l : List CT) (k : Nat) : Bool := okB (l.getD k ct0) && (decide (k = 0) || decide (cmpK (l.getD (k - 1) ct0) (l.getD k ct0).who (l.getD k ct0).cur < 0))
/-- right calls, rising -/
def chkB (l : List CT) : Bool := (List.range l.length).all (okAt l)
def chkE (l : List CT) : Int := if chkB l = true then 0 else 14
theorem chkE_bad {l : List CT} {k : Nat} (hk : k < l.length) (h : okAt l k = false) : chkE l = 14 := by
  unfold chkE chkB
  rw [if_neg]
  intro hc
  have := List.all_eq_true.1 hc k (List.mem_range.2 hk)
  rw [h] at this
  cases this
theorem chkE_ok {l : List CT} (h : ∀ k, k < l.length → okAt l k = true) : chkE l = 0 := by
  unfold chkE chkB
  rw [if_pos]
  exact List.all_eq_true.2 (fun k hk => h k (List.mem_range.1 hk))
theorem chkE_iff (l : List CT) : chkE l = 0 ↔ ∀ k, k < l.length → okAt l k = true := by
  constructor
  · intro h k hk
    cases hb : okAt l k with
    | true => rfl
    | false =>
      rw [chkE_bad hk hb] at h
      cases h
  · exact chkE_ok
theorem getD_eq {l : List CT} {k : Nat} (hk : k < l.length) : l.getD k ct0 = l[k] := by simp [List.getD, List.getElem?_eq_getElem hk]

set_option maxRecDepth 100000 in
set_option maxHeartbeats 6400000 in
theorem Check_any (w : World) (v : Value) (l : List CT) (h : Cs w v l) (hl : l.length ≤ 100000) :
    Calls Try.prog 17 #[v] w fun e w' => e = .returned (.int .i64 (chkE l)) ∧ Below w.heap.size w w' := by
  obtain ⟨av, cap, rfl, hcap, hm⟩ := h.shape
  obtain ⟨n, hn⟩ : ∃ n, n = l.length := ⟨_, rfl⟩
  have HN := Lib.hid hn
  rw [← hn] at hcap hl ⊢
  rw [← hn] at h
  clear hn
  go_enter Try.func17, Try.ntmps17
  go_wp2_with fail
  go_loopw [7] (fun i wr => ∃ k : Nat, k ≤ n ∧ i = .int .i64 k ∧ Hid (∀ q, q < k → okAt l q = true) ∧ Below w.heap.size w wr) (fun i _ => n - (intOf i).toNat)
  case atStart => exact ⟨0, Nat.zero_le _, rfl, fun q hq => by omega, Below.refl _ _⟩
  case round =>
    obtain ⟨k, hk, rfl, HO, hbel⟩ := hrel
    by_cases hlt : k < n
    · have hkl : k < l.length := by have := HN.out; omega
      obtain ⟨bl, off, rfl, _, hc⟩ := Cs.at4 (h.mono hbel) (by omega)
      obtain ⟨c, hcx⟩ : ∃ c, c = l[k] := ⟨_, rfl⟩
      obtain ⟨hc0, hc1, hc2, hc3⟩ := hc k hkl
      rw [← hcx] at hc0 hc1 hc2 hc3
      have hgk : l.getD k ct0 = c := by rw [getD_eq hkl, hcx]
      have HBAD0 : Hid (okAt l k = false → chkE l = 14) := chkE_bad hkl
      have HOK0 : Hid (okAt l k = true → ∀ q, q < k + 1 → okAt l q = true) := fun h q hq => by
        by_cases e : q = k
        · rw [e]; exact h
        · exact HO.out q (by omega)
      have HAT : Hid (okAt l k = (okB c && (decide (k = 0) || decide (cmpK (l.getD (k - 1) ct0) c.who c.cur < 0)))) := by show _ = _; unfold okAt; rw [hgk]
      obtain ⟨cw, cc, ca, ct⟩ := c
      simp only at hc0 hc1 hc2 hc3
      have HB : Hid (okB ⟨cw, cc, ca, ct⟩ = (rightC cw cc && rightB ca && decide (1 ≤ ca) && decide (0 ≤ ct ∧ ct ≤ 1099511627776))) := rfl
      have rg := fun w => rightC_any w cw cc
      have nr := fun w h => Right_any w (.slice (some ⟨(wr.alloc (.cells #[.int .i64 cw, .int .i64 cc, .int .i64 ca, .int .i64 ct] 28)).heap.size, 0, none⟩) 1 1) [ca] h
      rw [show allRight [ca] = rightB ca by simp [allRight]] at nr
      have hbW := hbel.alloc hbel.size (.cells #[.int .i64 cw, .int .i64 cc, .int .i64 ca, .int .i64 ct] 28)
      have hn0 := heap_alloc_new wr (.cells #[.int .i64 cw, .int .i64 cc, .int .i64 ca, .int .i64 ct] 28)
      have hcl : ∀ j u, #[Value.int .i64 cw, .int .i64 cc, .int .i64 ca, .int .i64 ct][j]? = some u → (wr.alloc (.cells #[.int .i64 cw, .int .i64 cc, .int .i64 ca, .int .i64 ct] 28)).cell? ⟨wr.heap.size, j, none⟩ = some u := by
        intro j u hu
        unfold World.cell?
        rw [hn0]
        exact hu
      have hS4 := (⟨hcl 0 _ rfl, hcl 1 _ rfl, hcl 2 _ rfl, hcl 3 _ rfl, hbW⟩ : _ ∧ _ ∧ _ ∧ _ ∧ _)
      have hlit : Is ((wr.alloc (.cells #[.int .i64 cw, .int .i64 cc, .int .i64 ca, .int .i64 ct] 28)).alloc (.cells #[.int .i64 ca] 3)).drew (.slice (some ⟨(wr.alloc (.cells #[.int .i64 cw, .int .i64 cc, .int .i64 ca, .int .i64 ct] 28)).heap.size, 0, none⟩) 1 1) [ca] := (Is.lit1 _ ca 3).mono (Below.refl _ _).drew
      have hpv : ∀ q, k = q + 1 → ∃ p, l.getD q ct0 = p ∧ (wr.alloc (.cells #[.int .i64 cw, .int .i64 cc, .int .i64 ca, .int .i64 ct] 28)).cell? ⟨bl, off + q * 4, none⟩ = some (.int .i64 p.who) ∧ (wr.alloc (.cells #[.int .i64 cw, .int .i64 cc, .int .i64 ca, .int .i64 ct] 28)).cell? ⟨bl, off + q * 4 + 1, none⟩ = some (.int .i64 p.cur) ∧ (wr.alloc (.cells #[.int .i64 cw, .int .i64 cc, .int .i64 ca, .int .i64 ct] 28)).cell? ⟨bl, off + q * 4 + 2, none⟩ = some (.int .i64 p.amt) ∧ (wr.alloc (.cells #[.int .i64 cw, .int .i64 cc, .int .i64 ca, .int .i64 ct] 28)).cell? ⟨bl, off + q * 4 + 3, none⟩ = some (.int .i64 p.tick) := by
        intro q hq
        obtain ⟨p0, p1, p2, p3⟩ := hc q (by omega)
        have c : ∀ {p : Addr} {x : Value}, wr.cell? p = some x → (wr.alloc (.cells #[.int .i64 cw, .int .i64 cc, .int .i64 ca, .int .i64 ct] 28)).cell? p = some x := fun h => (((Below.refl _ wr).alloc (Nat.le_refl _) _).cell (World.block_lt_of_cell? wr _ h)).trans h
        exact ⟨_, getD_eq (by omega), c p0, c p1, c p2, c p3⟩
      have HPV := Lib.hid hpv
      clear hc hcx hgk hcl hn0 hbW hbel hpv h
      go_wp2_with fail
      clear hc0 hc1 hc2 hc3
      generalize hW : (wr.alloc (.cells #[.int .i64 cw, .int .i64 cc, .int .i64 ca, .int .i64 ct] 28)) = W at *
      clear hW
      generalize wr.heap.size = gc at *
      cases hr : rightC cw cc with
      | false =>
        have HBAD := Lib.hid (HBAD0.out (by rw [HAT.out, HB.out, hr]; rfl))
        rw [hr] at rg
        have hSW := hS4
        clear hr hS4 HBAD0 HOK0 HAT HB HO
        have hSA := keepK4 ((Below.refl _ W).alloc (Nat.le_refl _) (.cells #[.int .i64 ca] 3)).drew hSW
        refine wp_region_held_drew (S := (fun wx => wx.cell? ⟨gc, 0, none⟩ = some (.int .i64 cw) ∧ wx.cell? ⟨gc, 1, none⟩ = some (.int .i64 cc) ∧ wx.cell? ⟨gc, 2, none⟩ = some (.int .i64 ca) ∧ wx.cell? ⟨gc, 3, none⟩ = some (.int .i64 ct) ∧ Below w.heap.size w wx)) (by kernel_rfl) (keepK4 (Below.refl _ _).drew hSW) (fun hS0 => ?_)
        clear hSW
        refine wpAnyH_take (i := 0) (oi := { dst := some 12, op := Op.fieldAddr 28 (Operand.tmp 4) 0, type := 0, pos := "call.go:25", after := #[], guard := none }) (v := .pointer (some ⟨gc, 0, none⟩)) rfl (by kernel_rfl) (by kernel_rfl) (by kernel_rfl) (fun _ _ _ h => h) (Or.inl ⟨by rfl, by intro w hSw; go_simp⟩) hS0 ?_
        try simp only [Act.put, List.setIfInBounds_toArray, List.set_cons_zero, List.set_cons_succ]
        refine wpAnyH_take (i := 1) (oi := { dst := some 13, op := Op.fieldAddr 26 (Operand.tmp 12) 0, type := 0, pos := "call.go:25", after := #[{ on := 0, ground := Ground.data }], guard := none }) (v := .pointer (some ⟨gc, 0, none⟩)) rfl (by kernel_rfl) (by kernel_rfl) (by kernel_rfl) (fun _ _ _ h => h) (Or.inl ⟨by rfl, by intro w hSw; go_simp⟩) hS0 ?_
        try simp only [Act.put, List.setIfInBounds_toArray, List.set_cons_zero, List.set_cons_succ]
        refine wpAnyH_take (i := 2) (oi := { dst := some 14, op := Op.load 3 (Operand.tmp 13), type := 3, pos := "call.go:25", after := #[{ on := 1, ground := Ground.data }], guard := none }) (v := .int .i64 cw) rfl (by kernel_rfl) (by kernel_rfl) (by kernel_rfl) (fun _ _ _ h => h) (Or.inl ⟨by rfl, by intro w hSw; obtain ⟨h0, h1, h2, h3, _⟩ := hSw; go_simp⟩) hS0 ?_
        try simp only [Act.put, List.setIfInBounds_toArray, List.set_cons_zero, List.set_cons_succ]
        refine wpAnyH_take (i := 3) (oi := { dst := some 15, op := Op.fieldAddr 28 (Operand.tmp 4) 0, type := 0, pos := "call.go:25", after := #[], guard := none }) (v := .pointer (some ⟨gc, 0, none⟩)) rfl (by kernel_rfl) (by kernel_rfl) (by kernel_rfl) (fun _ _ _ h => h) (Or.inl ⟨by rfl, by intro w hSw; go_simp⟩) hS0 ?_
        try simp only [Act.put, List.setIfInBounds_toArray, List.set_cons_zero, List.set_cons_succ]
        refine wpAnyH_take (i := 4) (oi := { dst := some 16, op := Op.fieldAddr 26 (Operand.tmp 15) 1, type := 0, pos := "call.go:25", after := #[{ on := 3, ground := Ground.data }], guard := none }) (v := .pointer (some ⟨gc, 1, none⟩)) rfl (by kernel_rfl) (by kernel_rfl) (by kernel_rfl) (fun _ _ _ h => h) (Or.inl ⟨by rfl, by intro w hSw; go_simp⟩) hS0 ?_
        try simp only [Act.put, List.setIfInBounds_toArray, List.set_cons_zero, List.set_cons_succ]
        refine wpAnyH_take (i := 5) (oi := { dst := some 17, op := Op.load 3 (Operand.tmp 16), type := 3, pos := "call.go:25", after := #[{ on := 4, ground := Ground.data }], guard := none }) (v := .int .i64 cc) rfl (by kernel_rfl) (by kernel_rfl) (by kernel_rfl) (fun _ _ _ h => h) (Or.inl ⟨by rfl, by intro w hSw; obtain ⟨h0, h1, h2, h3, _⟩ := hSw; go_simp⟩) hS0 ?_
        try simp only [Act.put, List.setIfInBounds_toArray, List.set_cons_zero, List.set_cons_succ]
        refine wpAnyH_ready (rs := [6]) (by kernel_rfl) (by simp) ?_
        refine AllReadyH.cons (o := { dst := some 18, op := Op.call { callee := Callee.value (Operand.func 33), args := #[Operand.tmp 14, Operand.tmp 17], argTypes := #[3, 3] }, type := 4, pos := "call.go:25", after := #[{ on := 2, ground := Ground.data }, { on := 5, ground := Ground.data }], guard := none }) rfl (fun K hK => ?_) AllReadyH.nil
        go_simp
        go_at_call 33
        (with_reducible refine (rg _).mono ?_)
        rintro e w1 ⟨rfl, rfl⟩
        go_simp
        refine hK.out _ _ hS0 (fun _ => ?_)
        clear hK K
        try simp only [Act.put, List.setIfInBounds_toArray, List.set_cons_zero, List.set_cons_succ]
        refine wpAnyH_take (i := 7) (oi := { dst := some 19, op := Op.unOp UnOp.not 4 (Operand.tmp 18), type := 4, pos := "call.go:25", after := #[{ on := 6, ground := Ground.data }], guard := none }) (v := .bool true) rfl (by kernel_rfl) (by kernel_rfl) (by kernel_rfl) (fun _ _ _ h => h) (Or.inl ⟨by rfl, by intro w hSw; go_simp⟩) hS0 ?_
        try simp only [Act.put, List.setIfInBounds_toArray, List.set_cons_zero, List.set_cons_succ]
        refine wpAnyH_take (i := 8) (oi := { dst := some 20, op := Op.move (Operand.tmp 19), type := 4, pos := "call.go:25", after := #[{ on := 7, ground := Ground.data }, { on := 6, ground := Ground.chain }], guard := none }) (v := .bool true) rfl (by kernel_rfl) (by kernel_rfl) (by kernel_rfl) (fun _ _ _ h => h) (Or.inl ⟨by rfl, by intro w hSw; go_simp⟩) hS0 ?_
        try simp only [Act.put, List.setIfInBounds_toArray, List.set_cons_zero, List.set_cons_succ]
        refine wpAnyH_take (i := 9) (oi := { dst := some 21, op := Op.fieldAddr 28 (Operand.tmp 4) 0, type := 0, pos := "call.go:25", after := #[{ on := 8, ground := Ground.guard }], guard := some (8, false) }) (v := undef) rfl (by kernel_rfl) (by kernel_rfl) (by kernel_rfl) (fun _ _ _ h => h) (Or.inr ⟨by rfl, rfl⟩) hS0 ?_
        try simp only [Act.put, List.setIfInBounds_toArray, List.set_cons_zero, List.set_cons_succ]
        refine wpAnyH_take (i := 10) (oi := { dst := some 22, op := Op.fieldAddr 26 (Operand.tmp 21) 2, type := 0, pos := "call.go:25", after := #[{ on := 9, ground := Ground.data }, { on := 8, ground := Ground.guard }], guard := some (8, false) }) (v := undef) rfl (by kernel_rfl) (by kernel_rfl) (by kernel_rfl) (fun _ _ _ h => h) (Or.inr ⟨by rfl, rfl⟩) hS0 ?_
        try simp only [Act.put, List.setIfInBounds_toArray, List.set_cons_zero, List.set_cons_succ]
        refine wpAnyH_take (i := 11) (oi := { dst := some 23, op := Op.load 3 (Operand.tmp 22), type := 3, pos := "call.go:25", after := #[{ on := 10, ground := Ground.data }, { on := 8, ground := Ground.guard }], guard := some (8, false) }) (v := undef) rfl (by kernel_rfl) (by kernel_rfl) (by kernel_rfl) (fun _ _ _ h => h) (Or.inr ⟨by rfl, rfl⟩) hS0 ?_
        try simp only [Act.put, List.setIfInBounds_toArray, List.set_cons_zero, List.set_cons_succ]
        refine wpAnyH_take (i := 12) (oi := { dst := some 24, op := Op.buildSlice 32 1 #[(0, Operand.tmp 23)], type := 32, pos := "call.go:25", after := #[{ on := 11, ground := Ground.data }, { on := 8, ground := Ground.guard }], guard := some (8, false) }) (v := undef) rfl (by kernel_rfl) (by kernel_rfl) (by kernel_rfl) (fun _ _ _ h => h) (Or.inr ⟨by rfl, rfl⟩) hS0 ?_
        try simp only [Act.put, List.setIfInBounds_toArray, List.set_cons_zero, List.set_cons_succ]
        refine wpAnyH_take (i := 13) (oi := { dst := some 25, op := Op.call { callee := Callee.value (Operand.func 34), args := #[Operand.tmp 24], argTypes := #[32] }, type := 4, pos := "call.go:25", after := #[{ on := 12, ground := Ground.data }, { on := 8, ground := Ground.chain }, { on := 8, ground := Ground.guard }], guard := some (8, false) }) (v := undef) rfl (by kernel_rfl) (by kernel_rfl) (by kernel_rfl) (fun _ _ _ h => h) (Or.inr ⟨by rfl, rfl⟩) hS0 ?_
        try simp only [Act.put, List.setIfInBounds_toArray, List.set_cons_zero, List.set_cons_succ]
        refine wpAnyH_take (i := 14) (oi := { dst := some 26, op := Op.unOp UnOp.not 4 (Operand.tmp 25), type := 4, pos := "call.go:25", after := #[{ on := 13, ground := Ground.data }, { on := 8, ground := Ground.guard }], guard := some (8, false) }) (v := undef) rfl (by kernel_rfl) (by kernel_rfl) (by kernel_rfl) (fun _ _ _ h => h) (Or.inr ⟨by rfl, rfl⟩) hS0 ?_
        try simp only [Act.put, List.setIfInBounds_toArray, List.set_cons_zero, List.set_cons_succ]
        refine wpAnyH_take (i := 15) (oi := { dst := some 27, op := Op.pick (Operand.tmp 20) (Operand.const (Value.bool true)) (Operand.tmp 26), type := 4, pos := "call.go:25", after := #[{ on := 8, ground := Ground.data }, { on := 14, ground := Ground.data }], guard := none }) (v := .bool true) rfl (by kernel_rfl) (by kernel_rfl) (by kernel_rfl) (fun _ _ _ h => h) (Or.inl ⟨by rfl, by intro w hSw; go_simp⟩) hS0 ?_
        try simp only [Act.put, List.setIfInBounds_toArray, List.set_cons_zero, List.set_cons_succ]
        refine wpAnyH_take (i := 16) (oi := { dst := some 28, op := Op.move (Operand.tmp 27), type := 4, pos := "call.go:25", after := #[{ on := 15, ground := Ground.data }, { on := 13, ground := Ground.chain }], guard := none }) (v := .bool true) rfl (by kernel_rfl) (by kernel_rfl) (by kernel_rfl) (fun _ _ _ h => h) (Or.inl ⟨by rfl, by intro w hSw; go_simp⟩) hS0 ?_
        try simp only [Act.put, List.setIfInBounds_toArray, List.set_cons_zero, List.set_cons_succ]
        refine wpAnyH_take (i := 17) (oi := { dst := some 29, op := Op.fieldAddr 28 (Operand.tmp 4) 0, type := 0, pos := "call.go:25", after := #[{ on := 16, ground := Ground.guard }], guard := some (16, false) }) (v := undef) rfl (by kernel_rfl) (by kernel_rfl) (by kernel_rfl) (fun _ _ _ h => h) (Or.inr ⟨by rfl, rfl⟩) hS0 ?_
        try simp only [Act.put, List.setIfInBounds_toArray, List.set_cons_zero, List.set_cons_succ]
        refine wpAnyH_take (i := 18) (oi := { dst := some 30, op := Op.fieldAddr 26 (Operand.tmp 29) 2, type := 0, pos := "call.go:25", after := #[{ on := 17, ground := Ground.data }, { on := 16, ground := Ground.guard }], guard := some (16, false) }) (v := undef) rfl (by kernel_rfl) (by kernel_rfl) (by kernel_rfl) (fun _ _ _ h => h) (Or.inr ⟨by rfl, rfl⟩) hS0 ?_
        try simp only [Act.put, List.setIfInBounds_toArray, List.set_cons_zero, List.set_cons_succ]
        refine wpAnyH_take (i := 19) (oi := { dst := some 31, op := Op.load 3 (Operand.tmp 30), type := 3, pos := "call.go:25", after := #[{ on := 18, ground := Ground.data }, { on := 16, ground := Ground.guard }], guard := some (16, false) }) (v := undef) rfl (by kernel_rfl) (by kernel_rfl) (by kernel_rfl) (fun _ _ _ h => h) (Or.inr ⟨by rfl, rfl⟩) hS0 ?_
        try simp only [Act.put, List.setIfInBounds_toArray, List.set_cons_zero, List.set_cons_succ]
        refine wpAnyH_take (i := 20) (oi := { dst := some 32, op := Op.binOp BinOp.lss 3 (Operand.tmp 31) (Operand.const (Value.int IntKind.i64 1)) 3, type := 4, pos := "call.go:25", after := #[{ on := 19, ground := Ground.data }, { on := 16, ground := Ground.guard }], guard := some (16, false) }) (v := undef) rfl (by kernel_rfl) (by kernel_rfl) (by kernel_rfl) (fun _ _ _ h => h) (Or.inr ⟨by rfl, rfl⟩) hS0 ?_
        try simp only [Act.put, List.setIfInBounds_toArray, List.set_cons_zero, List.set_cons_succ]
        refine wpAnyH_take (i := 21) (oi := { dst := some 33, op := Op.pick (Operand.tmp 28) (Operand.const (Value.bool true)) (Operand.tmp 32), type := 4, pos := "call.go:25", after := #[{ on := 16, ground := Ground.data }, { on := 20, ground := Ground.data }], guard := none }) (v := .bool true) rfl (by kernel_rfl) (by kernel_rfl) (by kernel_rfl) (fun _ _ _ h => h) (Or.inl ⟨by rfl, by intro w hSw; go_simp⟩) hS0 ?_
        try simp only [Act.put, List.setIfInBounds_toArray, List.set_cons_zero, List.set_cons_succ]
        refine wpAnyH_take (i := 22) (oi := { dst := some 34, op := Op.move (Operand.tmp 33), type := 4, pos := "call.go:25", after := #[{ on := 21, ground := Ground.data }, { on := 16, ground := Ground.chain }], guard := none }) (v := .bool true) rfl (by kernel_rfl) (by kernel_rfl) (by kernel_rfl) (fun _ _ _ h => h) (Or.inl ⟨by rfl, by intro w hSw; go_simp⟩) hS0 ?_
        try simp only [Act.put, List.setIfInBounds_toArray, List.set_cons_zero, List.set_cons_succ]
        refine wpAnyH_take (i := 23) (oi := { dst := some 35, op := Op.fieldAddr 28 (Operand.tmp 4) 1, type := 0, pos := "call.go:25", after := #[{ on := 22, ground := Ground.guard }], guard := some (22, false) }) (v := undef) rfl (by kernel_rfl) (by kernel_rfl) (by kernel_rfl) (fun _ _ _ h => h) (Or.inr ⟨by rfl, rfl⟩) hS0 ?_
        try simp only [Act.put, List.setIfInBounds_toArray, List.set_cons_zero, List.set_cons_succ]
        refine wpAnyH_take (i := 24) (oi := { dst := some 36, op := Op.load 3 (Operand.tmp 35), type := 3, pos := "call.go:25", after := #[{ on := 23, ground := Ground.data }, { on := 22, ground := Ground.guard }], guard := some (22, false) }) (v := undef) rfl (by kernel_rfl) (by kernel_rfl) (by kernel_rfl) (fun _ _ _ h => h) (Or.inr ⟨by rfl, rfl⟩) hS0 ?_
        try simp only [Act.put, List.setIfInBounds_toArray, List.set_cons_zero, List.set_cons_succ]
        refine wpAnyH_take (i := 25) (oi := { dst := some 37, op := Op.binOp BinOp.lss 3 (Operand.tmp 36) (Operand.const (Value.int IntKind.i64 0)) 3, type := 4, pos := "call.go:25", after := #[{ on := 24, ground := Ground.data }, { on := 22, ground := Ground.guard }], guard := some (22, false) }) (v := undef) rfl (by kernel_rfl) (by kernel_rfl) (by kernel_rfl) (fun _ _ _ h => h) (Or.inr ⟨by rfl, rfl⟩) hS0 ?_
        try simp only [Act.put, List.setIfInBounds_toArray, List.set_cons_zero, List.set_cons_succ]
        refine wpAnyH_take (i := 26) (oi := { dst := some 38, op := Op.pick (Operand.tmp 34) (Operand.const (Value.bool true)) (Operand.tmp 37), type := 4, pos := "call.go:25", after := #[{ on := 22, ground := Ground.data }, { on := 25, ground := Ground.data }], guard := none }) (v := .bool true) rfl (by kernel_rfl) (by kernel_rfl) (by kernel_rfl) (fun _ _ _ h => h) (Or.inl ⟨by rfl, by intro w hSw; go_simp⟩) hS0 ?_
        try simp only [Act.put, List.setIfInBounds_toArray, List.set_cons_zero, List.set_cons_succ]
        refine wpAnyH_take (i := 27) (oi := { dst := some 39, op := Op.move (Operand.tmp 38), type := 4, pos := "call.go:25", after := #[{ on := 26, ground := Ground.data }, { on := 22, ground := Ground.chain }], guard := none }) (v := .bool true) rfl (by kernel_rfl) (by kernel_rfl) (by kernel_rfl) (fun _ _ _ h => h) (Or.inl ⟨by rfl, by intro w hSw; go_simp⟩) hS0 ?_
        try simp only [Act.put, List.setIfInBounds_toArray, List.set_cons_zero, List.set_cons_succ]
        refine wpAnyH_take (i := 28) (oi := { dst := some 40, op := Op.fieldAddr 28 (Operand.tmp 4) 1, type := 0, pos := "call.go:25", after := #[{ on := 27, ground := Ground.guard }], guard := some (27, false) }) (v := undef) rfl (by kernel_rfl) (by kernel_rfl) (by kernel_rfl) (fun _ _ _ h => h) (Or.inr ⟨by rfl, rfl⟩) hS0 ?_
        try simp only [Act.put, List.setIfInBounds_toArray, List.set_cons_zero, List.set_cons_succ]
        refine wpAnyH_take (i := 29) (oi := { dst := some 41, op := Op.load 3 (Operand.tmp 40), type := 3, pos := "call.go:25", after := #[{ on := 28, ground := Ground.data }, { on := 27, ground := Ground.guard }], guard := some (27, false) }) (v := undef) rfl (by kernel_rfl) (by kernel_rfl) (by kernel_rfl) (fun _ _ _ h => h) (Or.inr ⟨by rfl, rfl⟩) hS0 ?_
        try simp only [Act.put, List.setIfInBounds_toArray, List.set_cons_zero, List.set_cons_succ]
        refine wpAnyH_take (i := 30) (oi := { dst := some 42, op := Op.binOp BinOp.gtr 3 (Operand.tmp 41) (Operand.const (Value.int IntKind.i64 1099511627776)) 3, type := 4, pos := "call.go:25", after := #[{ on := 29, ground := Ground.data }, { on := 27, ground := Ground.guard }], guard := some (27, false) }) (v := undef) rfl (by kernel_rfl) (by kernel_rfl) (by kernel_rfl) (fun _ _ _ h => h) (Or.inr ⟨by rfl, rfl⟩) hS0 ?_
        try simp only [Act.put, List.setIfInBounds_toArray, List.set_cons_zero, List.set_cons_succ]
        refine wpAnyH_take (i := 31) (oi := { dst := some 43, op := Op.pick (Operand.tmp 39) (Operand.const (Value.bool true)) (Operand.tmp 42), type := 4, pos := "call.go:25", after := #[{ on := 27, ground := Ground.data }, { on := 30, ground := Ground.data }], guard := none }) (v := .bool true) rfl (by kernel_rfl) (by kernel_rfl) (by kernel_rfl) (fun _ _ _ h => h) (Or.inl ⟨by rfl, by intro w hSw; go_simp⟩) hS0 ?_
        try simp only [Act.put, List.setIfInBounds_toArray, List.set_cons_zero, List.set_cons_succ]
        refine wpAnyH_take (i := 32) (oi := { dst := some 44, op := Op.move (Operand.tmp 43), type := 4, pos := "call.go:25", after := #[{ on := 31, ground := Ground.data }, { on := 27, ground := Ground.chain }], guard := none }) (v := .bool true) rfl (by kernel_rfl) (by kernel_rfl) (by kernel_rfl) (fun _ _ _ h => h) (Or.inl ⟨by rfl, by intro w hSw; go_simp⟩) hS0 ?_
        try simp only [Act.put, List.setIfInBounds_toArray, List.set_cons_zero, List.set_cons_succ]
        refine wpAnyH_take (i := 33) (oi := { dst := some 45, op := Op.move (Operand.tmp 3), type := 3, pos := "call.go:25", after := #[{ on := 32, ground := Ground.guard }], guard := some (32, false) }) (v := undef) rfl (by kernel_rfl) (by kernel_rfl) (by kernel_rfl) (fun _ _ _ h => h) (Or.inr ⟨by rfl, rfl⟩) hS0 ?_
        try simp only [Act.put, List.setIfInBounds_toArray, List.set_cons_zero, List.set_cons_succ]
        refine wpAnyH_take (i := 34) (oi := { dst := some 46, op := Op.binOp BinOp.gtr 3 (Operand.tmp 45) (Operand.const (Value.int IntKind.i64 0)) 3, type := 4, pos := "call.go:25", after := #[{ on := 33, ground := Ground.data }, { on := 32, ground := Ground.guard }], guard := some (32, false) }) (v := undef) rfl (by kernel_rfl) (by kernel_rfl) (by kernel_rfl) (fun _ _ _ h => h) (Or.inr ⟨by rfl, rfl⟩) hS0 ?_
        try simp only [Act.put, List.setIfInBounds_toArray, List.set_cons_zero, List.set_cons_succ]
        refine wpAnyH_take (i := 35) (oi := { dst := some 47, op := Op.move (Operand.tmp 46), type := 4, pos := "call.go:25", after := #[{ on := 34, ground := Ground.data }, { on := 32, ground := Ground.chain }, { on := 32, ground := Ground.guard }], guard := some (32, false) }) (v := undef) rfl (by kernel_rfl) (by kernel_rfl) (by kernel_rfl) (fun _ _ _ h => h) (Or.inr ⟨by rfl, rfl⟩) hS0 ?_
        try simp only [Act.put, List.setIfInBounds_toArray, List.set_cons_zero, List.set_cons_succ]
        refine wpAnyH_take (i := 36) (oi := { dst := some 48, op := Op.move (Operand.tmp 0), type := 22, pos := "call.go:25", after := #[{ on := 35, ground := Ground.guard }], guard := some (35, true) }) (v := undef) rfl (by kernel_rfl) (by kernel_rfl) (by kernel_rfl) (fun _ _ _ h => h) (Or.inr ⟨by rfl, rfl⟩) hS0 ?_
        try simp only [Act.put, List.setIfInBounds_toArray, List.set_cons_zero, List.set_cons_succ]
        refine wpAnyH_take (i := 37) (oi := { dst := some 49, op := Op.move (Operand.tmp 3), type := 3, pos := "call.go:25", after := #[{ on := 35, ground := Ground.guard }], guard := some (35, true) }) (v := undef) rfl (by kernel_rfl) (by kernel_rfl) (by kernel_rfl) (fun _ _ _ h => h) (Or.inr ⟨by rfl, rfl⟩) hS0 ?_
        try simp only [Act.put, List.setIfInBounds_toArray, List.set_cons_zero, List.set_cons_succ]
        refine wpAnyH_take (i := 38) (oi := { dst := some 50, op := Op.binOp BinOp.sub 3 (Operand.tmp 49) (Operand.const (Value.int IntKind.i64 1)) 3, type := 3, pos := "call.go:25", after := #[{ on := 37, ground := Ground.data }, { on := 35, ground := Ground.guard }], guard := some (35, true) }) (v := undef) rfl (by kernel_rfl) (by kernel_rfl) (by kernel_rfl) (fun _ _ _ h => h) (Or.inr ⟨by rfl, rfl⟩) hS0 ?_
        try simp only [Act.put, List.setIfInBounds_toArray, List.set_cons_zero, List.set_cons_succ]
        refine wpAnyH_take (i := 39) (oi := { dst := some 51, op := Op.indexAddr 22 (Operand.tmp 48) (Operand.tmp 50), type := 0, pos := "call.go:25", after := #[{ on := 36, ground := Ground.data }, { on := 38, ground := Ground.data }, { on := 35, ground := Ground.guard }], guard := some (35, true) }) (v := undef) rfl (by kernel_rfl) (by kernel_rfl) (by kernel_rfl) (fun _ _ _ h => h) (Or.inr ⟨by rfl, rfl⟩) hS0 ?_
        try simp only [Act.put, List.setIfInBounds_toArray, List.set_cons_zero, List.set_cons_succ]
        refine wpAnyH_take (i := 40) (oi := { dst := some 52, op := Op.load 28 (Operand.tmp 51), type := 28, pos := "call.go:25", after := #[{ on := 39, ground := Ground.data }, { on := 35, ground := Ground.guard }], guard := some (35, true) }) (v := undef) rfl (by kernel_rfl) (by kernel_rfl) (by kernel_rfl) (fun _ _ _ h => h) (Or.inr ⟨by rfl, rfl⟩) hS0 ?_
        try simp only [Act.put, List.setIfInBounds_toArray, List.set_cons_zero, List.set_cons_succ]
        refine wpAnyH_take (i := 41) (oi := { dst := some 53, op := Op.fieldAddr 28 (Operand.tmp 4) 0, type := 0, pos := "call.go:25", after := #[{ on := 35, ground := Ground.guard }], guard := some (35, true) }) (v := undef) rfl (by kernel_rfl) (by kernel_rfl) (by kernel_rfl) (fun _ _ _ h => h) (Or.inr ⟨by rfl, rfl⟩) hS0 ?_
        try simp only [Act.put, List.setIfInBounds_toArray, List.set_cons_zero, List.set_cons_succ]
        refine wpAnyH_take (i := 42) (oi := { dst := some 54, op := Op.fieldAddr 26 (Operand.tmp 53) 0, type := 0, pos := "call.go:25", after := #[{ on := 41, ground := Ground.data }, { on := 35, ground := Ground.guard }], guard := some (35, true) }) (v := undef) rfl (by kernel_rfl) (by kernel_rfl) (by kernel_rfl) (fun _ _ _ h => h) (Or.inr ⟨by rfl, rfl⟩) hS0 ?_
        try simp only [Act.put, List.setIfInBounds_toArray, List.set_cons_zero, List.set_cons_succ]
        refine wpAnyH_take (i := 43) (oi := { dst := some 55, op := Op.load 3 (Operand.tmp 54), type := 3, pos := "call.go:25", after := #[{ on := 42, ground := Ground.data }, { on := 35, ground := Ground.guard }], guard := some (35, true) }) (v := undef) rfl (by kernel_rfl) (by kernel_rfl) (by kernel_rfl) (fun _ _ _ h => h) (Or.inr ⟨by rfl, rfl⟩) hS0 ?_
        try simp only [Act.put, List.setIfInBounds_toArray, List.set_cons_zero, List.set_cons_succ]
        refine wpAnyH_take (i := 44) (oi := { dst := some 56, op := Op.fieldAddr 28 (Operand.tmp 4) 0, type := 0, pos := "call.go:25", after := #[{ on := 35, ground := Ground.guard }], guard := some (35, true) }) (v := undef) rfl (by kernel_rfl) (by kernel_rfl) (by kernel_rfl) (fun _ _ _ h => h) (Or.inr ⟨by rfl, rfl⟩) hS0 ?_
        try simp only [Act.put, List.setIfInBounds_toArray, List.set_cons_zero, List.set_cons_succ]
        refine wpAnyH_take (i := 45) (oi := { dst := some 57, op := Op.fieldAddr 26 (Operand.tmp 56) 1, type := 0, pos := "call.go:25", after := #[{ on := 44, ground := Ground.data }, { on := 35, ground := Ground.guard }], guard := some (35, true) }) (v := undef) rfl (by kernel_rfl) (by kernel_rfl) (by kernel_rfl) (fun _ _ _ h => h) (Or.inr ⟨by rfl, rfl⟩) hS0 ?_
        try simp only [Act.put, List.setIfInBounds_toArray, List.set_cons_zero, List.set_cons_succ]
        refine wpAnyH_take (i := 46) (oi := { dst := some 58, op := Op.load 3 (Operand.tmp 57), type := 3, pos := "call.go:25", after := #[{ on := 45, ground := Ground.data }, { on := 35, ground := Ground.guard }], guard := some (35, true) }) (v := undef) rfl (by kernel_rfl) (by kernel_rfl) (by kernel_rfl) (fun _ _ _ h => h) (Or.inr ⟨by rfl, rfl⟩) hS0 ?_
        try simp only [Act.put, List.setIfInBounds_toArray, List.set_cons_zero, List.set_cons_succ]
        refine wpAnyH_take (i := 47) (oi := { dst := some 59, op := Op.call { callee := Callee.value (Operand.func 35), args := #[Operand.tmp 52, Operand.tmp 55, Operand.tmp 58], argTypes := #[28, 3, 3] }, type := 3, pos := "call.go:25", after := #[{ on := 40, ground := Ground.data }, { on := 43, ground := Ground.data }, { on := 46, ground := Ground.data }, { on := 35, ground := Ground.chain }, { on := 35, ground := Ground.guard }], guard := some (35, true) }) (v := undef) rfl (by kernel_rfl) (by kernel_rfl) (by kernel_rfl) (fun _ _ _ h => h) (Or.inr ⟨by rfl, rfl⟩) hS0 ?_
        try simp only [Act.put, List.setIfInBounds_toArray, List.set_cons_zero, List.set_cons_succ]
        refine wpAnyH_take (i := 48) (oi := { dst := some 60, op := Op.binOp BinOp.geq 3 (Operand.tmp 59) (Operand.const (Value.int IntKind.i64 0)) 3, type := 4, pos := "call.go:25", after := #[{ on := 47, ground := Ground.data }, { on := 35, ground := Ground.guard }], guard := some (35, true) }) (v := undef) rfl (by kernel_rfl) (by kernel_rfl) (by kernel_rfl) (fun _ _ _ h => h) (Or.inr ⟨by rfl, rfl⟩) hS0 ?_
        try simp only [Act.put, List.setIfInBounds_toArray, List.set_cons_zero, List.set_cons_succ]
        refine wpAnyH_take (i := 49) (oi := { dst := some 61, op := Op.pick (Operand.tmp 47) (Operand.tmp 60) (Operand.const (Value.bool false)), type := 4, pos := "call.go:25", after := #[{ on := 35, ground := Ground.data }, { on := 48, ground := Ground.data }, { on := 32, ground := Ground.guard }], guard := some (32, false) }) (v := undef) rfl (by kernel_rfl) (by kernel_rfl) (by kernel_rfl) (fun _ _ _ h => h) (Or.inr ⟨by rfl, rfl⟩) hS0 ?_
        try simp only [Act.put, List.setIfInBounds_toArray, List.set_cons_zero, List.set_cons_succ]
        refine wpAnyH_take (i := 50) (oi := { dst := some 62, op := Op.pick (Operand.tmp 44) (Operand.const (Value.bool true)) (Operand.tmp 61), type := 4, pos := "call.go:25", after := #[{ on := 32, ground := Ground.data }, { on := 49, ground := Ground.data }], guard := none }) (v := .bool true) rfl (by kernel_rfl) (by kernel_rfl) (by kernel_rfl) (fun _ _ _ h => h) (Or.inl ⟨by rfl, by intro w hSw; go_simp⟩) hS0 ?_
        try simp only [Act.put, List.setIfInBounds_toArray, List.set_cons_zero, List.set_cons_succ]
        refine wpAnyH_done (by kernel_rfl) ?_ _
        have hbe := hS0.2.2.2.2
        clear hlit rg nr
        go_wp2_with fail
        go_ret
        exact ⟨by rw [HBAD.out]; rfl, hbe⟩
      | true =>
        rw [hr] at rg
        have Hr := Lib.hid hr
        clear hr
        cases hr : rightB ca with
        | false =>
          have HBAD := Lib.hid (HBAD0.out (by rw [HAT.out, HB.out, Hr.out, hr]; rfl))
          rw [hr] at nr
          have hSW := hS4
          clear hr hS4 HBAD0 HOK0 HAT HB HO
          have hSA := keepK4 ((Below.refl _ W).alloc (Nat.le_refl _) (.cells #[.int .i64 ca] 3)).drew hSW
          refine wp_region_held_drew (S := (fun wx => wx.cell? ⟨gc, 0, none⟩ = some (.int .i64 cw) ∧ wx.cell? ⟨gc, 1, none⟩ = some (.int .i64 cc) ∧ wx.cell? ⟨gc, 2, none⟩ = some (.int .i64 ca) ∧ wx.cell? ⟨gc, 3, none⟩ = some (.int .i64 ct) ∧ Below w.heap.size w wx)) (by kernel_rfl) (keepK4 (Below.refl _ _).drew hSW) (fun hS0 => ?_)
          clear hSW
          refine wpAnyH_take (i := 0) (oi := { dst := some 12, op := Op.fieldAddr 28 (Operand.tmp 4) 0, type := 0, pos := "call.go:25", after := #[], guard := none }) (v := .pointer (some ⟨gc, 0, none⟩)) rfl (by kernel_rfl) (by kernel_rfl) (by kernel_rfl) (fun _ _ _ h => h) (Or.inl ⟨by rfl, by intro w hSw; go_simp⟩) hS0 ?_
          try simp only [Act.put, List.setIfInBounds_toArray, List.set_cons_zero, List.set_cons_succ]
          refine wpAnyH_take (i := 1) (oi := { dst := some 13, op := Op.fieldAddr 26 (Operand.tmp 12) 0, type := 0, pos := "call.go:25", after := #[{ on := 0, ground := Ground.data }], guard := none }) (v := .pointer (some ⟨gc, 0, none⟩)) rfl (by kernel_rfl) (by kernel_rfl) (by kernel_rfl) (fun _ _ _ h => h) (Or.inl ⟨by rfl, by intro w hSw; go_simp⟩) hS0 ?_
          try simp only [Act.put, List.setIfInBounds_toArray, List.set_cons_zero, List.set_cons_succ]
          refine wpAnyH_take (i := 2) (oi := { dst := some 14, op := Op.load 3 (Operand.tmp 13), type := 3, pos := "call.go:25", after := #[{ on := 1, ground := Ground.data }], guard := none }) (v := .int .i64 cw) rfl (by kernel_rfl) (by kernel_rfl) (by kernel_rfl) (fun _ _ _ h => h) (Or.inl ⟨by rfl, by intro w hSw; obtain ⟨h0, h1, h2, h3, _⟩ := hSw; go_simp⟩) hS0 ?_
          try simp only [Act.put, List.setIfInBounds_toArray, List.set_cons_zero, List.set_cons_succ]
          refine wpAnyH_take (i := 3) (oi := { dst := some 15, op := Op.fieldAddr 28 (Operand.tmp 4) 0, type := 0, pos := "call.go:25", after := #[], guard := none }) (v := .pointer (some ⟨gc, 0, none⟩)) rfl (by kernel_rfl) (by kernel_rfl) (by kernel_rfl) (fun _ _ _ h => h) (Or.inl ⟨by rfl, by intro w hSw; go_simp⟩) hS0 ?_
          try simp only [Act.put, List.setIfInBounds_toArray, List.set_cons_zero, List.set_cons_succ]
          refine wpAnyH_take (i := 4) (oi := { dst := some 16, op := Op.fieldAddr 26 (Operand.tmp 15) 1, type := 0, pos := "call.go:25", after := #[{ on := 3, ground := Ground.data }], guard := none }) (v := .pointer (some ⟨gc, 1, none⟩)) rfl (by kernel_rfl) (by kernel_rfl) (by kernel_rfl) (fun _ _ _ h => h) (Or.inl ⟨by rfl, by intro w hSw; go_simp⟩) hS0 ?_
          try simp only [Act.put, List.setIfInBounds_toArray, List.set_cons_zero, List.set_cons_succ]
          refine wpAnyH_take (i := 5) (oi := { dst := some 17, op := Op.load 3 (Operand.tmp 16), type := 3, pos := "call.go:25", after := #[{ on := 4, ground := Ground.data }], guard := none }) (v := .int .i64 cc) rfl (by kernel_rfl) (by kernel_rfl) (by kernel_rfl) (fun _ _ _ h => h) (Or.inl ⟨by rfl, by intro w hSw; obtain ⟨h0, h1, h2, h3, _⟩ := hSw; go_simp⟩) hS0 ?_
          try simp only [Act.put, List.setIfInBounds_toArray, List.set_cons_zero, List.set_cons_succ]
          refine wpAnyH_ready (rs := [6]) (by kernel_rfl) (by simp) ?_
          refine AllReadyH.cons (o := { dst := some 18, op := Op.call { callee := Callee.value (Operand.func 33), args := #[Operand.tmp 14, Operand.tmp 17], argTypes := #[3, 3] }, type := 4, pos := "call.go:25", after := #[{ on := 2, ground := Ground.data }, { on := 5, ground := Ground.data }], guard := none }) rfl (fun K hK => ?_) AllReadyH.nil
          go_simp
          go_at_call 33
          (with_reducible refine (rg _).mono ?_)
          rintro e w1 ⟨rfl, rfl⟩
          go_simp
          refine hK.out _ _ hS0 (fun _ => ?_)
          clear hK K
          try simp only [Act.put, List.setIfInBounds_toArray, List.set_cons_zero, List.set_cons_succ]
          refine wpAnyH_take (i := 7) (oi := { dst := some 19, op := Op.unOp UnOp.not 4 (Operand.tmp 18), type := 4, pos := "call.go:25", after := #[{ on := 6, ground := Ground.data }], guard := none }) (v := .bool false) rfl (by kernel_rfl) (by kernel_rfl) (by kernel_rfl) (fun _ _ _ h => h) (Or.inl ⟨by rfl, by intro w hSw; go_simp⟩) hS0 ?_
          try simp only [Act.put, List.setIfInBounds_toArray, List.set_cons_zero, List.set_cons_succ]
          refine wpAnyH_take (i := 8) (oi := { dst := some 20, op := Op.move (Operand.tmp 19), type := 4, pos := "call.go:25", after := #[{ on := 7, ground := Ground.data }, { on := 6, ground := Ground.chain }], guard := none }) (v := .bool false) rfl (by kernel_rfl) (by kernel_rfl) (by kernel_rfl) (fun _ _ _ h => h) (Or.inl ⟨by rfl, by intro w hSw; go_simp⟩) hS0 ?_
          try simp only [Act.put, List.setIfInBounds_toArray, List.set_cons_zero, List.set_cons_succ]
          refine wpAnyH_take (i := 9) (oi := { dst := some 21, op := Op.fieldAddr 28 (Operand.tmp 4) 0, type := 0, pos := "call.go:25", after := #[{ on := 8, ground := Ground.guard }], guard := some (8, false) }) (v := .pointer (some ⟨gc, 0, none⟩)) rfl (by kernel_rfl) (by kernel_rfl) (by kernel_rfl) (fun _ _ _ h => h) (Or.inl ⟨by rfl, by intro w hSw; go_simp⟩) hS0 ?_
          try simp only [Act.put, List.setIfInBounds_toArray, List.set_cons_zero, List.set_cons_succ]
          refine wpAnyH_take (i := 10) (oi := { dst := some 22, op := Op.fieldAddr 26 (Operand.tmp 21) 2, type := 0, pos := "call.go:25", after := #[{ on := 9, ground := Ground.data }, { on := 8, ground := Ground.guard }], guard := some (8, false) }) (v := .pointer (some ⟨gc, 2, none⟩)) rfl (by kernel_rfl) (by kernel_rfl) (by kernel_rfl) (fun _ _ _ h => h) (Or.inl ⟨by rfl, by intro w hSw; go_simp⟩) hS0 ?_
          try simp only [Act.put, List.setIfInBounds_toArray, List.set_cons_zero, List.set_cons_succ]
          refine wpAnyH_take (i := 11) (oi := { dst := some 23, op := Op.load 3 (Operand.tmp 22), type := 3, pos := "call.go:25", after := #[{ on := 10, ground := Ground.data }, { on := 8, ground := Ground.guard }], guard := some (8, false) }) (v := .int .i64 ca) rfl (by kernel_rfl) (by kernel_rfl) (by kernel_rfl) (fun _ _ _ h => h) (Or.inl ⟨by rfl, by intro w hSw; obtain ⟨h0, h1, h2, h3, _⟩ := hSw; go_simp⟩) hS0 ?_
          try simp only [Act.put, List.setIfInBounds_toArray, List.set_cons_zero, List.set_cons_succ]
          refine wpAnyH_ready (rs := [12]) (by kernel_rfl) (by simp) ?_
          refine AllReadyH.cons (o := { dst := some 24, op := Op.buildSlice 32 1 #[(0, Operand.tmp 23)], type := 32, pos := "call.go:25", after := #[{ on := 11, ground := Ground.data }, { on := 8, ground := Ground.guard }], guard := some (8, false) }) rfl (fun K hK => ?_) AllReadyH.nil
          go_simp
          refine hK.out _ _ hSA (fun _ => ?_)
          clear hK K
          try simp only [Act.put, List.setIfInBounds_toArray, List.set_cons_zero, List.set_cons_succ]
          refine wpAnyH_ready (rs := [13]) (by kernel_rfl) (by simp) ?_
          refine AllReadyH.cons (o := { dst := some 25, op := Op.call { callee := Callee.value (Operand.func 34), args := #[Operand.tmp 24], argTypes := #[32] }, type := 4, pos := "call.go:25", after := #[{ on := 12, ground := Ground.data }, { on := 8, ground := Ground.chain }, { on := 8, ground := Ground.guard }], guard := some (8, false) }) rfl (fun K hK => ?_) AllReadyH.nil
          go_simp
          go_at_call 34
          (with_reducible refine (nr _ hlit).mono ?_)
          rintro e w1 ⟨rfl, rfl⟩
          go_simp
          refine hK.out _ _ hSA (fun _ => ?_)
          clear hK K
          try simp only [Act.put, List.setIfInBounds_toArray, List.set_cons_zero, List.set_cons_succ]
          refine wpAnyH_take (i := 14) (oi := { dst := some 26, op := Op.unOp UnOp.not 4 (Operand.tmp 25), type := 4, pos := "call.go:25", after := #[{ on := 13, ground := Ground.data }, { on := 8, ground := Ground.guard }], guard := some (8, false) }) (v := .bool true) rfl (by kernel_rfl) (by kernel_rfl) (by kernel_rfl) (fun _ _ _ h => h) (Or.inl ⟨by rfl, by intro w hSw; go_simp⟩) hSA ?_
          try simp only [Act.put, List.setIfInBounds_toArray, List.set_cons_zero, List.set_cons_succ]
          refine wpAnyH_take (i := 15) (oi := { dst := some 27, op := Op.pick (Operand.tmp 20) (Operand.const (Value.bool true)) (Operand.tmp 26), type := 4, pos := "call.go:25", after := #[{ on := 8, ground := Ground.data }, { on := 14, ground := Ground.data }], guard := none }) (v := .bool true) rfl (by kernel_rfl) (by kernel_rfl) (by kernel_rfl) (fun _ _ _ h => h) (Or.inl ⟨by rfl, by intro w hSw; go_simp⟩) hSA ?_
          try simp only [Act.put, List.setIfInBounds_toArray, List.set_cons_zero, List.set_cons_succ]
          refine wpAnyH_take (i := 16) (oi := { dst := some 28, op := Op.move (Operand.tmp 27), type := 4, pos := "call.go:25", after := #[{ on := 15, ground := Ground.data }, { on := 13, ground := Ground.chain }], guard := none }) (v := .bool true) rfl (by kernel_rfl) (by kernel_rfl) (by kernel_rfl) (fun _ _ _ h => h) (Or.inl ⟨by rfl, by intro w hSw; go_simp⟩) hSA ?_
          try simp only [Act.put, List.setIfInBounds_toArray, List.set_cons_zero, List.set_cons_succ]
          refine wpAnyH_take (i := 17) (oi := { dst := some 29, op := Op.fieldAddr 28 (Operand.tmp 4) 0, type := 0, pos := "call.go:25", after := #[{ on := 16, ground := Ground.guard }], guard := some (16, false) }) (v := undef) rfl (by kernel_rfl) (by kernel_rfl) (by kernel_rfl) (fun _ _ _ h => h) (Or.inr ⟨by rfl, rfl⟩) hSA ?_
          try simp only [Act.put, List.setIfInBounds_toArray, List.set_cons_zero, List.set_cons_succ]
          refine wpAnyH_take (i := 18) (oi := { dst := some 30, op := Op.fieldAddr 26 (Operand.tmp 29) 2, type := 0, pos := "call.go:25", after := #[{ on := 17, ground := Ground.data }, { on := 16, ground := Ground.guard }], guard := some (16, false) }) (v := undef) rfl (by kernel_rfl) (by kernel_rfl) (by kernel_rfl) (fun _ _ _ h => h) (Or.inr ⟨by rfl, rfl⟩) hSA ?_
          try simp only [Act.put, List.setIfInBounds_toArray, List.set_cons_zero, List.set_cons_succ]
          refine wpAnyH_take (i := 19) (oi := { dst := some 31, op := Op.load 3 (Operand.tmp 30), type := 3, pos := "call.go:25", after := #[{ on := 18, ground := Ground.data }, { on := 16, ground := Ground.guard }], guard := some (16, false) }) (v := undef) rfl (by kernel_rfl) (by kernel_rfl) (by kernel_rfl) (fun _ _ _ h => h) (Or.inr ⟨by rfl, rfl⟩) hSA ?_
          try simp only [Act.put, List.setIfInBounds_toArray, List.set_cons_zero, List.set_cons_succ]
          refine wpAnyH_take (i := 20) (oi := { dst := some 32, op := Op.binOp BinOp.lss 3 (Operand.tmp 31) (Operand.const (Value.int IntKind.i64 1)) 3, type := 4, pos := "call.go:25", after := #[{ on := 19, ground := Ground.data }, { on := 16, ground := Ground.guard }], guard := some (16, false) }) (v := undef) rfl (by kernel_rfl) (by kernel_rfl) (by kernel_rfl) (fun _ _ _ h => h) (Or.inr ⟨by rfl, rfl⟩) hSA ?_
          try simp only [Act.put, List.setIfInBounds_toArray, List.set_cons_zero, List.set_cons_succ]
          refine wpAnyH_take (i := 21) (oi := { dst := some 33, op := Op.pick (Operand.tmp 28) (Operand.const (Value.bool true)) (Operand.tmp 32), type := 4, pos := "call.go:25", after := #[{ on := 16, ground := Ground.data }, { on := 20, ground := Ground.data }], guard := none }) (v := .bool true) rfl (by kernel_rfl) (by kernel_rfl) (by kernel_rfl) (fun _ _ _ h => h) (Or.inl ⟨by rfl, by intro w hSw; go_simp⟩) hSA ?_
          try simp only [Act.put, List.setIfInBounds_toArray, List.set_cons_zero, List.set_cons_succ]
          refine wpAnyH_take (i := 22) (oi := { dst := some 34, op := Op.move (Operand.tmp 33), type := 4, pos := "call.go:25", after := #[{ on := 21, ground := Ground.data }, { on := 16, ground := Ground.chain }], guard := none }) (v := .bool true) rfl (by kernel_rfl) (by kernel_rfl) (by kernel_rfl) (fun _ _ _ h => h) (Or.inl ⟨by rfl, by intro w hSw; go_simp⟩) hSA ?_
          try simp only [Act.put, List.setIfInBounds_toArray, List.set_cons_zero, List.set_cons_succ]
          refine wpAnyH_take (i := 23) (oi := { dst := some 35, op := Op.fieldAddr 28 (Operand.tmp 4) 1, type := 0, pos := "call.go:25", after := #[{ on := 22, ground := Ground.guard }], guard := some (22, false) }) (v := undef) rfl (by kernel_rfl) (by kernel_rfl) (by kernel_rfl) (fun _ _ _ h => h) (Or.inr ⟨by rfl, rfl⟩) hSA ?_
          try simp only [Act.put, List.setIfInBounds_toArray, List.set_cons_zero, List.set_cons_succ]
          refine wpAnyH_take (i := 24) (oi := { dst := some 36, op := Op.load 3 (Operand.tmp 35), type := 3, pos := "call.go:25", after := #[{ on := 23, ground := Ground.data }, { on := 22, ground := Ground.guard }], guard := some (22, false) }) (v := undef) rfl (by kernel_rfl) (by kernel_rfl) (by kernel_rfl) (fun _ _ _ h => h) (Or.inr ⟨by rfl, rfl⟩) hSA ?_
          try simp only [Act.put, List.setIfInBounds_toArray, List.set_cons_zero, List.set_cons_succ]
          refine wpAnyH_take (i := 25) (oi := { dst := some 37, op := Op.binOp BinOp.lss 3 (Operand.tmp 36) (Operand.const (Value.int IntKind.i64 0)) 3, type := 4, pos := "call.go:25", after := #[{ on := 24, ground := Ground.data }, { on := 22, ground := Ground.guard }], guard := some (22, false) }) (v := undef) rfl (by kernel_rfl) (by kernel_rfl) (by kernel_rfl) (fun _ _ _ h => h) (Or.inr ⟨by rfl, rfl⟩) hSA ?_
          try simp only [Act.put, List.setIfInBounds_toArray, List.set_cons_zero, List.set_cons_succ]
          refine wpAnyH_take (i := 26) (oi := { dst := some 38, op := Op.pick (Operand.tmp 34) (Operand.const (Value.bool true)) (Operand.tmp 37), type := 4, pos := "call.go:25", after := #[{ on := 22, ground := Ground.data }, { on := 25, ground := Ground.data }], guard := none }) (v := .bool true) rfl (by kernel_rfl) (by kernel_rfl) (by kernel_rfl) (fun _ _ _ h => h) (Or.inl ⟨by rfl, by intro w hSw; go_simp⟩) hSA ?_
          try simp only [Act.put, List.setIfInBounds_toArray, List.set_cons_zero, List.set_cons_succ]
          refine wpAnyH_take (i := 27) (oi := { dst := some 39, op := Op.move (Operand.tmp 38), type := 4, pos := "call.go:25", after := #[{ on := 26, ground := Ground.data }, { on := 22, ground := Ground.chain }], guard := none }) (v := .bool true) rfl (by kernel_rfl) (by kernel_rfl) (by kernel_rfl) (fun _ _ _ h => h) (Or.inl ⟨by rfl, by intro w hSw; go_simp⟩) hSA ?_
          try simp only [Act.put, List.setIfInBounds_toArray, List.set_cons_zero, List.set_cons_succ]
          refine wpAnyH_take (i := 28) (oi := { dst := some 40, op := Op.fieldAddr 28 (Operand.tmp 4) 1, type := 0, pos := "call.go:25", after := #[{ on := 27, ground := Ground.guard }], guard := some (27, false) }) (v := undef) rfl (by kernel_rfl) (by kernel_rfl) (by kernel_rfl) (fun _ _ _ h => h) (Or.inr ⟨by rfl, rfl⟩) hSA ?_
          try simp only [Act.put, List.setIfInBounds_toArray, List.set_cons_zero, List.set_cons_succ]
          refine wpAnyH_take (i := 29) (oi := { dst := some 41, op := Op.load 3 (Operand.tmp 40), type := 3, pos := "call.go:25", after := #[{ on := 28, ground := Ground.data }, { on := 27, ground := Ground.guard }], guard := some (27, false) }) (v := undef) rfl (by kernel_rfl) (by kernel_rfl) (by kernel_rfl) (fun _ _ _ h => h) (Or.inr ⟨by rfl, rfl⟩) hSA ?_
          try simp only [Act.put, List.setIfInBounds_toArray, List.set_cons_zero, List.set_cons_succ]
          refine wpAnyH_take (i := 30) (oi := { dst := some 42, op := Op.binOp BinOp.gtr 3 (Operand.tmp 41) (Operand.const (Value.int IntKind.i64 1099511627776)) 3, type := 4, pos := "call.go:25", after := #[{ on := 29, ground := Ground.data }, { on := 27, ground := Ground.guard }], guard := some (27, false) }) (v := undef) rfl (by kernel_rfl) (by kernel_rfl) (by kernel_rfl) (fun _ _ _ h => h) (Or.inr ⟨by rfl, rfl⟩) hSA ?_
          try simp only [Act.put, List.setIfInBounds_toArray, List.set_cons_zero, List.set_cons_succ]
          refine wpAnyH_take (i := 31) (oi := { dst := some 43, op := Op.pick (Operand.tmp 39) (Operand.const (Value.bool true)) (Operand.tmp 42), type := 4, pos := "call.go:25", after := #[{ on := 27, ground := Ground.data }, { on := 30, ground := Ground.data }], guard := none }) (v := .bool true) rfl (by kernel_rfl) (by kernel_rfl) (by kernel_rfl) (fun _ _ _ h => h) (Or.inl ⟨by rfl, by intro w hSw; go_simp⟩) hSA ?_
          try simp only [Act.put, List.setIfInBounds_toArray, List.set_cons_zero, List.set_cons_succ]
          refine wpAnyH_take (i := 32) (oi := { dst := some 44, op := Op.move (Operand.tmp 43), type := 4, pos := "call.go:25", after := #[{ on := 31, ground := Ground.data }, { on := 27, ground := Ground.chain }], guard := none }) (v := .bool true) rfl (by kernel_rfl) (by kernel_rfl) (by kernel_rfl) (fun _ _ _ h => h) (Or.inl ⟨by rfl, by intro w hSw; go_simp⟩) hSA ?_
          try simp only [Act.put, List.setIfInBounds_toArray, List.set_cons_zero, List.set_cons_succ]
          refine wpAnyH_take (i := 33) (oi := { dst := some 45, op := Op.move (Operand.tmp 3), type := 3, pos := "call.go:25", after := #[{ on := 32, ground := Ground.guard }], guard := some (32, false) }) (v := undef) rfl (by kernel_rfl) (by kernel_rfl) (by kernel_rfl) (fun _ _ _ h => h) (Or.inr ⟨by rfl, rfl⟩) hSA ?_
          try simp only [Act.put, List.setIfInBounds_toArray, List.set_cons_zero, List.set_cons_succ]
          refine wpAnyH_take (i := 34) (oi := { dst := some 46, op := Op.binOp BinOp.gtr 3 (Operand.tmp 45) (Operand.const (Value.int IntKind.i64 0)) 3, type := 4, pos := "call.go:25", after := #[{ on := 33, ground := Ground.data }, { on := 32, ground := Ground.guard }], guard := some (32, false) }) (v := undef) rfl (by kernel_rfl) (by kernel_rfl) (by kernel_rfl) (fun _ _ _ h => h) (Or.inr ⟨by rfl, rfl⟩) hSA ?_
          try simp only [Act.put, List.setIfInBounds_toArray, List.set_cons_zero, List.set_cons_succ]
          refine wpAnyH_take (i := 35) (oi := { dst := some 47, op := Op.move (Operand.tmp 46), type := 4, pos := "call.go:25", after := #[{ on := 34, ground := Ground.data }, { on := 32, ground := Ground.chain }, { on := 32, ground := Ground.guard }], guard := some (32, false) }) (v := undef) rfl (by kernel_rfl) (by kernel_rfl) (by kernel_rfl) (fun _ _ _ h => h) (Or.inr ⟨by rfl, rfl⟩) hSA ?_
          try simp only [Act.put, List.setIfInBounds_toArray, List.set_cons_zero, List.set_cons_succ]
          refine wpAnyH_take (i := 36) (oi := { dst := some 48, op := Op.move (Operand.tmp 0), type := 22, pos := "call.go:25", after := #[{ on := 35, ground := Ground.guard }], guard := some (35, true) }) (v := undef) rfl (by kernel_rfl) (by kernel_rfl) (by kernel_rfl) (fun _ _ _ h => h) (Or.inr ⟨by rfl, rfl⟩) hSA ?_
          try simp only [Act.put, List.setIfInBounds_toArray, List.set_cons_zero, List.set_cons_succ]
          refine wpAnyH_take (i := 37) (oi := { dst := some 49, op := Op.move (Operand.tmp 3), type := 3, pos := "call.go:25", after := #[{ on := 35, ground := Ground.guard }], guard := some (35, true) }) (v := undef) rfl (by kernel_rfl) (by kernel_rfl) (by kernel_rfl) (fun _ _ _ h => h) (Or.inr ⟨by rfl, rfl⟩) hSA ?_
          try simp only [Act.put, List.setIfInBounds_toArray, List.set_cons_zero, List.set_cons_succ]
          refine wpAnyH_take (i := 38) (oi := { dst := some 50, op := Op.binOp BinOp.sub 3 (Operand.tmp 49) (Operand.const (Value.int IntKind.i64 1)) 3, type := 3, pos := "call.go:25", after := #[{ on := 37, ground := Ground.data }, { on := 35, ground := Ground.guard }], guard := some (35, true) }) (v := undef) rfl (by kernel_rfl) (by kernel_rfl) (by kernel_rfl) (fun _ _ _ h => h) (Or.inr ⟨by rfl, rfl⟩) hSA ?_
          try simp only [Act.put, List.setIfInBounds_toArray, List.set_cons_zero, List.set_cons_succ]
          refine wpAnyH_take (i := 39) (oi := { dst := some 51, op := Op.indexAddr 22 (Operand.tmp 48) (Operand.tmp 50), type := 0, pos := "call.go:25", after := #[{ on := 36, ground := Ground.data }, { on := 38, ground := Ground.data }, { on := 35, ground := Ground.guard }], guard := some (35, true) }) (v := undef) rfl (by kernel_rfl) (by kernel_rfl) (by kernel_rfl) (fun _ _ _ h => h) (Or.inr ⟨by rfl, rfl⟩) hSA ?_
          try simp only [Act.put, List.setIfInBounds_toArray, List.set_cons_zero, List.set_cons_succ]
          refine wpAnyH_take (i := 40) (oi := { dst := some 52, op := Op.load 28 (Operand.tmp 51), type := 28, pos := "call.go:25", after := #[{ on := 39, ground := Ground.data }, { on := 35, ground := Ground.guard }], guard := some (35, true) }) (v := undef) rfl (by kernel_rfl) (by kernel_rfl) (by kernel_rfl) (fun _ _ _ h => h) (Or.inr ⟨by rfl, rfl⟩) hSA ?_
          try simp only [Act.put, List.setIfInBounds_toArray, List.set_cons_zero, List.set_cons_succ]
          refine wpAnyH_take (i := 41) (oi := { dst := some 53, op := Op.fieldAddr 28 (Operand.tmp 4) 0, type := 0, pos := "call.go:25", after := #[{ on := 35, ground := Ground.guard }], guard := some (35, true) }) (v := undef) rfl (by kernel_rfl) (by kernel_rfl) (by kernel_rfl) (fun _ _ _ h => h) (Or.inr ⟨by rfl, rfl⟩) hSA ?_
          try simp only [Act.put, List.setIfInBounds_toArray, List.set_cons_zero, List.set_cons_succ]
          refine wpAnyH_take (i := 42) (oi := { dst := some 54, op := Op.fieldAddr 26 (Operand.tmp 53) 0, type := 0, pos := "call.go:25", after := #[{ on := 41, ground := Ground.data }, { on := 35, ground := Ground.guard }], guard := some (35, true) }) (v := undef) rfl (by kernel_rfl) (by kernel_rfl) (by kernel_rfl) (fun _ _ _ h => h) (Or.inr ⟨by rfl, rfl⟩) hSA ?_
          try simp only [Act.put, List.setIfInBounds_toArray, List.set_cons_zero, List.set_cons_succ]
          refine wpAnyH_take (i := 43) (oi := { dst := some 55, op := Op.load 3 (Operand.tmp 54), type := 3, pos := "call.go:25", after := #[{ on := 42, ground := Ground.data }, { on := 35, ground := Ground.guard }], guard := some (35, true) }) (v := undef) rfl (by kernel_rfl) (by kernel_rfl) (by kernel_rfl) (fun _ _ _ h => h) (Or.inr ⟨by rfl, rfl⟩) hSA ?_
          try simp only [Act.put, List.setIfInBounds_toArray, List.set_cons_zero, List.set_cons_succ]
          refine wpAnyH_take (i := 44) (oi := { dst := some 56, op := Op.fieldAddr 28 (Operand.tmp 4) 0, type := 0, pos := "call.go:25", after := #[{ on := 35, ground := Ground.guard }], guard := some (35, true) }) (v := undef) rfl (by kernel_rfl) (by kernel_rfl) (by kernel_rfl) (fun _ _ _ h => h) (Or.inr ⟨by rfl, rfl⟩) hSA ?_
          try simp only [Act.put, List.setIfInBounds_toArray, List.set_cons_zero, List.set_cons_succ]
          refine wpAnyH_take (i := 45) (oi := { dst := some 57, op := Op.fieldAddr 26 (Operand.tmp 56) 1, type := 0, pos := "call.go:25", after := #[{ on := 44, ground := Ground.data }, { on := 35, ground := Ground.guard }], guard := some (35, true) }) (v := undef) rfl (by kernel_rfl) (by kernel_rfl) (by kernel_rfl) (fun _ _ _ h => h) (Or.inr ⟨by rfl, rfl⟩) hSA ?_
          try simp only [Act.put, List.setIfInBounds_toArray, List.set_cons_zero, List.set_cons_succ]
          refine wpAnyH_take (i := 46) (oi := { dst := some 58, op := Op.load 3 (Operand.tmp 57), type := 3, pos := "call.go:25", after := #[{ on := 45, ground := Ground.data }, { on := 35, ground := Ground.guard }], guard := some (35, true) }) (v := undef) rfl (by kernel_rfl) (by kernel_rfl) (by kernel_rfl) (fun _ _ _ h => h) (Or.inr ⟨by rfl, rfl⟩) hSA ?_
          try simp only [Act.put, List.setIfInBounds_toArray, List.set_cons_zero, List.set_cons_succ]
          refine wpAnyH_take (i := 47) (oi := { dst := some 59, op := Op.call { callee := Callee.value (Operand.func 35), args := #[Operand.tmp 52, Operand.tmp 55, Operand.tmp 58], argTypes := #[28, 3, 3] }, type := 3, pos := "call.go:25", after := #[{ on := 40, ground := Ground.data }, { on := 43, ground := Ground.data }, { on := 46, ground := Ground.data }, { on := 35, ground := Ground.chain }, { on := 35, ground := Ground.guard }], guard := some (35, true) }) (v := undef) rfl (by kernel_rfl) (by kernel_rfl) (by kernel_rfl) (fun _ _ _ h => h) (Or.inr ⟨by rfl, rfl⟩) hSA ?_
          try simp only [Act.put, List.setIfInBounds_toArray, List.set_cons_zero, List.set_cons_succ]
          refine wpAnyH_take (i := 48) (oi := { dst := some 60, op := Op.binOp BinOp.geq 3 (Operand.tmp 59) (Operand.const (Value.int IntKind.i64 0)) 3, type := 4, pos := "call.go:25", after := #[{ on := 47, ground := Ground.data }, { on := 35, ground := Ground.guard }], guard := some (35, true) }) (v := undef) rfl (by kernel_rfl) (by kernel_rfl) (by kernel_rfl) (fun _ _ _ h => h) (Or.inr ⟨by rfl, rfl⟩) hSA ?_
          try simp only [Act.put, List.setIfInBounds_toArray, List.set_cons_zero, List.set_cons_succ]
          refine wpAnyH_take (i := 49) (oi := { dst := some 61, op := Op.pick (Operand.tmp 47) (Operand.tmp 60) (Operand.const (Value.bool false)), type := 4, pos := "call.go:25", after := #[{ on := 35, ground := Ground.data }, { on := 48, ground := Ground.data }, { on := 32, ground := Ground.guard }], guard := some (32, false) }) (v := undef) rfl (by kernel_rfl) (by kernel_rfl) (by kernel_rfl) (fun _ _ _ h => h) (Or.inr ⟨by rfl, rfl⟩) hSA ?_
          try simp only [Act.put, List.setIfInBounds_toArray, List.set_cons_zero, List.set_cons_succ]
          refine wpAnyH_take (i := 50) (oi := { dst := some 62, op := Op.pick (Operand.tmp 44) (Operand.const (Value.bool true)) (Operand.tmp 61), type := 4, pos := "call.go:25", after := #[{ on := 32, ground := Ground.data }, { on := 49, ground := Ground.data }], guard := none }) (v := .bool true) rfl (by kernel_rfl) (by kernel_rfl) (by kernel_rfl) (fun _ _ _ h => h) (Or.inl ⟨by rfl, by intro w hSw; go_simp⟩) hSA ?_
          try simp only [Act.put, List.setIfInBounds_toArray, List.set_cons_zero, List.set_cons_succ]
          refine wpAnyH_done (by kernel_rfl) ?_ _
          have hbe := hSA.2.2.2.2
          clear hlit rg nr
          go_wp2_with fail
          go_ret
          exact ⟨by rw [HBAD.out]; rfl, hbe⟩
        | true =>
          rw [hr] at nr
          have Hr2 := Lib.hid hr
          clear hr
          by_cases h1 : ca < 1
          · have HBAD := Lib.hid (HBAD0.out (by rw [HAT.out, HB.out, Hr.out, Hr2.out, decide_eq_false (show ¬ 1 ≤ ca by omega)]; rfl))
            have hSW := hS4
            clear hS4 HBAD0 HOK0 HAT HB HO
            have hSA := keepK4 ((Below.refl _ W).alloc (Nat.le_refl _) (.cells #[.int .i64 ca] 3)).drew hSW
            refine wp_region_held_drew (S := (fun wx => wx.cell? ⟨gc, 0, none⟩ = some (.int .i64 cw) ∧ wx.cell? ⟨gc, 1, none⟩ = some (.int .i64 cc) ∧ wx.cell? ⟨gc, 2, none⟩ = some (.int .i64 ca) ∧ wx.cell? ⟨gc, 3, none⟩ = some (.int .i64 ct) ∧ Below w.heap.size w wx)) (by kernel_rfl) (keepK4 (Below.refl _ _).drew hSW) (fun hS0 => ?_)
            clear hSW
            refine wpAnyH_take (i := 0) (oi := { dst := some 12, op := Op.fieldAddr 28 (Operand.tmp 4) 0, type := 0, pos := "call.go:25", after := #[], guard := none }) (v := .pointer (some ⟨gc, 0, none⟩)) rfl (by kernel_rfl) (by kernel_rfl) (by kernel_rfl) (fun _ _ _ h => h) (Or.inl ⟨by rfl, by intro w hSw; go_simp⟩) hS0 ?_
            try simp only [Act.put, List.setIfInBounds_toArray, List.set_cons_zero, List.set_cons_succ]
            refine wpAnyH_take (i := 1) (oi := { dst := some 13, op := Op.fieldAddr 26 (Operand.tmp 12) 0, type := 0, pos := "call.go:25", after := #[{ on := 0, ground := Ground.data }], guard := none }) (v := .pointer (some ⟨gc, 0, none⟩)) rfl (by kernel_rfl) (by kernel_rfl) (by kernel_rfl) (fun _ _ _ h => h) (Or.inl ⟨by rfl, by intro w hSw; go_simp⟩) hS0 ?_
            try simp only [Act.put, List.setIfInBounds_toArray, List.set_cons_zero, List.set_cons_succ]
            refine wpAnyH_take (i := 2) (oi := { dst := some 14, op := Op.load 3 (Operand.tmp 13), type := 3, pos := "call.go:25", after := #[{ on := 1, ground := Ground.data }], guard := none }) (v := .int .i64 cw) rfl (by kernel_rfl) (by kernel_rfl) (by kernel_rfl) (fun _ _ _ h => h) (Or.inl ⟨by rfl, by intro w hSw; obtain ⟨h0, h1, h2, h3, _⟩ := hSw; go_simp⟩) hS0 ?_
            try simp only [Act.put, List.setIfInBounds_toArray, List.set_cons_zero, List.set_cons_succ]
            refine wpAnyH_take (i := 3) (oi := { dst := some 15, op := Op.fieldAddr 28 (Operand.tmp 4) 0, type := 0, pos := "call.go:25", after := #[], guard := none }) (v := .pointer (some ⟨gc, 0, none⟩)) rfl (by kernel_rfl) (by kernel_rfl) (by kernel_rfl) (fun _ _ _ h => h) (Or.inl ⟨by rfl, by intro w hSw; go_simp⟩) hS0 ?_
            try simp only [Act.put, List.setIfInBounds_toArray, List.set_cons_zero, List.set_cons_succ]
            refine wpAnyH_take (i := 4) (oi := { dst := some 16, op := Op.fieldAddr 26 (Operand.tmp 15) 1, type := 0, pos := "call.go:25", after := #[{ on := 3, ground := Ground.data }], guard := none }) (v := .pointer (some ⟨gc, 1, none⟩)) rfl (by kernel_rfl) (by kernel_rfl) (by kernel_rfl) (fun _ _ _ h => h) (Or.inl ⟨by rfl, by intro w hSw; go_simp⟩) hS0 ?_
            try simp only [Act.put, List.setIfInBounds_toArray, List.set_cons_zero, List.set_cons_succ]
            refine wpAnyH_take (i := 5) (oi := { dst := some 17, op := Op.load 3 (Operand.tmp 16), type := 3, pos := "call.go:25", after := #[{ on := 4, ground := Ground.data }], guard := none }) (v := .int .i64 cc) rfl (by kernel_rfl) (by kernel_rfl) (by kernel_rfl) (fun _ _ _ h => h) (Or.inl ⟨by rfl, by intro w hSw; obtain ⟨h0, h1, h2, h3, _⟩ := hSw; go_simp⟩) hS0 ?_
            try simp only [Act.put, List.setIfInBounds_toArray, List.set_cons_zero, List.set_cons_succ]
            refine wpAnyH_ready (rs := [6]) (by kernel_rfl) (by simp) ?_
            refine AllReadyH.cons (o := { dst := some 18, op := Op.call { callee := Callee.value (Operand.func 33), args := #[Operand.tmp 14, Operand.tmp 17], argTypes := #[3, 3] }, type := 4, pos := "call.go:25", after := #[{ on := 2, ground := Ground.data }, { on := 5, ground := Ground.data }], guard := none }) rfl (fun K hK => ?_) AllReadyH.nil
            go_simp
            go_at_call 33
            (with_reducible refine (rg _).mono ?_)
            rintro e w1 ⟨rfl, rfl⟩
            go_simp
            refine hK.out _ _ hS0 (fun _ => ?_)
            clear hK K
            try simp only [Act.put, List.setIfInBounds_toArray, List.set_cons_zero, List.set_cons_succ]
            refine wpAnyH_take (i := 7) (oi := { dst := some 19, op := Op.unOp UnOp.not 4 (Operand.tmp 18), type := 4, pos := "call.go:25", after := #[{ on := 6, ground := Ground.data }], guard := none }) (v := .bool false) rfl (by kernel_rfl) (by kernel_rfl) (by kernel_rfl) (fun _ _ _ h => h) (Or.inl ⟨by rfl, by intro w hSw; go_simp⟩) hS0 ?_
            try simp only [Act.put, List.setIfInBounds_toArray, List.set_cons_zero, List.set_cons_succ]
            refine wpAnyH_take (i := 8) (oi := { dst := some 20, op := Op.move (Operand.tmp 19), type := 4, pos := "call.go:25", after := #[{ on := 7, ground := Ground.data }, { on := 6, ground := Ground.chain }], guard := none }) (v := .bool false) rfl (by kernel_rfl) (by kernel_rfl) (by kernel_rfl) (fun _ _ _ h => h) (Or.inl ⟨by rfl, by intro w hSw; go_simp⟩) hS0 ?_
            try simp only [Act.put, List.setIfInBounds_toArray, List.set_cons_zero, List.set_cons_succ]
            refine wpAnyH_take (i := 9) (oi := { dst := some 21, op := Op.fieldAddr 28 (Operand.tmp 4) 0, type := 0, pos := "call.go:25", after := #[{ on := 8, ground := Ground.guard }], guard := some (8, false) }) (v := .pointer (some ⟨gc, 0, none⟩)) rfl (by kernel_rfl) (by kernel_rfl) (by kernel_rfl) (fun _ _ _ h => h) (Or.inl ⟨by rfl, by intro w hSw; go_simp⟩) hS0 ?_
            try simp only [Act.put, List.setIfInBounds_toArray, List.set_cons_zero, List.set_cons_succ]
            refine wpAnyH_take (i := 10) (oi := { dst := some 22, op := Op.fieldAddr 26 (Operand.tmp 21) 2, type := 0, pos := "call.go:25", after := #[{ on := 9, ground := Ground.data }, { on := 8, ground := Ground.guard }], guard := some (8, false) }) (v := .pointer (some ⟨gc, 2, none⟩)) rfl (by kernel_rfl) (by kernel_rfl) (by kernel_rfl) (fun _ _ _ h => h) (Or.inl ⟨by rfl, by intro w hSw; go_simp⟩) hS0 ?_
            try simp only [Act.put, List.setIfInBounds_toArray, List.set_cons_zero, List.set_cons_succ]
            refine wpAnyH_take (i := 11) (oi := { dst := some 23, op := Op.load 3 (Operand.tmp 22), type := 3, pos := "call.go:25", after := #[{ on := 10, ground := Ground.data }, { on := 8, ground := Ground.guard }], guard := some (8, false) }) (v := .int .i64 ca) rfl (by kernel_rfl) (by kernel_rfl) (by kernel_rfl) (fun _ _ _ h => h) (Or.inl ⟨by rfl, by intro w hSw; obtain ⟨h0, h1, h2, h3, _⟩ := hSw; go_simp⟩) hS0 ?_
            try simp only [Act.put, List.setIfInBounds_toArray, List.set_cons_zero, List.set_cons_succ]
            refine wpAnyH_ready (rs := [12]) (by kernel_rfl) (by simp) ?_
            refine AllReadyH.cons (o := { dst := some 24, op := Op.buildSlice 32 1 #[(0, Operand.tmp 23)], type := 32, pos := "call.go:25", after := #[{ on := 11, ground := Ground.data }, { on := 8, ground := Ground.guard }], guard := some (8, false) }) rfl (fun K hK => ?_) AllReadyH.nil
            go_simp
            refine hK.out _ _ hSA (fun _ => ?_)
            clear hK K
            try simp only [Act.put, List.setIfInBounds_toArray, List.set_cons_zero, List.set_cons_succ]
            refine wpAnyH_ready (rs := [13]) (by kernel_rfl) (by simp) ?_
            refine AllReadyH.cons (o := { dst := some 25, op := Op.call { callee := Callee.value (Operand.func 34), args := #[Operand.tmp 24], argTypes := #[32] }, type := 4, pos := "call.go:25", after := #[{ on := 12, ground := Ground.data }, { on := 8, ground := Ground.chain }, { on := 8, ground := Ground.guard }], guard := some (8, false) }) rfl (fun K hK => ?_) AllReadyH.nil
            go_simp
            go_at_call 34
            (with_reducible refine (nr _ hlit).mono ?_)
            rintro e w1 ⟨rfl, rfl⟩
            go_simp
            refine hK.out _ _ hSA (fun _ => ?_)
            clear hK K
            try simp only [Act.put, List.setIfInBounds_toArray, List.set_cons_zero, List.set_cons_succ]
            refine wpAnyH_take (i := 14) (oi := { dst := some 26, op := Op.unOp UnOp.not 4 (Operand.tmp 25), type := 4, pos := "call.go:25", after := #[{ on := 13, ground := Ground.data }, { on := 8, ground := Ground.guard }], guard := some (8, false) }) (v := .bool false) rfl (by kernel_rfl) (by kernel_rfl) (by kernel_rfl) (fun _ _ _ h => h) (Or.inl ⟨by rfl, by intro w hSw; go_simp⟩) hSA ?_
            try simp only [Act.put, List.setIfInBounds_toArray, List.set_cons_zero, List.set_cons_succ]
            refine wpAnyH_take (i := 15) (oi := { dst := some 27, op := Op.pick (Operand.tmp 20) (Operand.const (Value.bool true)) (Operand.tmp 26), type := 4, pos := "call.go:25", after := #[{ on := 8, ground := Ground.data }, { on := 14, ground := Ground.data }], guard := none }) (v := .bool false) rfl (by kernel_rfl) (by kernel_rfl) (by kernel_rfl) (fun _ _ _ h => h) (Or.inl ⟨by rfl, by intro w hSw; go_simp⟩) hSA ?_
            try simp only [Act.put, List.setIfInBounds_toArray, List.set_cons_zero, List.set_cons_succ]
            refine wpAnyH_take (i := 16) (oi := { dst := some 28, op := Op.move (Operand.tmp 27), type := 4, pos := "call.go:25", after := #[{ on := 15, ground := Ground.data }, { on := 13, ground := Ground.chain }], guard := none }) (v := .bool false) rfl (by kernel_rfl) (by kernel_rfl) (by kernel_rfl) (fun _ _ _ h => h) (Or.inl ⟨by rfl, by intro w hSw; go_simp⟩) hSA ?_
            try simp only [Act.put, List.setIfInBounds_toArray, List.set_cons_zero, List.set_cons_succ]
            refine wpAnyH_take (i := 17) (oi := { dst := some 29, op := Op.fieldAddr 28 (Operand.tmp 4) 0, type := 0, pos := "call.go:25", after := #[{ on := 16, ground := Ground.guard }], guard := some (16, false) }) (v := .pointer (some ⟨gc, 0, none⟩)) rfl (by kernel_rfl) (by kernel_rfl) (by kernel_rfl) (fun _ _ _ h => h) (Or.inl ⟨by rfl, by intro w hSw; go_simp⟩) hSA ?_
            try simp only [Act.put, List.setIfInBounds_toArray, List.set_cons_zero, List.set_cons_succ]
            refine wpAnyH_take (i := 18) (oi := { dst := some 30, op := Op.fieldAddr 26 (Operand.tmp 29) 2, type := 0, pos := "call.go:25", after := #[{ on := 17, ground := Ground.data }, { on := 16, ground := Ground.guard }], guard := some (16, false) }) (v := .pointer (some ⟨gc, 2, none⟩)) rfl (by kernel_rfl) (by kernel_rfl) (by kernel_rfl) (fun _ _ _ h => h) (Or.inl ⟨by rfl, by intro w hSw; go_simp⟩) hSA ?_
            try simp only [Act.put, List.setIfInBounds_toArray, List.set_cons_zero, List.set_cons_succ]
            refine wpAnyH_take (i := 19) (oi := { dst := some 31, op := Op.load 3 (Operand.tmp 30), type := 3, pos := "call.go:25", after := #[{ on := 18, ground := Ground.data }, { on := 16, ground := Ground.guard }], guard := some (16, false) }) (v := .int .i64 ca) rfl (by kernel_rfl) (by kernel_rfl) (by kernel_rfl) (fun _ _ _ h => h) (Or.inl ⟨by rfl, by intro w hSw; obtain ⟨h0, h1, h2, h3, _⟩ := hSw; go_simp⟩) hSA ?_
            try simp only [Act.put, List.setIfInBounds_toArray, List.set_cons_zero, List.set_cons_succ]
            refine wpAnyH_take (i := 20) (oi := { dst := some 32, op := Op.binOp BinOp.lss 3 (Operand.tmp 31) (Operand.const (Value.int IntKind.i64 1)) 3, type := 4, pos := "call.go:25", after := #[{ on := 19, ground := Ground.data }, { on := 16, ground := Ground.guard }], guard := some (16, false) }) (v := .bool true) rfl (by kernel_rfl) (by kernel_rfl) (by kernel_rfl) (fun _ _ _ h => h) (Or.inl ⟨by rfl, by intro w hSw; go_simp⟩) hSA ?_
            try simp only [Act.put, List.setIfInBounds_toArray, List.set_cons_zero, List.set_cons_succ]
            refine wpAnyH_take (i := 21) (oi := { dst := some 33, op := Op.pick (Operand.tmp 28) (Operand.const (Value.bool true)) (Operand.tmp 32), type := 4, pos := "call.go:25", after := #[{ on := 16, ground := Ground.data }, { on := 20, ground := Ground.data }], guard := none }) (v := .bool true) rfl (by kernel_rfl) (by kernel_rfl) (by kernel_rfl) (fun _ _ _ h => h) (Or.inl ⟨by rfl, by intro w hSw; go_simp⟩) hSA ?_
            try simp only [Act.put, List.setIfInBounds_toArray, List.set_cons_zero, List.set_cons_succ]
            refine wpAnyH_take (i := 22) (oi := { dst := some 34, op := Op.move (Operand.tmp 33), type := 4, pos := "call.go:25", after := #[{ on := 21, ground := Ground.data }, { on := 16, ground := Ground.chain }], guard := none }) (v := .bool true) rfl (by kernel_rfl) (by kernel_rfl) (by kernel_rfl) (fun _ _ _ h => h) (Or.inl ⟨by rfl, by intro w hSw; go_simp⟩) hSA ?_
            try simp only [Act.put, List.setIfInBounds_toArray, List.set_cons_zero, List.set_cons_succ]
            refine wpAnyH_take (i := 23) (oi := { dst := some 35, op := Op.fieldAddr 28 (Operand.tmp 4) 1, type := 0, pos := "call.go:25", after := #[{ on := 22, ground := Ground.guard }], guard := some (22, false) }) (v := undef) rfl (by kernel_rfl) (by kernel_rfl) (by kernel_rfl) (fun _ _ _ h => h) (Or.inr ⟨by rfl, rfl⟩) hSA ?_
            try simp only [Act.put, List.setIfInBounds_toArray, List.set_cons_zero, List.set_cons_succ]
            refine wpAnyH_take (i := 24) (oi := { dst := some 36, op := Op.load 3 (Operand.tmp 35), type := 3, pos := "call.go:25", after := #[{ on := 23, ground := Ground.data }, { on := 22, ground := Ground.guard }], guard := some (22, false) }) (v := undef) rfl (by kernel_rfl) (by kernel_rfl) (by kernel_rfl) (fun _ _ _ h => h) (Or.inr ⟨by rfl, rfl⟩) hSA ?_
            try simp only [Act.put, List.setIfInBounds_toArray, List.set_cons_zero, List.set_cons_succ]
            refine wpAnyH_take (i := 25) (oi := { dst := some 37, op := Op.binOp BinOp.lss 3 (Operand.tmp 36) (Operand.const (Value.int IntKind.i64 0)) 3, type := 4, pos := "call.go:25", after := #[{ on := 24, ground := Ground.data }, { on := 22, ground := Ground.guard }], guard := some (22, false) }) (v := undef) rfl (by kernel_rfl) (by kernel_rfl) (by kernel_rfl) (fun _ _ _ h => h) (Or.inr ⟨by rfl, rfl⟩) hSA ?_
            try simp only [Act.put, List.setIfInBounds_toArray, List.set_cons_zero, List.set_cons_succ]
            refine wpAnyH_take (i := 26) (oi := { dst := some 38, op := Op.pick (Operand.tmp 34) (Operand.const (Value.bool true)) (Operand.tmp 37), type := 4, pos := "call.go:25", after := #[{ on := 22, ground := Ground.data }, { on := 25, ground := Ground.data }], guard := none }) (v := .bool true) rfl (by kernel_rfl) (by kernel_rfl) (by kernel_rfl) (fun _ _ _ h => h) (Or.inl ⟨by rfl, by intro w hSw; go_simp⟩) hSA ?_
            try simp only [Act.put, List.setIfInBounds_toArray, List.set_cons_zero, List.set_cons_succ]
            refine wpAnyH_take (i := 27) (oi := { dst := some 39, op := Op.move (Operand.tmp 38), type := 4, pos := "call.go:25", after := #[{ on := 26, ground := Ground.data }, { on := 22, ground := Ground.chain }], guard := none }) (v := .bool true) rfl (by kernel_rfl) (by kernel_rfl) (by kernel_rfl) (fun _ _ _ h => h) (Or.inl ⟨by rfl, by intro w hSw; go_simp⟩) hSA ?_
            try simp only [Act.put, List.setIfInBounds_toArray, List.set_cons_zero, List.set_cons_succ]
            refine wpAnyH_take (i := 28) (oi := { dst := some 40, op := Op.fieldAddr 28 (Operand.tmp 4) 1, type := 0, pos := "call.go:25", after := #[{ on := 27, ground := Ground.guard }], guard := some (27, false) }) (v := undef) rfl (by kernel_rfl) (by kernel_rfl) (by kernel_rfl) (fun _ _ _ h => h) (Or.inr ⟨by rfl, rfl⟩) hSA ?_
            try simp only [Act.put, List.setIfInBounds_toArray, List.set_cons_zero, List.set_cons_succ]
            refine wpAnyH_take (i := 29) (oi := { dst := some 41, op := Op.load 3 (Operand.tmp 40), type := 3, pos := "call.go:25", after := #[{ on := 28, ground := Ground.data }, { on := 27, ground := Ground.guard }], guard := some (27, false) }) (v := undef) rfl (by kernel_rfl) (by kernel_rfl) (by kernel_rfl) (fun _ _ _ h => h) (Or.inr ⟨by rfl, rfl⟩) hSA ?_
            try simp only [Act.put, List.setIfInBounds_toArray, List.set_cons_zero, List.set_cons_succ]
            refine wpAnyH_take (i := 30) (oi := { dst := some 42, op := Op.binOp BinOp.gtr 3 (Operand.tmp 41) (Operand.const (Value.int IntKind.i64 1099511627776)) 3, type := 4, pos := "call.go:25", after := #[{ on := 29, ground := Ground.data }, { on := 27, ground := Ground.guard }], guard := some (27, false) }) (v := undef) rfl (by kernel_rfl) (by kernel_rfl) (by kernel_rfl) (fun _ _ _ h => h) (Or.inr ⟨by rfl, rfl⟩) hSA ?_
            try simp only [Act.put, List.setIfInBounds_toArray, List.set_cons_zero, List.set_cons_succ]
            refine wpAnyH_take (i := 31) (oi := { dst := some 43, op := Op.pick (Operand.tmp 39) (Operand.const (Value.bool true)) (Operand.tmp 42), type := 4, pos := "call.go:25", after := #[{ on := 27, ground := Ground.data }, { on := 30, ground := Ground.data }], guard := none }) (v := .bool true) rfl (by kernel_rfl) (by kernel_rfl) (by kernel_rfl) (fun _ _ _ h => h) (Or.inl ⟨by rfl, by intro w hSw; go_simp⟩) hSA ?_
            try simp only [Act.put, List.setIfInBounds_toArray, List.set_cons_zero, List.set_cons_succ]
            refine wpAnyH_take (i := 32) (oi := { dst := some 44, op := Op.move (Operand.tmp 43), type := 4, pos := "call.go:25", after := #[{ on := 31, ground := Ground.data }, { on := 27, ground := Ground.chain }], guard := none }) (v := .bool true) rfl (by kernel_rfl) (by kernel_rfl) (by kernel_rfl) (fun _ _ _ h => h) (Or.inl ⟨by rfl, by intro w hSw; go_simp⟩) hSA ?_
            try simp only [Act.put, List.setIfInBounds_toArray, List.set_cons_zero, List.set_cons_succ]
            refine wpAnyH_take (i := 33) (oi := { dst := some 45, op := Op.move (Operand.tmp 3), type := 3, pos := "call.go:25", after := #[{ on := 32, ground := Ground.guard }], guard := some (32, false) }) (v := undef) rfl (by kernel_rfl) (by kernel_rfl) (by kernel_rfl) (fun _ _ _ h => h) (Or.inr ⟨by rfl, rfl⟩) hSA ?_
            try simp only [Act.put, List.setIfInBounds_toArray, List.set_cons_zero, List.set_cons_succ]
            refine wpAnyH_take (i := 34) (oi := { dst := some 46, op := Op.binOp BinOp.gtr 3 (Operand.tmp 45) (Operand.const (Value.int IntKind.i64 0)) 3, type := 4, pos := "call.go:25", after := #[{ on := 33, ground := Ground.data }, { on := 32, ground := Ground.guard }], guard := some (32, false) }) (v := undef) rfl (by kernel_rfl) (by kernel_rfl) (by kernel_rfl) (fun _ _ _ h => h) (Or.inr ⟨by rfl, rfl⟩) hSA ?_
            try simp only [Act.put, List.setIfInBounds_toArray, List.set_cons_zero, List.set_cons_succ]
            refine wpAnyH_take (i := 35) (oi := { dst := some 47, op := Op.move (Operand.tmp 46), type := 4, pos := "call.go:25", after := #[{ on := 34, ground := Ground.data }, { on := 32, ground := Ground.chain }, { on := 32, ground := Ground.guard }], guard := some (32, false) }) (v := undef) rfl (by kernel_rfl) (by kernel_rfl) (by kernel_rfl) (fun _ _ _ h => h) (Or.inr ⟨by rfl, rfl⟩) hSA ?_
            try simp only [Act.put, List.setIfInBounds_toArray, List.set_cons_zero, List.set_cons_succ]
            refine wpAnyH_take (i := 36) (oi := { dst := some 48, op := Op.move (Operand.tmp 0), type := 22, pos := "call.go:25", after := #[{ on := 35, ground := Ground.guard }], guard := some (35, true) }) (v := undef) rfl (by kernel_rfl) (by kernel_rfl) (by kernel_rfl) (fun _ _ _ h => h) (Or.inr ⟨by rfl, rfl⟩) hSA ?_
            try simp only [Act.put, List.setIfInBounds_toArray, List.set_cons_zero, List.set_cons_succ]
            refine wpAnyH_take (i := 37) (oi := { dst := some 49, op := Op.move (Operand.tmp 3), type := 3, pos := "call.go:25", after := #[{ on := 35, ground := Ground.guard }], guard := some (35, true) }) (v := undef) rfl (by kernel_rfl) (by kernel_rfl) (by kernel_rfl) (fun _ _ _ h => h) (Or.inr ⟨by rfl, rfl⟩) hSA ?_
            try simp only [Act.put, List.setIfInBounds_toArray, List.set_cons_zero, List.set_cons_succ]
            refine wpAnyH_take (i := 38) (oi := { dst := some 50, op := Op.binOp BinOp.sub 3 (Operand.tmp 49) (Operand.const (Value.int IntKind.i64 1)) 3, type := 3, pos := "call.go:25", after := #[{ on := 37, ground := Ground.data }, { on := 35, ground := Ground.guard }], guard := some (35, true) }) (v := undef) rfl (by kernel_rfl) (by kernel_rfl) (by kernel_rfl) (fun _ _ _ h => h) (Or.inr ⟨by rfl, rfl⟩) hSA ?_
            try simp only [Act.put, List.setIfInBounds_toArray, List.set_cons_zero, List.set_cons_succ]
            refine wpAnyH_take (i := 39) (oi := { dst := some 51, op := Op.indexAddr 22 (Operand.tmp 48) (Operand.tmp 50), type := 0, pos := "call.go:25", after := #[{ on := 36, ground := Ground.data }, { on := 38, ground := Ground.data }, { on := 35, ground := Ground.guard }], guard := some (35, true) }) (v := undef) rfl (by kernel_rfl) (by kernel_rfl) (by kernel_rfl) (fun _ _ _ h => h) (Or.inr ⟨by rfl, rfl⟩) hSA ?_
            try simp only [Act.put, List.setIfInBounds_toArray, List.set_cons_zero, List.set_cons_succ]
            refine wpAnyH_take (i := 40) (oi := { dst := some 52, op := Op.load 28 (Operand.tmp 51), type := 28, pos := "call.go:25", after := #[{ on := 39, ground := Ground.data }, { on := 35, ground := Ground.guard }], guard := some (35, true) }) (v := undef) rfl (by kernel_rfl) (by kernel_rfl) (by kernel_rfl) (fun _ _ _ h => h) (Or.inr ⟨by rfl, rfl⟩) hSA ?_
            try simp only [Act.put, List.setIfInBounds_toArray, List.set_cons_zero, List.set_cons_succ]
            refine wpAnyH_take (i := 41) (oi := { dst := some 53, op := Op.fieldAddr 28 (Operand.tmp 4) 0, type := 0, pos := "call.go:25", after := #[{ on := 35, ground := Ground.guard }], guard := some (35, true) }) (v := undef) rfl (by kernel_rfl) (by kernel_rfl) (by kernel_rfl) (fun _ _ _ h => h) (Or.inr ⟨by rfl, rfl⟩) hSA ?_
            try simp only [Act.put, List.setIfInBounds_toArray, List.set_cons_zero, List.set_cons_succ]
            refine wpAnyH_take (i := 42) (oi := { dst := some 54, op := Op.fieldAddr 26 (Operand.tmp 53) 0, type := 0, pos := "call.go:25", after := #[{ on := 41, ground := Ground.data }, { on := 35, ground := Ground.guard }], guard := some (35, true) }) (v := undef) rfl (by kernel_rfl) (by kernel_rfl) (by kernel_rfl) (fun _ _ _ h => h) (Or.inr ⟨by rfl, rfl⟩) hSA ?_
            try simp only [Act.put, List.setIfInBounds_toArray, List.set_cons_zero, List.set_cons_succ]
            refine wpAnyH_take (i := 43) (oi := { dst := some 55, op := Op.load 3 (Operand.tmp 54), type := 3, pos := "call.go:25", after := #[{ on := 42, ground := Ground.data }, { on := 35, ground := Ground.guard }], guard := some (35, true) }) (v := undef) rfl (by kernel_rfl) (by kernel_rfl) (by kernel_rfl) (fun _ _ _ h => h) (Or.inr ⟨by rfl, rfl⟩) hSA ?_
            try simp only [Act.put, List.setIfInBounds_toArray, List.set_cons_zero, List.set_cons_succ]
            refine wpAnyH_take (i := 44) (oi := { dst := some 56, op := Op.fieldAddr 28 (Operand.tmp 4) 0, type := 0, pos := "call.go:25", after := #[{ on := 35, ground := Ground.guard }], guard := some (35, true) }) (v := undef) rfl (by kernel_rfl) (by kernel_rfl) (by kernel_rfl) (fun _ _ _ h => h) (Or.inr ⟨by rfl, rfl⟩) hSA ?_
            try simp only [Act.put, List.setIfInBounds_toArray, List.set_cons_zero, List.set_cons_succ]
            refine wpAnyH_take (i := 45) (oi := { dst := some 57, op := Op.fieldAddr 26 (Operand.tmp 56) 1, type := 0, pos := "call.go:25", after := #[{ on := 44, ground := Ground.data }, { on := 35, ground := Ground.guard }], guard := some (35, true) }) (v := undef) rfl (by kernel_rfl) (by kernel_rfl) (by kernel_rfl) (fun _ _ _ h => h) (Or.inr ⟨by rfl, rfl⟩) hSA ?_
            try simp only [Act.put, List.setIfInBounds_toArray, List.set_cons_zero, List.set_cons_succ]
            refine wpAnyH_take (i := 46) (oi := { dst := some 58, op := Op.load 3 (Operand.tmp 57), type := 3, pos := "call.go:25", after := #[{ on := 45, ground := Ground.data }, { on := 35, ground := Ground.guard }], guard := some (35, true) }) (v := undef) rfl (by kernel_rfl) (by kernel_rfl) (by kernel_rfl) (fun _ _ _ h => h) (Or.inr ⟨by rfl, rfl⟩) hSA ?_
            try simp only [Act.put, List.setIfInBounds_toArray, List.set_cons_zero, List.set_cons_succ]
            refine wpAnyH_take (i := 47) (oi := { dst := some 59, op := Op.call { callee := Callee.value (Operand.func 35), args := #[Operand.tmp 52, Operand.tmp 55, Operand.tmp 58], argTypes := #[28, 3, 3] }, type := 3, pos := "call.go:25", after := #[{ on := 40, ground := Ground.data }, { on := 43, ground := Ground.data }, { on := 46, ground := Ground.data }, { on := 35, ground := Ground.chain }, { on := 35, ground := Ground.guard }], guard := some (35, true) }) (v := undef) rfl (by kernel_rfl) (by kernel_rfl) (by kernel_rfl) (fun _ _ _ h => h) (Or.inr ⟨by rfl, rfl⟩) hSA ?_
            try simp only [Act.put, List.setIfInBounds_toArray, List.set_cons_zero, List.set_cons_succ]
            refine wpAnyH_take (i := 48) (oi := { dst := some 60, op := Op.binOp BinOp.geq 3 (Operand.tmp 59) (Operand.const (Value.int IntKind.i64 0)) 3, type := 4, pos := "call.go:25", after := #[{ on := 47, ground := Ground.data }, { on := 35, ground := Ground.guard }], guard := some (35, true) }) (v := undef) rfl (by kernel_rfl) (by kernel_rfl) (by kernel_rfl) (fun _ _ _ h => h) (Or.inr ⟨by rfl, rfl⟩) hSA ?_
            try simp only [Act.put, List.setIfInBounds_toArray, List.set_cons_zero, List.set_cons_succ]
            refine wpAnyH_take (i := 49) (oi := { dst := some 61, op := Op.pick (Operand.tmp 47) (Operand.tmp 60) (Operand.const (Value.bool false)), type := 4, pos := "call.go:25", after := #[{ on := 35, ground := Ground.data }, { on := 48, ground := Ground.data }, { on := 32, ground := Ground.guard }], guard := some (32, false) }) (v := undef) rfl (by kernel_rfl) (by kernel_rfl) (by kernel_rfl) (fun _ _ _ h => h) (Or.inr ⟨by rfl, rfl⟩) hSA ?_
            try simp only [Act.put, List.setIfInBounds_toArray, List.set_cons_zero, List.set_cons_succ]
            refine wpAnyH_take (i := 50) (oi := { dst := some 62, op := Op.pick (Operand.tmp 44) (Operand.const (Value.bool true)) (Operand.tmp 61), type := 4, pos := "call.go:25", after := #[{ on := 32, ground := Ground.data }, { on := 49, ground := Ground.data }], guard := none }) (v := .bool true) rfl (by kernel_rfl) (by kernel_rfl) (by kernel_rfl) (fun _ _ _ h => h) (Or.inl ⟨by rfl, by intro w hSw; go_simp⟩) hSA ?_
            try simp only [Act.put, List.setIfInBounds_toArray, List.set_cons_zero, List.set_cons_succ]
            refine wpAnyH_done (by kernel_rfl) ?_ _
            have hbe := hSA.2.2.2.2
            clear hlit rg nr
            go_wp2_with fail
            go_ret
            exact ⟨by rw [HBAD.out]; rfl, hbe⟩
          · have h1' : decide (ca < 1) = false := by simpa using h1
            by_cases h2 : ct < 0
            · have HBAD := Lib.hid (HBAD0.out (by rw [HAT.out, HB.out, Hr.out, Hr2.out, decide_eq_false (show ¬ (0 ≤ ct ∧ ct ≤ 1099511627776) by omega)]; simp))
              have hSW := hS4
              clear hS4 HBAD0 HOK0 HAT HB HO h1
              have hSA := keepK4 ((Below.refl _ W).alloc (Nat.le_refl _) (.cells #[.int .i64 ca] 3)).drew hSW
              refine wp_region_held_drew (S := (fun wx => wx.cell? ⟨gc, 0, none⟩ = some (.int .i64 cw) ∧ wx.cell? ⟨gc, 1, none⟩ = some (.int .i64 cc) ∧ wx.cell? ⟨gc, 2, none⟩ = some (.int .i64 ca) ∧ wx.cell? ⟨gc, 3, none⟩ = some (.int .i64 ct) ∧ Below w.heap.size w wx)) (by kernel_rfl) (keepK4 (Below.refl _ _).drew hSW) (fun hS0 => ?_)
              clear hSW
              refine wpAnyH_take (i := 0) (oi := { dst := some 12, op := Op.fieldAddr 28 (Operand.tmp 4) 0, type := 0, pos := "call.go:25", after := #[], guard := none }) (v := .pointer (some ⟨gc, 0, none⟩)) rfl (by kernel_rfl) (by kernel_rfl) (by kernel_rfl) (fun _ _ _ h => h) (Or.inl ⟨by rfl, by intro w hSw; go_simp⟩) hS0 ?_
              try simp only [Act.put, List.setIfInBounds_toArray, List.set_cons_zero, List.set_cons_succ]
              refine wpAnyH_take (i := 1) (oi := { dst := some 13, op := Op.fieldAddr 26 (Operand.tmp 12) 0, type := 0, pos := "call.go:25", after := #[{ on := 0, ground := Ground.data }], guard := none }) (v := .pointer (some ⟨gc, 0, none⟩)) rfl (by kernel_rfl) (by kernel_rfl) (by kernel_rfl) (fun _ _ _ h => h) (Or.inl ⟨by rfl, by intro w hSw; go_simp⟩) hS0 ?_
              try simp only [Act.put, List.setIfInBounds_toArray, List.set_cons_zero, List.set_cons_succ]
              refine wpAnyH_take (i := 2) (oi := { dst := some 14, op := Op.load 3 (Operand.tmp 13), type := 3, pos := "call.go:25", after := #[{ on := 1, ground := Ground.data }], guard := none }) (v := .int .i64 cw) rfl (by kernel_rfl) (by kernel_rfl) (by kernel_rfl) (fun _ _ _ h => h) (Or.inl ⟨by rfl, by intro w hSw; obtain ⟨h0, h1, h2, h3, _⟩ := hSw; go_simp⟩) hS0 ?_
              try simp only [Act.put, List.setIfInBounds_toArray, List.set_cons_zero, List.set_cons_succ]
              refine wpAnyH_take (i := 3) (oi := { dst := some 15, op := Op.fieldAddr 28 (Operand.tmp 4) 0, type := 0, pos := "call.go:25", after := #[], guard := none }) (v := .pointer (some ⟨gc, 0, none⟩)) rfl (by kernel_rfl) (by kernel_rfl) (by kernel_rfl) (fun _ _ _ h => h) (Or.inl ⟨by rfl, by intro w hSw; go_simp⟩) hS0 ?_
              try simp only [Act.put, List.setIfInBounds_toArray, List.set_cons_zero, List.set_cons_succ]
              refine wpAnyH_take (i := 4) (oi := { dst := some 16, op := Op.fieldAddr 26 (Operand.tmp 15) 1, type := 0, pos := "call.go:25", after := #[{ on := 3, ground := Ground.data }], guard := none }) (v := .pointer (some ⟨gc, 1, none⟩)) rfl (by kernel_rfl) (by kernel_rfl) (by kernel_rfl) (fun _ _ _ h => h) (Or.inl ⟨by rfl, by intro w hSw; go_simp⟩) hS0 ?_
              try simp only [Act.put, List.setIfInBounds_toArray, List.set_cons_zero, List.set_cons_succ]
              refine wpAnyH_take (i := 5) (oi := { dst := some 17, op := Op.load 3 (Operand.tmp 16), type := 3, pos := "call.go:25", after := #[{ on := 4, ground := Ground.data }], guard := none }) (v := .int .i64 cc) rfl (by kernel_rfl) (by kernel_rfl) (by kernel_rfl) (fun _ _ _ h => h) (Or.inl ⟨by rfl, by intro w hSw; obtain ⟨h0, h1, h2, h3, _⟩ := hSw; go_simp⟩) hS0 ?_
              try simp only [Act.put, List.setIfInBounds_toArray, List.set_cons_zero, List.set_cons_succ]
              refine wpAnyH_ready (rs := [6]) (by kernel_rfl) (by simp) ?_
              refine AllReadyH.cons (o := { dst := some 18, op := Op.call { callee := Callee.value (Operand.func 33), args := #[Operand.tmp 14, Operand.tmp 17], argTypes := #[3, 3] }, type := 4, pos := "call.go:25", after := #[{ on := 2, ground := Ground.data }, { on := 5, ground := Ground.data }], guard := none }) rfl (fun K hK => ?_) AllReadyH.nil
              go_simp
              go_at_call 33
              (with_reducible refine (rg _).mono ?_)
              rintro e w1 ⟨rfl, rfl⟩
              go_simp
              refine hK.out _ _ hS0 (fun _ => ?_)
              clear hK K
              try simp only [Act.put, List.setIfInBounds_toArray, List.set_cons_zero, List.set_cons_succ]
              refine wpAnyH_take (i := 7) (oi := { dst := some 19, op := Op.unOp UnOp.not 4 (Operand.tmp 18), type := 4, pos := "call.go:25", after := #[{ on := 6, ground := Ground.data }], guard := none }) (v := .bool false) rfl (by kernel_rfl) (by kernel_rfl) (by kernel_rfl) (fun _ _ _ h => h) (Or.inl ⟨by rfl, by intro w hSw; go_simp⟩) hS0 ?_
              try simp only [Act.put, List.setIfInBounds_toArray, List.set_cons_zero, List.set_cons_succ]
              refine wpAnyH_take (i := 8) (oi := { dst := some 20, op := Op.move (Operand.tmp 19), type := 4, pos := "call.go:25", after := #[{ on := 7, ground := Ground.data }, { on := 6, ground := Ground.chain }], guard := none }) (v := .bool false) rfl (by kernel_rfl) (by kernel_rfl) (by kernel_rfl) (fun _ _ _ h => h) (Or.inl ⟨by rfl, by intro w hSw; go_simp⟩) hS0 ?_
              try simp only [Act.put, List.setIfInBounds_toArray, List.set_cons_zero, List.set_cons_succ]
              refine wpAnyH_take (i := 9) (oi := { dst := some 21, op := Op.fieldAddr 28 (Operand.tmp 4) 0, type := 0, pos := "call.go:25", after := #[{ on := 8, ground := Ground.guard }], guard := some (8, false) }) (v := .pointer (some ⟨gc, 0, none⟩)) rfl (by kernel_rfl) (by kernel_rfl) (by kernel_rfl) (fun _ _ _ h => h) (Or.inl ⟨by rfl, by intro w hSw; go_simp⟩) hS0 ?_
              try simp only [Act.put, List.setIfInBounds_toArray, List.set_cons_zero, List.set_cons_succ]
              refine wpAnyH_take (i := 10) (oi := { dst := some 22, op := Op.fieldAddr 26 (Operand.tmp 21) 2, type := 0, pos := "call.go:25", after := #[{ on := 9, ground := Ground.data }, { on := 8, ground := Ground.guard }], guard := some (8, false) }) (v := .pointer (some ⟨gc, 2, none⟩)) rfl (by kernel_rfl) (by kernel_rfl) (by kernel_rfl) (fun _ _ _ h => h) (Or.inl ⟨by rfl, by intro w hSw; go_simp⟩) hS0 ?_
              try simp only [Act.put, List.setIfInBounds_toArray, List.set_cons_zero, List.set_cons_succ]
              refine wpAnyH_take (i := 11) (oi := { dst := some 23, op := Op.load 3 (Operand.tmp 22), type := 3, pos := "call.go:25", after := #[{ on := 10, ground := Ground.data }, { on := 8, ground := Ground.guard }], guard := some (8, false) }) (v := .int .i64 ca) rfl (by kernel_rfl) (by kernel_rfl) (by kernel_rfl) (fun _ _ _ h => h) (Or.inl ⟨by rfl, by intro w hSw; obtain ⟨h0, h1, h2, h3, _⟩ := hSw; go_simp⟩) hS0 ?_
              try simp only [Act.put, List.setIfInBounds_toArray, List.set_cons_zero, List.set_cons_succ]
              refine wpAnyH_ready (rs := [12]) (by kernel_rfl) (by simp) ?_
              refine AllReadyH.cons (o := { dst := some 24, op := Op.buildSlice 32 1 #[(0, Operand.tmp 23)], type := 32, pos := "call.go:25", after := #[{ on := 11, ground := Ground.data }, { on := 8, ground := Ground.guard }], guard := some (8, false) }) rfl (fun K hK => ?_) AllReadyH.nil
              go_simp
              refine hK.out _ _ hSA (fun _ => ?_)
              clear hK K
              try simp only [Act.put, List.setIfInBounds_toArray, List.set_cons_zero, List.set_cons_succ]
              refine wpAnyH_ready (rs := [13]) (by kernel_rfl) (by simp) ?_
              refine AllReadyH.cons (o := { dst := some 25, op := Op.call { callee := Callee.value (Operand.func 34), args := #[Operand.tmp 24], argTypes := #[32] }, type := 4, pos := "call.go:25", after := #[{ on := 12, ground := Ground.data }, { on := 8, ground := Ground.chain }, { on := 8, ground := Ground.guard }], guard := some (8, false) }) rfl (fun K hK => ?_) AllReadyH.nil
              go_simp
              go_at_call 34
              (with_reducible refine (nr _ hlit).mono ?_)
              rintro e w1 ⟨rfl, rfl⟩
              go_simp
              refine hK.out _ _ hSA (fun _ => ?_)
              clear hK K
              try simp only [Act.put, List.setIfInBounds_toArray, List.set_cons_zero, List.set_cons_succ]
              refine wpAnyH_take (i := 14) (oi := { dst := some 26, op := Op.unOp UnOp.not 4 (Operand.tmp 25), type := 4, pos := "call.go:25", after := #[{ on := 13, ground := Ground.data }, { on := 8, ground := Ground.guard }], guard := some (8, false) }) (v := .bool false) rfl (by kernel_rfl) (by kernel_rfl) (by kernel_rfl) (fun _ _ _ h => h) (Or.inl ⟨by rfl, by intro w hSw; go_simp⟩) hSA ?_
              try simp only [Act.put, List.setIfInBounds_toArray, List.set_cons_zero, List.set_cons_succ]
              refine wpAnyH_take (i := 15) (oi := { dst := some 27, op := Op.pick (Operand.tmp 20) (Operand.const (Value.bool true)) (Operand.tmp 26), type := 4, pos := "call.go:25", after := #[{ on := 8, ground := Ground.data }, { on := 14, ground := Ground.data }], guard := none }) (v := .bool false) rfl (by kernel_rfl) (by kernel_rfl) (by kernel_rfl) (fun _ _ _ h => h) (Or.inl ⟨by rfl, by intro w hSw; go_simp⟩) hSA ?_
              try simp only [Act.put, List.setIfInBounds_toArray, List.set_cons_zero, List.set_cons_succ]
              refine wpAnyH_take (i := 16) (oi := { dst := some 28, op := Op.move (Operand.tmp 27), type := 4, pos := "call.go:25", after := #[{ on := 15, ground := Ground.data }, { on := 13, ground := Ground.chain }], guard := none }) (v := .bool false) rfl (by kernel_rfl) (by kernel_rfl) (by kernel_rfl) (fun _ _ _ h => h) (Or.inl ⟨by rfl, by intro w hSw; go_simp⟩) hSA ?_
              try simp only [Act.put, List.setIfInBounds_toArray, List.set_cons_zero, List.set_cons_succ]
              refine wpAnyH_take (i := 17) (oi := { dst := some 29, op := Op.fieldAddr 28 (Operand.tmp 4) 0, type := 0, pos := "call.go:25", after := #[{ on := 16, ground := Ground.guard }], guard := some (16, false) }) (v := .pointer (some ⟨gc, 0, none⟩)) rfl (by kernel_rfl) (by kernel_rfl) (by kernel_rfl) (fun _ _ _ h => h) (Or.inl ⟨by rfl, by intro w hSw; go_simp⟩) hSA ?_
              try simp only [Act.put, List.setIfInBounds_toArray, List.set_cons_zero, List.set_cons_succ]
              refine wpAnyH_take (i := 18) (oi := { dst := some 30, op := Op.fieldAddr 26 (Operand.tmp 29) 2, type := 0, pos := "call.go:25", after := #[{ on := 17, ground := Ground.data }, { on := 16, ground := Ground.guard }], guard := some (16, false) }) (v := .pointer (some ⟨gc, 2, none⟩)) rfl (by kernel_rfl) (by kernel_rfl) (by kernel_rfl) (fun _ _ _ h => h) (Or.inl ⟨by rfl, by intro w hSw; go_simp⟩) hSA ?_
              try simp only [Act.put, List.setIfInBounds_toArray, List.set_cons_zero, List.set_cons_succ]
              refine wpAnyH_take (i := 19) (oi := { dst := some 31, op := Op.load 3 (Operand.tmp 30), type := 3, pos := "call.go:25", after := #[{ on := 18, ground := Ground.data }, { on := 16, ground := Ground.guard }], guard := some (16, false) }) (v := .int .i64 ca) rfl (by kernel_rfl) (by kernel_rfl) (by kernel_rfl) (fun _ _ _ h => h) (Or.inl ⟨by rfl, by intro w hSw; obtain ⟨h0, h1, h2, h3, _⟩ := hSw; go_simp⟩) hSA ?_
              try simp only [Act.put, List.setIfInBounds_toArray, List.set_cons_zero, List.set_cons_succ]
              refine wpAnyH_take (i := 20) (oi := { dst := some 32, op := Op.binOp BinOp.lss 3 (Operand.tmp 31) (Operand.const (Value.int IntKind.i64 1)) 3, type := 4, pos := "call.go:25", after := #[{ on := 19, ground := Ground.data }, { on := 16, ground := Ground.guard }], guard := some (16, false) }) (v := .bool false) rfl (by kernel_rfl) (by kernel_rfl) (by kernel_rfl) (fun _ _ _ h => h) (Or.inl ⟨by rfl, by intro w hSw; go_simp⟩) hSA ?_
              try simp only [Act.put, List.setIfInBounds_toArray, List.set_cons_zero, List.set_cons_succ]
              refine wpAnyH_take (i := 21) (oi := { dst := some 33, op := Op.pick (Operand.tmp 28) (Operand.const (Value.bool true)) (Operand.tmp 32), type := 4, pos := "call.go:25", after := #[{ on := 16, ground := Ground.data }, { on := 20, ground := Ground.data }], guard := none }) (v := .bool false) rfl (by kernel_rfl) (by kernel_rfl) (by kernel_rfl) (fun _ _ _ h => h) (Or.inl ⟨by rfl, by intro w hSw; go_simp⟩) hSA ?_
              try simp only [Act.put, List.setIfInBounds_toArray, List.set_cons_zero, List.set_cons_succ]
              refine wpAnyH_take (i := 22) (oi := { dst := some 34, op := Op.move (Operand.tmp 33), type := 4, pos := "call.go:25", after := #[{ on := 21, ground := Ground.data }, { on := 16, ground := Ground.chain }], guard := none }) (v := .bool false) rfl (by kernel_rfl) (by kernel_rfl) (by kernel_rfl) (fun _ _ _ h => h) (Or.inl ⟨by rfl, by intro w hSw; go_simp⟩) hSA ?_
              try simp only [Act.put, List.setIfInBounds_toArray, List.set_cons_zero, List.set_cons_succ]
              refine wpAnyH_take (i := 23) (oi := { dst := some 35, op := Op.fieldAddr 28 (Operand.tmp 4) 1, type := 0, pos := "call.go:25", after := #[{ on := 22, ground := Ground.guard }], guard := some (22, false) }) (v := .pointer (some ⟨gc, 3, none⟩)) rfl (by kernel_rfl) (by kernel_rfl) (by kernel_rfl) (fun _ _ _ h => h) (Or.inl ⟨by rfl, by intro w hSw; go_simp⟩) hSA ?_
              try simp only [Act.put, List.setIfInBounds_toArray, List.set_cons_zero, List.set_cons_succ]
              refine wpAnyH_take (i := 24) (oi := { dst := some 36, op := Op.load 3 (Operand.tmp 35), type := 3, pos := "call.go:25", after := #[{ on := 23, ground := Ground.data }, { on := 22, ground := Ground.guard }], guard := some (22, false) }) (v := .int .i64 ct) rfl (by kernel_rfl) (by kernel_rfl) (by kernel_rfl) (fun _ _ _ h => h) (Or.inl ⟨by rfl, by intro w hSw; obtain ⟨h0, h1, h2, h3, _⟩ := hSw; go_simp⟩) hSA ?_
              try simp only [Act.put, List.setIfInBounds_toArray, List.set_cons_zero, List.set_cons_succ]
              refine wpAnyH_take (i := 25) (oi := { dst := some 37, op := Op.binOp BinOp.lss 3 (Operand.tmp 36) (Operand.const (Value.int IntKind.i64 0)) 3, type := 4, pos := "call.go:25", after := #[{ on := 24, ground := Ground.data }, { on := 22, ground := Ground.guard }], guard := some (22, false) }) (v := .bool true) rfl (by kernel_rfl) (by kernel_rfl) (by kernel_rfl) (fun _ _ _ h => h) (Or.inl ⟨by rfl, by intro w hSw; go_simp⟩) hSA ?_
              try simp only [Act.put, List.setIfInBounds_toArray, List.set_cons_zero, List.set_cons_succ]
              refine wpAnyH_take (i := 26) (oi := { dst := some 38, op := Op.pick (Operand.tmp 34) (Operand.const (Value.bool true)) (Operand.tmp 37), type := 4, pos := "call.go:25", after := #[{ on := 22, ground := Ground.data }, { on := 25, ground := Ground.data }], guard := none }) (v := .bool true) rfl (by kernel_rfl) (by kernel_rfl) (by kernel_rfl) (fun _ _ _ h => h) (Or.inl ⟨by rfl, by intro w hSw; go_simp⟩) hSA ?_
              try simp only [Act.put, List.setIfInBounds_toArray, List.set_cons_zero, List.set_cons_succ]
              refine wpAnyH_take (i := 27) (oi := { dst := some 39, op := Op.move (Operand.tmp 38), type := 4, pos := "call.go:25", after := #[{ on := 26, ground := Ground.data }, { on := 22, ground := Ground.chain }], guard := none }) (v := .bool true) rfl (by kernel_rfl) (by kernel_rfl) (by kernel_rfl) (fun _ _ _ h => h) (Or.inl ⟨by rfl, by intro w hSw; go_simp⟩) hSA ?_
              try simp only [Act.put, List.setIfInBounds_toArray, List.set_cons_zero, List.set_cons_succ]
              refine wpAnyH_take (i := 28) (oi := { dst := some 40, op := Op.fieldAddr 28 (Operand.tmp 4) 1, type := 0, pos := "call.go:25", after := #[{ on := 27, ground := Ground.guard }], guard := some (27, false) }) (v := undef) rfl (by kernel_rfl) (by kernel_rfl) (by kernel_rfl) (fun _ _ _ h => h) (Or.inr ⟨by rfl, rfl⟩) hSA ?_
              try simp only [Act.put, List.setIfInBounds_toArray, List.set_cons_zero, List.set_cons_succ]
              refine wpAnyH_take (i := 29) (oi := { dst := some 41, op := Op.load 3 (Operand.tmp 40), type := 3, pos := "call.go:25", after := #[{ on := 28, ground := Ground.data }, { on := 27, ground := Ground.guard }], guard := some (27, false) }) (v := undef) rfl (by kernel_rfl) (by kernel_rfl) (by kernel_rfl) (fun _ _ _ h => h) (Or.inr ⟨by rfl, rfl⟩) hSA ?_
              try simp only [Act.put, List.setIfInBounds_toArray, List.set_cons_zero, List.set_cons_succ]
              refine wpAnyH_take (i := 30) (oi := { dst := some 42, op := Op.binOp BinOp.gtr 3 (Operand.tmp 41) (Operand.const (Value.int IntKind.i64 1099511627776)) 3, type := 4, pos := "call.go:25", after := #[{ on := 29, ground := Ground.data }, { on := 27, ground := Ground.guard }], guard := some (27, false) }) (v := undef) rfl (by kernel_rfl) (by kernel_rfl) (by kernel_rfl) (fun _ _ _ h => h) (Or.inr ⟨by rfl, rfl⟩) hSA ?_
              try simp only [Act.put, List.setIfInBounds_toArray, List.set_cons_zero, List.set_cons_succ]
              refine wpAnyH_take (i := 31) (oi := { dst := some 43, op := Op.pick (Operand.tmp 39) (Operand.const (Value.bool true)) (Operand.tmp 42), type := 4, pos := "call.go:25", after := #[{ on := 27, ground := Ground.data }, { on := 30, ground := Ground.data }], guard := none }) (v := .bool true) rfl (by kernel_rfl) (by kernel_rfl) (by kernel_rfl) (fun _ _ _ h => h) (Or.inl ⟨by rfl, by intro w hSw; go_simp⟩) hSA ?_
              try simp only [Act.put, List.setIfInBounds_toArray, List.set_cons_zero, List.set_cons_succ]
              refine wpAnyH_take (i := 32) (oi := { dst := some 44, op := Op.move (Operand.tmp 43), type := 4, pos := "call.go:25", after := #[{ on := 31, ground := Ground.data }, { on := 27, ground := Ground.chain }], guard := none }) (v := .bool true) rfl (by kernel_rfl) (by kernel_rfl) (by kernel_rfl) (fun _ _ _ h => h) (Or.inl ⟨by rfl, by intro w hSw; go_simp⟩) hSA ?_
              try simp only [Act.put, List.setIfInBounds_toArray, List.set_cons_zero, List.set_cons_succ]
              refine wpAnyH_take (i := 33) (oi := { dst := some 45, op := Op.move (Operand.tmp 3), type := 3, pos := "call.go:25", after := #[{ on := 32, ground := Ground.guard }], guard := some (32, false) }) (v := undef) rfl (by kernel_rfl) (by kernel_rfl) (by kernel_rfl) (fun _ _ _ h => h) (Or.inr ⟨by rfl, rfl⟩) hSA ?_
              try simp only [Act.put, List.setIfInBounds_toArray, List.set_cons_zero, List.set_cons_succ]
              refine wpAnyH_take (i := 34) (oi := { dst := some 46, op := Op.binOp BinOp.gtr 3 (Operand.tmp 45) (Operand.const (Value.int IntKind.i64 0)) 3, type := 4, pos := "call.go:25", after := #[{ on := 33, ground := Ground.data }, { on := 32, ground := Ground.guard }], guard := some (32, false) }) (v := undef) rfl (by kernel_rfl) (by kernel_rfl) (by kernel_rfl) (fun _ _ _ h => h) (Or.inr ⟨by rfl, rfl⟩) hSA ?_
              try simp only [Act.put, List.setIfInBounds_toArray, List.set_cons_zero, List.set_cons_succ]
              refine wpAnyH_take (i := 35) (oi := { dst := some 47, op := Op.move (Operand.tmp 46), type := 4, pos := "call.go:25", after := #[{ on := 34, ground := Ground.data }, { on := 32, ground := Ground.chain }, { on := 32, ground := Ground.guard }], guard := some (32, false) }) (v := undef) rfl (by kernel_rfl) (by kernel_rfl) (by kernel_rfl) (fun _ _ _ h => h) (Or.inr ⟨by rfl, rfl⟩) hSA ?_
              try simp only [Act.put, List.setIfInBounds_toArray, List.set_cons_zero, List.set_cons_succ]
              refine wpAnyH_take (i := 36) (oi := { dst := some 48, op := Op.move (Operand.tmp 0), type := 22, pos := "call.go:25", after := #[{ on := 35, ground := Ground.guard }], guard := some (35, true) }) (v := undef) rfl (by kernel_rfl) (by kernel_rfl) (by kernel_rfl) (fun _ _ _ h => h) (Or.inr ⟨by rfl, rfl⟩) hSA ?_
              try simp only [Act.put, List.setIfInBounds_toArray, List.set_cons_zero, List.set_cons_succ]
              refine wpAnyH_take (i := 37) (oi := { dst := some 49, op := Op.move (Operand.tmp 3), type := 3, pos := "call.go:25", after := #[{ on := 35, ground := Ground.guard }], guard := some (35, true) }) (v := undef) rfl (by kernel_rfl) (by kernel_rfl) (by kernel_rfl) (fun _ _ _ h => h) (Or.inr ⟨by rfl, rfl⟩) hSA ?_
              try simp only [Act.put, List.setIfInBounds_toArray, List.set_cons_zero, List.set_cons_succ]
              refine wpAnyH_take (i := 38) (oi := { dst := some 50, op := Op.binOp BinOp.sub 3 (Operand.tmp 49) (Operand.const (Value.int IntKind.i64 1)) 3, type := 3, pos := "call.go:25", after := #[{ on := 37, ground := Ground.data }, { on := 35, ground := Ground.guard }], guard := some (35, true) }) (v := undef) rfl (by kernel_rfl) (by kernel_rfl) (by kernel_rfl) (fun _ _ _ h => h) (Or.inr ⟨by rfl, rfl⟩) hSA ?_
              try simp only [Act.put, List.setIfInBounds_toArray, List.set_cons_zero, List.set_cons_succ]
              refine wpAnyH_take (i := 39) (oi := { dst := some 51, op := Op.indexAddr 22 (Operand.tmp 48) (Operand.tmp 50), type := 0, pos := "call.go:25", after := #[{ on := 36, ground := Ground.data }, { on := 38, ground := Ground.data }, { on := 35, ground := Ground.guard }], guard := some (35, true) }) (v := undef) rfl (by kernel_rfl) (by kernel_rfl) (by kernel_rfl) (fun _ _ _ h => h) (Or.inr ⟨by rfl, rfl⟩) hSA ?_
              try simp only [Act.put, List.setIfInBounds_toArray, List.set_cons_zero, List.set_cons_succ]
              refine wpAnyH_take (i := 40) (oi := { dst := some 52, op := Op.load 28 (Operand.tmp 51), type := 28, pos := "call.go:25", after := #[{ on := 39, ground := Ground.data }, { on := 35, ground := Ground.guard }], guard := some (35, true) }) (v := undef) rfl (by kernel_rfl) (by kernel_rfl) (by kernel_rfl) (fun _ _ _ h => h) (Or.inr ⟨by rfl, rfl⟩) hSA ?_
              try simp only [Act.put, List.setIfInBounds_toArray, List.set_cons_zero, List.set_cons_succ]
              refine wpAnyH_take (i := 41) (oi := { dst := some 53, op := Op.fieldAddr 28 (Operand.tmp 4) 0, type := 0, pos := "call.go:25", after := #[{ on := 35, ground := Ground.guard }], guard := some (35, true) }) (v := undef) rfl (by kernel_rfl) (by kernel_rfl) (by kernel_rfl) (fun _ _ _ h => h) (Or.inr ⟨by rfl, rfl⟩) hSA ?_
              try simp only [Act.put, List.setIfInBounds_toArray, List.set_cons_zero, List.set_cons_succ]
              refine wpAnyH_take (i := 42) (oi := { dst := some 54, op := Op.fieldAddr 26 (Operand.tmp 53) 0, type := 0, pos := "call.go:25", after := #[{ on := 41, ground := Ground.data }, { on := 35, ground := Ground.guard }], guard := some (35, true) }) (v := undef) rfl (by kernel_rfl) (by kernel_rfl) (by kernel_rfl) (fun _ _ _ h => h) (Or.inr ⟨by rfl, rfl⟩) hSA ?_
              try simp only [Act.put, List.setIfInBounds_toArray, List.set_cons_zero, List.set_cons_succ]
              refine wpAnyH_take (i := 43) (oi := { dst := some 55, op := Op.load 3 (Operand.tmp 54), type := 3, pos := "call.go:25", after := #[{ on := 42, ground := Ground.data }, { on := 35, ground := Ground.guard }], guard := some (35, true) }) (v := undef) rfl (by kernel_rfl) (by kernel_rfl) (by kernel_rfl) (fun _ _ _ h => h) (Or.inr ⟨by rfl, rfl⟩) hSA ?_
              try simp only [Act.put, List.setIfInBounds_toArray, List.set_cons_zero, List.set_cons_succ]
              refine wpAnyH_take (i := 44) (oi := { dst := some 56, op := Op.fieldAddr 28 (Operand.tmp 4) 0, type := 0, pos := "call.go:25", after := #[{ on := 35, ground := Ground.guard }], guard := some (35, true) }) (v := undef) rfl (by kernel_rfl) (by kernel_rfl) (by kernel_rfl) (fun _ _ _ h => h) (Or.inr ⟨by rfl, rfl⟩) hSA ?_
              try simp only [Act.put, List.setIfInBounds_toArray, List.set_cons_zero, List.set_cons_succ]
              refine wpAnyH_take (i := 45) (oi := { dst := some 57, op := Op.fieldAddr 26 (Operand.tmp 56) 1, type := 0, pos := "call.go:25", after := #[{ on := 44, ground := Ground.data }, { on := 35, ground := Ground.guard }], guard := some (35, true) }) (v := undef) rfl (by kernel_rfl) (by kernel_rfl) (by kernel_rfl) (fun _ _ _ h => h) (Or.inr ⟨by rfl, rfl⟩) hSA ?_
              try simp only [Act.put, List.setIfInBounds_toArray, List.set_cons_zero, List.set_cons_succ]
              refine wpAnyH_take (i := 46) (oi := { dst := some 58, op := Op.load 3 (Operand.tmp 57), type := 3, pos := "call.go:25", after := #[{ on := 45, ground := Ground.data }, { on := 35, ground := Ground.guard }], guard := some (35, true) }) (v := undef) rfl (by kernel_rfl) (by kernel_rfl) (by kernel_rfl) (fun _ _ _ h => h) (Or.inr ⟨by rfl, rfl⟩) hSA ?_
              try simp only [Act.put, List.setIfInBounds_toArray, List.set_cons_zero, List.set_cons_succ]
              refine wpAnyH_take (i := 47) (oi := { dst := some 59, op := Op.call { callee := Callee.value (Operand.func 35), args := #[Operand.tmp 52, Operand.tmp 55, Operand.tmp 58], argTypes := #[28, 3, 3] }, type := 3, pos := "call.go:25", after := #[{ on := 40, ground := Ground.data }, { on := 43, ground := Ground.data }, { on := 46, ground := Ground.data }, { on := 35, ground := Ground.chain }, { on := 35, ground := Ground.guard }], guard := some (35, true) }) (v := undef) rfl (by kernel_rfl) (by kernel_rfl) (by kernel_rfl) (fun _ _ _ h => h) (Or.inr ⟨by rfl, rfl⟩) hSA ?_
              try simp only [Act.put, List.setIfInBounds_toArray, List.set_cons_zero, List.set_cons_succ]
              refine wpAnyH_take (i := 48) (oi := { dst := some 60, op := Op.binOp BinOp.geq 3 (Operand.tmp 59) (Operand.const (Value.int IntKind.i64 0)) 3, type := 4, pos := "call.go:25", after := #[{ on := 47, ground := Ground.data }, { on := 35, ground := Ground.guard }], guard := some (35, true) }) (v := undef) rfl (by kernel_rfl) (by kernel_rfl) (by kernel_rfl) (fun _ _ _ h => h) (Or.inr ⟨by rfl, rfl⟩) hSA ?_
              try simp only [Act.put, List.setIfInBounds_toArray, List.set_cons_zero, List.set_cons_succ]
              refine wpAnyH_take (i := 49) (oi := { dst := some 61, op := Op.pick (Operand.tmp 47) (Operand.tmp 60) (Operand.const (Value.bool false)), type := 4, pos := "call.go:25", after := #[{ on := 35, ground := Ground.data }, { on := 48, ground := Ground.data }, { on := 32, ground := Ground.guard }], guard := some (32, false) }) (v := undef) rfl (by kernel_rfl) (by kernel_rfl) (by kernel_rfl) (fun _ _ _ h => h) (Or.inr ⟨by rfl, rfl⟩) hSA ?_
              try simp only [Act.put, List.setIfInBounds_toArray, List.set_cons_zero, List.set_cons_succ]
              refine wpAnyH_take (i := 50) (oi := { dst := some 62, op := Op.pick (Operand.tmp 44) (Operand.const (Value.bool true)) (Operand.tmp 61), type := 4, pos := "call.go:25", after := #[{ on := 32, ground := Ground.data }, { on := 49, ground := Ground.data }], guard := none }) (v := .bool true) rfl (by kernel_rfl) (by kernel_rfl) (by kernel_rfl) (fun _ _ _ h => h) (Or.inl ⟨by rfl, by intro w hSw; go_simp⟩) hSA ?_
              try simp only [Act.put, List.setIfInBounds_toArray, List.set_cons_zero, List.set_cons_succ]
              refine wpAnyH_done (by kernel_rfl) ?_ _
              have hbe := hSA.2.2.2.2
              clear hlit rg nr
              go_wp2_with fail
              go_ret
              exact ⟨by rw [HBAD.out]; rfl, hbe⟩
            · have h2' : decide (ct < 0) = false := by simpa using h2
              by_cases h3 : 1099511627776 < ct
              · have HBAD := Lib.hid (HBAD0.out (by rw [HAT.out, HB.out, Hr.out, Hr2.out, decide_eq_false (show ¬ (0 ≤ ct ∧ ct ≤ 1099511627776) by omega)]; simp))
                have hSW := hS4
                clear hS4 HBAD0 HOK0 HAT HB HO h1 h2
                have hSA := keepK4 ((Below.refl _ W).alloc (Nat.le_refl _) (.cells #[.int .i64 ca] 3)).drew hSW
                refine wp_region_held_drew (S := (fun wx => wx.cell? ⟨gc, 0, none⟩ = some (.int .i64 cw) ∧ wx.cell? ⟨gc, 1, none⟩ = some (.int .i64 cc) ∧ wx.cell? ⟨gc, 2, none⟩ = some (.int .i64 ca) ∧ wx.cell? ⟨gc, 3, none⟩ = some (.int .i64 ct) ∧ Below w.heap.size w wx)) (by kernel_rfl) (keepK4 (Below.refl _ _).drew hSW) (fun hS0 => ?_)
                clear hSW
                refine wpAnyH_take (i := 0) (oi := { dst := some 12, op := Op.fieldAddr 28 (Operand.tmp 4) 0, type := 0, pos := "call.go:25", after := #[], guard := none }) (v := .pointer (some ⟨gc, 0, none⟩)) rfl (by kernel_rfl) (by kernel_rfl) (by kernel_rfl) (fun _ _ _ h => h) (Or.inl ⟨by rfl, by intro w hSw; go_simp⟩) hS0 ?_
                try simp only [Act.put, List.setIfInBounds_toArray, List.set_cons_zero, List.set_cons_succ]
                refine wpAnyH_take (i := 1) (oi := { dst := some 13, op := Op.fieldAddr 26 (Operand.tmp 12) 0, type := 0, pos := "call.go:25", after := #[{ on := 0, ground := Ground.data }], guard := none }) (v := .pointer (some ⟨gc, 0, none⟩)) rfl (by kernel_rfl) (by kernel_rfl) (by kernel_rfl) (fun _ _ _ h => h) (Or.inl ⟨by rfl, by intro w hSw; go_simp⟩) hS0 ?_
                try simp only [Act.put, List.setIfInBounds_toArray, List.set_cons_zero, List.set_cons_succ]
                refine wpAnyH_take (i := 2) (oi := { dst := some 14, op := Op.load 3 (Operand.tmp 13), type := 3, pos := "call.go:25", after := #[{ on := 1, ground := Ground.data }], guard := none }) (v := .int .i64 cw) rfl (by kernel_rfl) (by kernel_rfl) (by kernel_rfl) (fun _ _ _ h => h) (Or.inl ⟨by rfl, by intro w hSw; obtain ⟨h0, h1, h2, h3, _⟩ := hSw; go_simp⟩) hS0 ?_
                try simp only [Act.put, List.setIfInBounds_toArray, List.set_cons_zero, List.set_cons_succ]
                refine wpAnyH_take (i := 3) (oi := { dst := some 15, op := Op.fieldAddr 28 (Operand.tmp 4) 0, type := 0, pos := "call.go:25", after := #[], guard := none }) (v := .pointer (some ⟨gc, 0, none⟩)) rfl (by kernel_rfl) (by kernel_rfl) (by kernel_rfl) (fun _ _ _ h => h) (Or.inl ⟨by rfl, by intro w hSw; go_simp⟩) hS0 ?_
                try simp only [Act.put, List.setIfInBounds_toArray, List.set_cons_zero, List.set_cons_succ]
                refine wpAnyH_take (i := 4) (oi := { dst := some 16, op := Op.fieldAddr 26 (Operand.tmp 15) 1, type := 0, pos := "call.go:25", after := #[{ on := 3, ground := Ground.data }], guard := none }) (v := .pointer (some ⟨gc, 1, none⟩)) rfl (by kernel_rfl) (by kernel_rfl) (by kernel_rfl) (fun _ _ _ h => h) (Or.inl ⟨by rfl, by intro w hSw; go_simp⟩) hS0 ?_
                try simp only [Act.put, List.setIfInBounds_toArray, List.set_cons_zero, List.set_cons_succ]
                refine wpAnyH_take (i := 5) (oi := { dst := some 17, op := Op.load 3 (Operand.tmp 16), type := 3, pos := "call.go:25", after := #[{ on := 4, ground := Ground.data }], guard := none }) (v := .int .i64 cc) rfl (by kernel_rfl) (by kernel_rfl) (by kernel_rfl) (fun _ _ _ h => h) (Or.inl ⟨by rfl, by intro w hSw; obtain ⟨h0, h1, h2, h3, _⟩ := hSw; go_simp⟩) hS0 ?_
                try simp only [Act.put, List.setIfInBounds_toArray, List.set_cons_zero, List.set_cons_succ]
                refine wpAnyH_ready (rs := [6]) (by kernel_rfl) (by simp) ?_
                refine AllReadyH.cons (o := { dst := some 18, op := Op.call { callee := Callee.value (Operand.func 33), args := #[Operand.tmp 14, Operand.tmp 17], argTypes := #[3, 3] }, type := 4, pos := "call.go:25", after := #[{ on := 2, ground := Ground.data }, { on := 5, ground := Ground.data }], guard := none }) rfl (fun K hK => ?_) AllReadyH.nil
                go_simp
                go_at_call 33
                (with_reducible refine (rg _).mono ?_)
                rintro e w1 ⟨rfl, rfl⟩
                go_simp
                refine hK.out _ _ hS0 (fun _ => ?_)
                clear hK K
                try simp only [Act.put, List.setIfInBounds_toArray, List.set_cons_zero, List.set_cons_succ]
                refine wpAnyH_take (i := 7) (oi := { dst := some 19, op := Op.unOp UnOp.not 4 (Operand.tmp 18), type := 4, pos := "call.go:25", after := #[{ on := 6, ground := Ground.data }], guard := none }) (v := .bool false) rfl (by kernel_rfl) (by kernel_rfl) (by kernel_rfl) (fun _ _ _ h => h) (Or.inl ⟨by rfl, by intro w hSw; go_simp⟩) hS0 ?_
                try simp only [Act.put, List.setIfInBounds_toArray, List.set_cons_zero, List.set_cons_succ]
                refine wpAnyH_take (i := 8) (oi := { dst := some 20, op := Op.move (Operand.tmp 19), type := 4, pos := "call.go:25", after := #[{ on := 7, ground := Ground.data }, { on := 6, ground := Ground.chain }], guard := none }) (v := .bool false) rfl (by kernel_rfl) (by kernel_rfl) (by kernel_rfl) (fun _ _ _ h => h) (Or.inl ⟨by rfl, by intro w hSw; go_simp⟩) hS0 ?_
                try simp only [Act.put, List.setIfInBounds_toArray, List.set_cons_zero, List.set_cons_succ]
                refine wpAnyH_take (i := 9) (oi := { dst := some 21, op := Op.fieldAddr 28 (Operand.tmp 4) 0, type := 0, pos := "call.go:25", after := #[{ on := 8, ground := Ground.guard }], guard := some (8, false) }) (v := .pointer (some ⟨gc, 0, none⟩)) rfl (by kernel_rfl) (by kernel_rfl) (by kernel_rfl) (fun _ _ _ h => h) (Or.inl ⟨by rfl, by intro w hSw; go_simp⟩) hS0 ?_
                try simp only [Act.put, List.setIfInBounds_toArray, List.set_cons_zero, List.set_cons_succ]
                refine wpAnyH_take (i := 10) (oi := { dst := some 22, op := Op.fieldAddr 26 (Operand.tmp 21) 2, type := 0, pos := "call.go:25", after := #[{ on := 9, ground := Ground.data }, { on := 8, ground := Ground.guard }], guard := some (8, false) }) (v := .pointer (some ⟨gc, 2, none⟩)) rfl (by kernel_rfl) (by kernel_rfl) (by kernel_rfl) (fun _ _ _ h => h) (Or.inl ⟨by rfl, by intro w hSw; go_simp⟩) hS0 ?_
                try simp only [Act.put, List.setIfInBounds_toArray, List.set_cons_zero, List.set_cons_succ]
                refine wpAnyH_take (i := 11) (oi := { dst := some 23, op := Op.load 3 (Operand.tmp 22), type := 3, pos := "call.go:25", after := #[{ on := 10, ground := Ground.data }, { on := 8, ground := Ground.guard }], guard := some (8, false) }) (v := .int .i64 ca) rfl (by kernel_rfl) (by kernel_rfl) (by kernel_rfl) (fun _ _ _ h => h) (Or.inl ⟨by rfl, by intro w hSw; obtain ⟨h0, h1, h2, h3, _⟩ := hSw; go_simp⟩) hS0 ?_
                try simp only [Act.put, List.setIfInBounds_toArray, List.set_cons_zero, List.set_cons_succ]
                refine wpAnyH_ready (rs := [12]) (by kernel_rfl) (by simp) ?_
                refine AllReadyH.cons (o := { dst := some 24, op := Op.buildSlice 32 1 #[(0, Operand.tmp 23)], type := 32, pos := "call.go:25", after := #[{ on := 11, ground := Ground.data }, { on := 8, ground := Ground.guard }], guard := some (8, false) }) rfl (fun K hK => ?_) AllReadyH.nil
                go_simp
                refine hK.out _ _ hSA (fun _ => ?_)
                clear hK K
                try simp only [Act.put, List.setIfInBounds_toArray, List.set_cons_zero, List.set_cons_succ]
                refine wpAnyH_ready (rs := [13]) (by kernel_rfl) (by simp) ?_
                refine AllReadyH.cons (o := { dst := some 25, op := Op.call { callee := Callee.value (Operand.func 34), args := #[Operand.tmp 24], argTypes := #[32] }, type := 4, pos := "call.go:25", after := #[{ on := 12, ground := Ground.data }, { on := 8, ground := Ground.chain }, { on := 8, ground := Ground.guard }], guard := some (8, false) }) rfl (fun K hK => ?_) AllReadyH.nil
                go_simp
                go_at_call 34
                (with_reducible refine (nr _ hlit).mono ?_)
                rintro e w1 ⟨rfl, rfl⟩
                go_simp
                refine hK.out _ _ hSA (fun _ => ?_)
                clear hK K
                try simp only [Act.put, List.setIfInBounds_toArray, List.set_cons_zero, List.set_cons_succ]
                refine wpAnyH_take (i := 14) (oi := { dst := some 26, op := Op.unOp UnOp.not 4 (Operand.tmp 25), type := 4, pos := "call.go:25", after := #[{ on := 13, ground := Ground.data }, { on := 8, ground := Ground.guard }], guard := some (8, false) }) (v := .bool false) rfl (by kernel_rfl) (by kernel_rfl) (by kernel_rfl) (fun _ _ _ h => h) (Or.inl ⟨by rfl, by intro w hSw; go_simp⟩) hSA ?_
                try simp only [Act.put, List.setIfInBounds_toArray, List.set_cons_zero, List.set_cons_succ]
                refine wpAnyH_take (i := 15) (oi := { dst := some 27, op := Op.pick (Operand.tmp 20) (Operand.const (Value.bool true)) (Operand.tmp 26), type := 4, pos := "call.go:25", after := #[{ on := 8, ground := Ground.data }, { on := 14, ground := Ground.data }], guard := none }) (v := .bool false) rfl (by kernel_rfl) (by kernel_rfl) (by kernel_rfl) (fun _ _ _ h => h) (Or.inl ⟨by rfl, by intro w hSw; go_simp⟩) hSA ?_
                try simp only [Act.put, List.setIfInBounds_toArray, List.set_cons_zero, List.set_cons_succ]
                refine wpAnyH_take (i := 16) (oi := { dst := some 28, op := Op.move (Operand.tmp 27), type := 4, pos := "call.go:25", after := #[{ on := 15, ground := Ground.data }, { on := 13, ground := Ground.chain }], guard := none }) (v := .bool false) rfl (by kernel_rfl) (by kernel_rfl) (by kernel_rfl) (fun _ _ _ h => h) (Or.inl ⟨by rfl, by intro w hSw; go_simp⟩) hSA ?_
                try simp only [Act.put, List.setIfInBounds_toArray, List.set_cons_zero, List.set_cons_succ]
                refine wpAnyH_take (i := 17) (oi := { dst := some 29, op := Op.fieldAddr 28 (Operand.tmp 4) 0, type := 0, pos := "call.go:25", after := #[{ on := 16, ground := Ground.guard }], guard := some (16, false) }) (v := .pointer (some ⟨gc, 0, none⟩)) rfl (by kernel_rfl) (by kernel_rfl) (by kernel_rfl) (fun _ _ _ h => h) (Or.inl ⟨by rfl, by intro w hSw; go_simp⟩) hSA ?_
                try simp only [Act.put, List.setIfInBounds_toArray, List.set_cons_zero, List.set_cons_succ]
                refine wpAnyH_take (i := 18) (oi := { dst := some 30, op := Op.fieldAddr 26 (Operand.tmp 29) 2, type := 0, pos := "call.go:25", after := #[{ on := 17, ground := Ground.data }, { on := 16, ground := Ground.guard }], guard := some (16, false) }) (v := .pointer (some ⟨gc, 2, none⟩)) rfl (by kernel_rfl) (by kernel_rfl) (by kernel_rfl) (fun _ _ _ h => h) (Or.inl ⟨by rfl, by intro w hSw; go_simp⟩) hSA ?_
                try simp only [Act.put, List.setIfInBounds_toArray, List.set_cons_zero, List.set_cons_succ]
                refine wpAnyH_take (i := 19) (oi := { dst := some 31, op := Op.load 3 (Operand.tmp 30), type := 3, pos := "call.go:25", after := #[{ on := 18, ground := Ground.data }, { on := 16, ground := Ground.guard }], guard := some (16, false) }) (v := .int .i64 ca) rfl (by kernel_rfl) (by kernel_rfl) (by kernel_rfl) (fun _ _ _ h => h) (Or.inl ⟨by rfl, by intro w hSw; obtain ⟨h0, h1, h2, h3, _⟩ := hSw; go_simp⟩) hSA ?_
                try simp only [Act.put, List.setIfInBounds_toArray, List.set_cons_zero, List.set_cons_succ]
                refine wpAnyH_take (i := 20) (oi := { dst := some 32, op := Op.binOp BinOp.lss 3 (Operand.tmp 31) (Operand.const (Value.int IntKind.i64 1)) 3, type := 4, pos := "call.go:25", after := #[{ on := 19, ground := Ground.data }, { on := 16, ground := Ground.guard }], guard := some (16, false) }) (v := .bool false) rfl (by kernel_rfl) (by kernel_rfl) (by kernel_rfl) (fun _ _ _ h => h) (Or.inl ⟨by rfl, by intro w hSw; go_simp⟩) hSA ?_
                try simp only [Act.put, List.setIfInBounds_toArray, List.set_cons_zero, List.set_cons_succ]
                refine wpAnyH_take (i := 21) (oi := { dst := some 33, op := Op.pick (Operand.tmp 28) (Operand.const (Value.bool true)) (Operand.tmp 32), type := 4, pos := "call.go:25", after := #[{ on := 16, ground := Ground.data }, { on := 20, ground := Ground.data }], guard := none }) (v := .bool false) rfl (by kernel_rfl) (by kernel_rfl) (by kernel_rfl) (fun _ _ _ h => h) (Or.inl ⟨by rfl, by intro w hSw; go_simp⟩) hSA ?_
                try simp only [Act.put, List.setIfInBounds_toArray, List.set_cons_zero, List.set_cons_succ]
                refine wpAnyH_take (i := 22) (oi := { dst := some 34, op := Op.move (Operand.tmp 33), type := 4, pos := "call.go:25", after := #[{ on := 21, ground := Ground.data }, { on := 16, ground := Ground.chain }], guard := none }) (v := .bool false) rfl (by kernel_rfl) (by kernel_rfl) (by kernel_rfl) (fun _ _ _ h => h) (Or.inl ⟨by rfl, by intro w hSw; go_simp⟩) hSA ?_
                try simp only [Act.put, List.setIfInBounds_toArray, List.set_cons_zero, List.set_cons_succ]
                refine wpAnyH_take (i := 23) (oi := { dst := some 35, op := Op.fieldAddr 28 (Operand.tmp 4) 1, type := 0, pos := "call.go:25", after := #[{ on := 22, ground := Ground.guard }], guard := some (22, false) }) (v := .pointer (some ⟨gc, 3, none⟩)) rfl (by kernel_rfl) (by kernel_rfl) (by kernel_rfl) (fun _ _ _ h => h) (Or.inl ⟨by rfl, by intro w hSw; go_simp⟩) hSA ?_
                try simp only [Act.put, List.setIfInBounds_toArray, List.set_cons_zero, List.set_cons_succ]
                refine wpAnyH_take (i := 24) (oi := { dst := some 36, op := Op.load 3 (Operand.tmp 35), type := 3, pos := "call.go:25", after := #[{ on := 23, ground := Ground.data }, { on := 22, ground := Ground.guard }], guard := some (22, false) }) (v := .int .i64 ct) rfl (by kernel_rfl) (by kernel_rfl) (by kernel_rfl) (fun _ _ _ h => h) (Or.inl ⟨by rfl, by intro w hSw; obtain ⟨h0, h1, h2, h3, _⟩ := hSw; go_simp⟩) hSA ?_
                try simp only [Act.put, List.setIfInBounds_toArray, List.set_cons_zero, List.set_cons_succ]
                refine wpAnyH_take (i := 25) (oi := { dst := some 37, op := Op.binOp BinOp.lss 3 (Operand.tmp 36) (Operand.const (Value.int IntKind.i64 0)) 3, type := 4, pos := "call.go:25", after := #[{ on := 24, ground := Ground.data }, { on := 22, ground := Ground.guard }], guard := some (22, false) }) (v := .bool false) rfl (by kernel_rfl) (by kernel_rfl) (by kernel_rfl) (fun _ _ _ h => h) (Or.inl ⟨by rfl, by intro w hSw; go_simp⟩) hSA ?_
                try simp only [Act.put, List.setIfInBounds_toArray, List.set_cons_zero, List.set_cons_succ]
                refine wpAnyH_take (i := 26) (oi := { dst := some 38, op := Op.pick (Operand.tmp 34) (Operand.const (Value.bool true)) (Operand.tmp 37), type := 4, pos := "call.go:25", after := #[{ on := 22, ground := Ground.data }, { on := 25, ground := Ground.data }], guard := none }) (v := .bool false) rfl (by kernel_rfl) (by kernel_rfl) (by kernel_rfl) (fun _ _ _ h => h) (Or.inl ⟨by rfl, by intro w hSw; go_simp⟩) hSA ?_
                try simp only [Act.put, List.setIfInBounds_toArray, List.set_cons_zero, List.set_cons_succ]
                refine wpAnyH_take (i := 27) (oi := { dst := some 39, op := Op.move (Operand.tmp 38), type := 4, pos := "call.go:25", after := #[{ on := 26, ground := Ground.data }, { on := 22, ground := Ground.chain }], guard := none }) (v := .bool false) rfl (by kernel_rfl) (by kernel_rfl) (by kernel_rfl) (fun _ _ _ h => h) (Or.inl ⟨by rfl, by intro w hSw; go_simp⟩) hSA ?_
                try simp only [Act.put, List.setIfInBounds_toArray, List.set_cons_zero, List.set_cons_succ]
                refine wpAnyH_take (i := 28) (oi := { dst := some 40, op := Op.fieldAddr 28 (Operand.tmp 4) 1, type := 0, pos := "call.go:25", after := #[{ on := 27, ground := Ground.guard }], guard := some (27, false) }) (v := .pointer (some ⟨gc, 3, none⟩)) rfl (by kernel_rfl) (by kernel_rfl) (by kernel_rfl) (fun _ _ _ h => h) (Or.inl ⟨by rfl, by intro w hSw; go_simp⟩) hSA ?_
                try simp only [Act.put, List.setIfInBounds_toArray, List.set_cons_zero, List.set_cons_succ]
                refine wpAnyH_take (i := 29) (oi := { dst := some 41, op := Op.load 3 (Operand.tmp 40), type := 3, pos := "call.go:25", after := #[{ on := 28, ground := Ground.data }, { on := 27, ground := Ground.guard }], guard := some (27, false) }) (v := .int .i64 ct) rfl (by kernel_rfl) (by kernel_rfl) (by kernel_rfl) (fun _ _ _ h => h) (Or.inl ⟨by rfl, by intro w hSw; obtain ⟨h0, h1, h2, h3, _⟩ := hSw; go_simp⟩) hSA ?_
                try simp only [Act.put, List.setIfInBounds_toArray, List.set_cons_zero, List.set_cons_succ]
                refine wpAnyH_take (i := 30) (oi := { dst := some 42, op := Op.binOp BinOp.gtr 3 (Operand.tmp 41) (Operand.const (Value.int IntKind.i64 1099511627776)) 3, type := 4, pos := "call.go:25", after := #[{ on := 29, ground := Ground.data }, { on := 27, ground := Ground.guard }], guard := some (27, false) }) (v := .bool true) rfl (by kernel_rfl) (by kernel_rfl) (by kernel_rfl) (fun _ _ _ h => h) (Or.inl ⟨by rfl, by intro w hSw; go_simp⟩) hSA ?_
                try simp only [Act.put, List.setIfInBounds_toArray, List.set_cons_zero, List.set_cons_succ]
                refine wpAnyH_take (i := 31) (oi := { dst := some 43, op := Op.pick (Operand.tmp 39) (Operand.const (Value.bool true)) (Operand.tmp 42), type := 4, pos := "call.go:25", after := #[{ on := 27, ground := Ground.data }, { on := 30, ground := Ground.data }], guard := none }) (v := .bool true) rfl (by kernel_rfl) (by kernel_rfl) (by kernel_rfl) (fun _ _ _ h => h) (Or.inl ⟨by rfl, by intro w hSw; go_simp⟩) hSA ?_
                try simp only [Act.put, List.setIfInBounds_toArray, List.set_cons_zero, List.set_cons_succ]
                refine wpAnyH_take (i := 32) (oi := { dst := some 44, op := Op.move (Operand.tmp 43), type := 4, pos := "call.go:25", after := #[{ on := 31, ground := Ground.data }, { on := 27, ground := Ground.chain }], guard := none }) (v := .bool true) rfl (by kernel_rfl) (by kernel_rfl) (by kernel_rfl) (fun _ _ _ h => h) (Or.inl ⟨by rfl, by intro w hSw; go_simp⟩) hSA ?_
                try simp only [Act.put, List.setIfInBounds_toArray, List.set_cons_zero, List.set_cons_succ]
                refine wpAnyH_take (i := 33) (oi := { dst := some 45, op := Op.move (Operand.tmp 3), type := 3, pos := "call.go:25", after := #[{ on := 32, ground := Ground.guard }], guard := some (32, false) }) (v := undef) rfl (by kernel_rfl) (by kernel_rfl) (by kernel_rfl) (fun _ _ _ h => h) (Or.inr ⟨by rfl, rfl⟩) hSA ?_
                try simp only [Act.put, List.setIfInBounds_toArray, List.set_cons_zero, List.set_cons_succ]
                refine wpAnyH_take (i := 34) (oi := { dst := some 46, op := Op.binOp BinOp.gtr 3 (Operand.tmp 45) (Operand.const (Value.int IntKind.i64 0)) 3, type := 4, pos := "call.go:25", after := #[{ on := 33, ground := Ground.data }, { on := 32, ground := Ground.guard }], guard := some (32, false) }) (v := undef) rfl (by kernel_rfl) (by kernel_rfl) (by kernel_rfl) (fun _ _ _ h => h) (Or.inr ⟨by rfl, rfl⟩) hSA ?_
                try simp only [Act.put, List.setIfInBounds_toArray, List.set_cons_zero, List.set_cons_succ]
                refine wpAnyH_take (i := 35) (oi := { dst := some 47, op := Op.move (Operand.tmp 46), type := 4, pos := "call.go:25", after := #[{ on := 34, ground := Ground.data }, { on := 32, ground := Ground.chain }, { on := 32, ground := Ground.guard }], guard := some (32, false) }) (v := undef) rfl (by kernel_rfl) (by kernel_rfl) (by kernel_rfl) (fun _ _ _ h => h) (Or.inr ⟨by rfl, rfl⟩) hSA ?_
                try simp only [Act.put, List.setIfInBounds_toArray, List.set_cons_zero, List.set_cons_succ]
                refine wpAnyH_take (i := 36) (oi := { dst := some 48, op := Op.move (Operand.tmp 0), type := 22, pos := "call.go:25", after := #[{ on := 35, ground := Ground.guard }], guard := some (35, true) }) (v := undef) rfl (by kernel_rfl) (by kernel_rfl) (by kernel_rfl) (fun _ _ _ h => h) (Or.inr ⟨by rfl, rfl⟩) hSA ?_
                try simp only [Act.put, List.setIfInBounds_toArray, List.set_cons_zero, List.set_cons_succ]
                refine wpAnyH_take (i := 37) (oi := { dst := some 49, op := Op.move (Operand.tmp 3), type := 3, pos := "call.go:25", after := #[{ on := 35, ground := Ground.guard }], guard := some (35, true) }) (v := undef) rfl (by kernel_rfl) (by kernel_rfl) (by kernel_rfl) (fun _ _ _ h => h) (Or.inr ⟨by rfl, rfl⟩) hSA ?_
                try simp only [Act.put, List.setIfInBounds_toArray, List.set_cons_zero, List.set_cons_succ]
                refine wpAnyH_take (i := 38) (oi := { dst := some 50, op := Op.binOp BinOp.sub 3 (Operand.tmp 49) (Operand.const (Value.int IntKind.i64 1)) 3, type := 3, pos := "call.go:25", after := #[{ on := 37, ground := Ground.data }, { on := 35, ground := Ground.guard }], guard := some (35, true) }) (v := undef) rfl (by kernel_rfl) (by kernel_rfl) (by kernel_rfl) (fun _ _ _ h => h) (Or.inr ⟨by rfl, rfl⟩) hSA ?_
                try simp only [Act.put, List.setIfInBounds_toArray, List.set_cons_zero, List.set_cons_succ]
                refine wpAnyH_take (i := 39) (oi := { dst := some 51, op := Op.indexAddr 22 (Operand.tmp 48) (Operand.tmp 50), type := 0, pos := "call.go:25", after := #[{ on := 36, ground := Ground.data }, { on := 38, ground := Ground.data }, { on := 35, ground := Ground.guard }], guard := some (35, true) }) (v := undef) rfl (by kernel_rfl) (by kernel_rfl) (by kernel_rfl) (fun _ _ _ h => h) (Or.inr ⟨by rfl, rfl⟩) hSA ?_
                try simp only [Act.put, List.setIfInBounds_toArray, List.set_cons_zero, List.set_cons_succ]
                refine wpAnyH_take (i := 40) (oi := { dst := some 52, op := Op.load 28 (Operand.tmp 51), type := 28, pos := "call.go:25", after := #[{ on := 39, ground := Ground.data }, { on := 35, ground := Ground.guard }], guard := some (35, true) }) (v := undef) rfl (by kernel_rfl) (by kernel_rfl) (by kernel_rfl) (fun _ _ _ h => h) (Or.inr ⟨by rfl, rfl⟩) hSA ?_
                try simp only [Act.put, List.setIfInBounds_toArray, List.set_cons_zero, List.set_cons_succ]
                refine wpAnyH_take (i := 41) (oi := { dst := some 53, op := Op.fieldAddr 28 (Operand.tmp 4) 0, type := 0, pos := "call.go:25", after := #[{ on := 35, ground := Ground.guard }], guard := some (35, true) }) (v := undef) rfl (by kernel_rfl) (by kernel_rfl) (by kernel_rfl) (fun _ _ _ h => h) (Or.inr ⟨by rfl, rfl⟩) hSA ?_
                try simp only [Act.put, List.setIfInBounds_toArray, List.set_cons_zero, List.set_cons_succ]
                refine wpAnyH_take (i := 42) (oi := { dst := some 54, op := Op.fieldAddr 26 (Operand.tmp 53) 0, type := 0, pos := "call.go:25", after := #[{ on := 41, ground := Ground.data }, { on := 35, ground := Ground.guard }], guard := some (35, true) }) (v := undef) rfl (by kernel_rfl) (by kernel_rfl) (by kernel_rfl) (fun _ _ _ h => h) (Or.inr ⟨by rfl, rfl⟩) hSA ?_
                try simp only [Act.put, List.setIfInBounds_toArray, List.set_cons_zero, List.set_cons_succ]
                refine wpAnyH_take (i := 43) (oi := { dst := some 55, op := Op.load 3 (Operand.tmp 54), type := 3, pos := "call.go:25", after := #[{ on := 42, ground := Ground.data }, { on := 35, ground := Ground.guard }], guard := some (35, true) }) (v := undef) rfl (by kernel_rfl) (by kernel_rfl) (by kernel_rfl) (fun _ _ _ h => h) (Or.inr ⟨by rfl, rfl⟩) hSA ?_
                try simp only [Act.put, List.setIfInBounds_toArray, List.set_cons_zero, List.set_cons_succ]
                refine wpAnyH_take (i := 44) (oi := { dst := some 56, op := Op.fieldAddr 28 (Operand.tmp 4) 0, type := 0, pos := "call.go:25", after := #[{ on := 35, ground := Ground.guard }], guard := some (35, true) }) (v := undef) rfl (by kernel_rfl) (by kernel_rfl) (by kernel_rfl) (fun _ _ _ h => h) (Or.inr ⟨by rfl, rfl⟩) hSA ?_
                try simp only [Act.put, List.setIfInBounds_toArray, List.set_cons_zero, List.set_cons_succ]
                refine wpAnyH_take (i := 45) (oi := { dst := some 57, op := Op.fieldAddr 26 (Operand.tmp 56) 1, type := 0, pos := "call.go:25", after := #[{ on := 44, ground := Ground.data }, { on := 35, ground := Ground.guard }], guard := some (35, true) }) (v := undef) rfl (by kernel_rfl) (by kernel_rfl) (by kernel_rfl) (fun _ _ _ h => h) (Or.inr ⟨by rfl, rfl⟩) hSA ?_
                try simp only [Act.put, List.setIfInBounds_toArray, List.set_cons_zero, List.set_cons_succ]
                refine wpAnyH_take (i := 46) (oi := { dst := some 58, op := Op.load 3 (Operand.tmp 57), type := 3, pos := "call.go:25", after := #[{ on := 45, ground := Ground.data }, { on := 35, ground := Ground.guard }], guard := some (35, true) }) (v := undef) rfl (by kernel_rfl) (by kernel_rfl) (by kernel_rfl) (fun _ _ _ h => h) (Or.inr ⟨by rfl, rfl⟩) hSA ?_
                try simp only [Act.put, List.setIfInBounds_toArray, List.set_cons_zero, List.set_cons_succ]
                refine wpAnyH_take (i := 47) (oi := { dst := some 59, op := Op.call { callee := Callee.value (Operand.func 35), args := #[Operand.tmp 52, Operand.tmp 55, Operand.tmp 58], argTypes := #[28, 3, 3] }, type := 3, pos := "call.go:25", after := #[{ on := 40, ground := Ground.data }, { on := 43, ground := Ground.data }, { on := 46, ground := Ground.data }, { on := 35, ground := Ground.chain }, { on := 35, ground := Ground.guard }], guard := some (35, true) }) (v := undef) rfl (by kernel_rfl) (by kernel_rfl) (by kernel_rfl) (fun _ _ _ h => h) (Or.inr ⟨by rfl, rfl⟩) hSA ?_
                try simp only [Act.put, List.setIfInBounds_toArray, List.set_cons_zero, List.set_cons_succ]
                refine wpAnyH_take (i := 48) (oi := { dst := some 60, op := Op.binOp BinOp.geq 3 (Operand.tmp 59) (Operand.const (Value.int IntKind.i64 0)) 3, type := 4, pos := "call.go:25", after := #[{ on := 47, ground := Ground.data }, { on := 35, ground := Ground.guard }], guard := some (35, true) }) (v := undef) rfl (by kernel_rfl) (by kernel_rfl) (by kernel_rfl) (fun _ _ _ h => h) (Or.inr ⟨by rfl, rfl⟩) hSA ?_
                try simp only [Act.put, List.setIfInBounds_toArray, List.set_cons_zero, List.set_cons_succ]
                refine wpAnyH_take (i := 49) (oi := { dst := some 61, op := Op.pick (Operand.tmp 47) (Operand.tmp 60) (Operand.const (Value.bool false)), type := 4, pos := "call.go:25", after := #[{ on := 35, ground := Ground.data }, { on := 48, ground := Ground.data }, { on := 32, ground := Ground.guard }], guard := some (32, false) }) (v := undef) rfl (by kernel_rfl) (by kernel_rfl) (by kernel_rfl) (fun _ _ _ h => h) (Or.inr ⟨by rfl, rfl⟩) hSA ?_
                try simp only [Act.put, List.setIfInBounds_toArray, List.set_cons_zero, List.set_cons_succ]
                refine wpAnyH_take (i := 50) (oi := { dst := some 62, op := Op.pick (Operand.tmp 44) (Operand.const (Value.bool true)) (Operand.tmp 61), type := 4, pos := "call.go:25", after := #[{ on := 32, ground := Ground.data }, { on := 49, ground := Ground.data }], guard := none }) (v := .bool true) rfl (by kernel_rfl) (by kernel_rfl) (by kernel_rfl) (fun _ _ _ h => h) (Or.inl ⟨by rfl, by intro w hSw; go_simp⟩) hSA ?_
                try simp only [Act.put, List.setIfInBounds_toArray, List.set_cons_zero, List.set_cons_succ]
                refine wpAnyH_done (by kernel_rfl) ?_ _
                have hbe := hSA.2.2.2.2
                clear hlit rg nr
                go_wp2_with fail
                go_ret
                exact ⟨by rw [HBAD.out]; rfl, hbe⟩
              · have h3' : decide (1099511627776 < ct) = false := by simpa using h3
                have HB1 : Hid (okB ⟨cw, cc, ca, ct⟩ = true) := by show _ = _; rw [HB.out, Hr.out, Hr2.out, decide_eq_true (show 1 ≤ ca by omega), decide_eq_true (show 0 ≤ ct ∧ ct ≤ 1099511627776 by omega)]; rfl
                clear h1 h2 h3 HB
                rcases k with _ | q
                · have HOK := Lib.hid (HOK0.out (by rw [HAT.out, HB1.out]; rfl))
                  have hSW := hS4
                  clear hS4 HBAD0 HOK0 HAT HB1 HO
                  rw [show ((0 : Nat) : Int) = 0 from rfl]
                  have hSA := keepK4 ((Below.refl _ W).alloc (Nat.le_refl _) (.cells #[.int .i64 ca] 3)).drew hSW
                  refine wp_region_held_drew (S := (fun wx => wx.cell? ⟨gc, 0, none⟩ = some (.int .i64 cw) ∧ wx.cell? ⟨gc, 1, none⟩ = some (.int .i64 cc) ∧ wx.cell? ⟨gc, 2, none⟩ = some (.int .i64 ca) ∧ wx.cell? ⟨gc, 3, none⟩ = some (.int .i64 ct) ∧ Below w.heap.size w wx)) (by kernel_rfl) (keepK4 (Below.refl _ _).drew hSW) (fun hS0 => ?_)
                  clear hSW
                  refine wpAnyH_take (i := 0) (oi := { dst := some 12, op := Op.fieldAddr 28 (Operand.tmp 4) 0, type := 0, pos := "call.go:25", after := #[], guard := none }) (v := .pointer (some ⟨gc, 0, none⟩)) rfl (by kernel_rfl) (by kernel_rfl) (by kernel_rfl) (fun _ _ _ h => h) (Or.inl ⟨by rfl, by intro w hSw; go_simp⟩) hS0 ?_
                  try simp only [Act.put, List.setIfInBounds_toArray, List.set_cons_zero, List.set_cons_succ]
                  refine wpAnyH_take (i := 1) (oi := { dst := some 13, op := Op.fieldAddr 26 (Operand.tmp 12) 0, type := 0, pos := "call.go:25", after := #[{ on := 0, ground := Ground.data }], guard := none }) (v := .pointer (some ⟨gc, 0, none⟩)) rfl (by kernel_rfl) (by kernel_rfl) (by kernel_rfl) (fun _ _ _ h => h) (Or.inl ⟨by rfl, by intro w hSw; go_simp⟩) hS0 ?_
                  try simp only [Act.put, List.setIfInBounds_toArray, List.set_cons_zero, List.set_cons_succ]
                  refine wpAnyH_take (i := 2) (oi := { dst := some 14, op := Op.load 3 (Operand.tmp 13), type := 3, pos := "call.go:25", after := #[{ on := 1, ground := Ground.data }], guard := none }) (v := .int .i64 cw) rfl (by kernel_rfl) (by kernel_rfl) (by kernel_rfl) (fun _ _ _ h => h) (Or.inl ⟨by rfl, by intro w hSw; obtain ⟨h0, h1, h2, h3, _⟩ := hSw; go_simp⟩) hS0 ?_
                  try simp only [Act.put, List.setIfInBounds_toArray, List.set_cons_zero, List.set_cons_succ]
                  refine wpAnyH_take (i := 3) (oi := { dst := some 15, op := Op.fieldAddr 28 (Operand.tmp 4) 0, type := 0, pos := "call.go:25", after := #[], guard := none }) (v := .pointer (some ⟨gc, 0, none⟩)) rfl (by kernel_rfl) (by kernel_rfl) (by kernel_rfl) (fun _ _ _ h => h) (Or.inl ⟨by rfl, by intro w hSw; go_simp⟩) hS0 ?_
                  try simp only [Act.put, List.setIfInBounds_toArray, List.set_cons_zero, List.set_cons_succ]
                  refine wpAnyH_take (i := 4) (oi := { dst := some 16, op := Op.fieldAddr 26 (Operand.tmp 15) 1, type := 0, pos := "call.go:25", after := #[{ on := 3, ground := Ground.data }], guard := none }) (v := .pointer (some ⟨gc, 1, none⟩)) rfl (by kernel_rfl) (by kernel_rfl) (by kernel_rfl) (fun _ _ _ h => h) (Or.inl ⟨by rfl, by intro w hSw; go_simp⟩) hS0 ?_
                  try simp only [Act.put, List.setIfInBounds_toArray, List.set_cons_zero, List.set_cons_succ]
                  refine wpAnyH_take (i := 5) (oi := { dst := some 17, op := Op.load 3 (Operand.tmp 16), type := 3, pos := "call.go:25", after := #[{ on := 4, ground := Ground.data }], guard := none }) (v := .int .i64 cc) rfl (by kernel_rfl) (by kernel_rfl) (by kernel_rfl) (fun _ _ _ h => h) (Or.inl ⟨by rfl, by intro w hSw; obtain ⟨h0, h1, h2, h3, _⟩ := hSw; go_simp⟩) hS0 ?_
                  try simp only [Act.put, List.setIfInBounds_toArray, List.set_cons_zero, List.set_cons_succ]
                  refine wpAnyH_ready (rs := [6]) (by kernel_rfl) (by simp) ?_
                  refine AllReadyH.cons (o := { dst := some 18, op := Op.call { callee := Callee.value (Operand.func 33), args := #[Operand.tmp 14, Operand.tmp 17], argTypes := #[3, 3] }, type := 4, pos := "call.go:25", after := #[{ on := 2, ground := Ground.data }, { on := 5, ground := Ground.data }], guard := none }) rfl (fun K hK => ?_) AllReadyH.nil
                  go_simp
                  go_at_call 33
                  (with_reducible refine (rg _).mono ?_)
                  rintro e w1 ⟨rfl, rfl⟩
                  go_simp
                  refine hK.out _ _ hS0 (fun _ => ?_)
                  clear hK K
                  try simp only [Act.put, List.setIfInBounds_toArray, List.set_cons_zero, List.set_cons_succ]
                  refine wpAnyH_take (i := 7) (oi := { dst := some 19, op := Op.unOp UnOp.not 4 (Operand.tmp 18), type := 4, pos := "call.go:25", after := #[{ on := 6, ground := Ground.data }], guard := none }) (v := .bool false) rfl (by kernel_rfl) (by kernel_rfl) (by kernel_rfl) (fun _ _ _ h => h) (Or.inl ⟨by rfl, by intro w hSw; go_simp⟩) hS0 ?_
                  try simp only [Act.put, List.setIfInBounds_toArray, List.set_cons_zero, List.set_cons_succ]
                  refine wpAnyH_take (i := 8) (oi := { dst := some 20, op := Op.move (Operand.tmp 19), type := 4, pos := "call.go:25", after := #[{ on := 7, ground := Ground.data }, { on := 6, ground := Ground.chain }], guard := none }) (v := .bool false) rfl (by kernel_rfl) (by kernel_rfl) (by kernel_rfl) (fun _ _ _ h => h) (Or.inl ⟨by rfl, by intro w hSw; go_simp⟩) hS0 ?_
                  try simp only [Act.put, List.setIfInBounds_toArray, List.set_cons_zero, List.set_cons_succ]
                  refine wpAnyH_take (i := 9) (oi := { dst := some 21, op := Op.fieldAddr 28 (Operand.tmp 4) 0, type := 0, pos := "call.go:25", after := #[{ on := 8, ground := Ground.guard }], guard := some (8, false) }) (v := .pointer (some ⟨gc, 0, none⟩)) rfl (by kernel_rfl) (by kernel_rfl) (by kernel_rfl) (fun _ _ _ h => h) (Or.inl ⟨by rfl, by intro w hSw; go_simp⟩) hS0 ?_
                  try simp only [Act.put, List.setIfInBounds_toArray, List.set_cons_zero, List.set_cons_succ]
                  refine wpAnyH_take (i := 10) (oi := { dst := some 22, op := Op.fieldAddr 26 (Operand.tmp 21) 2, type := 0, pos := "call.go:25", after := #[{ on := 9, ground := Ground.data }, { on := 8, ground := Ground.guard }], guard := some (8, false) }) (v := .pointer (some ⟨gc, 2, none⟩)) rfl (by kernel_rfl) (by kernel_rfl) (by kernel_rfl) (fun _ _ _ h => h) (Or.inl ⟨by rfl, by intro w hSw; go_simp⟩) hS0 ?_
                  try simp only [Act.put, List.setIfInBounds_toArray, List.set_cons_zero, List.set_cons_succ]
                  refine wpAnyH_take (i := 11) (oi := { dst := some 23, op := Op.load 3 (Operand.tmp 22), type := 3, pos := "call.go:25", after := #[{ on := 10, ground := Ground.data }, { on := 8, ground := Ground.guard }], guard := some (8, false) }) (v := .int .i64 ca) rfl (by kernel_rfl) (by kernel_rfl) (by kernel_rfl) (fun _ _ _ h => h) (Or.inl ⟨by rfl, by intro w hSw; obtain ⟨h0, h1, h2, h3, _⟩ := hSw; go_simp⟩) hS0 ?_
                  try simp only [Act.put, List.setIfInBounds_toArray, List.set_cons_zero, List.set_cons_succ]
                  refine wpAnyH_ready (rs := [12]) (by kernel_rfl) (by simp) ?_
                  refine AllReadyH.cons (o := { dst := some 24, op := Op.buildSlice 32 1 #[(0, Operand.tmp 23)], type := 32, pos := "call.go:25", after := #[{ on := 11, ground := Ground.data }, { on := 8, ground := Ground.guard }], guard := some (8, false) }) rfl (fun K hK => ?_) AllReadyH.nil
                  go_simp
                  refine hK.out _ _ hSA (fun _ => ?_)
                  clear hK K
                  try simp only [Act.put, List.setIfInBounds_toArray, List.set_cons_zero, List.set_cons_succ]
                  refine wpAnyH_ready (rs := [13]) (by kernel_rfl) (by simp) ?_
                  refine AllReadyH.cons (o := { dst := some 25, op := Op.call { callee := Callee.value (Operand.func 34), args := #[Operand.tmp 24], argTypes := #[32] }, type := 4, pos := "call.go:25", after := #[{ on := 12, ground := Ground.data }, { on := 8, ground := Ground.chain }, { on := 8, ground := Ground.guard }], guard := some (8, false) }) rfl (fun K hK => ?_) AllReadyH.nil
                  go_simp
                  go_at_call 34
                  (with_reducible refine (nr _ hlit).mono ?_)
                  rintro e w1 ⟨rfl, rfl⟩
                  go_simp
                  refine hK.out _ _ hSA (fun _ => ?_)
                  clear hK K
                  try simp only [Act.put, List.setIfInBounds_toArray, List.set_cons_zero, List.set_cons_succ]
                  refine wpAnyH_take (i := 14) (oi := { dst := some 26, op := Op.unOp UnOp.not 4 (Operand.tmp 25), type := 4, pos := "call.go:25", after := #[{ on := 13, ground := Ground.data }, { on := 8, ground := Ground.guard }], guard := some (8, false) }) (v := .bool false) rfl (by kernel_rfl) (by kernel_rfl) (by kernel_rfl) (fun _ _ _ h => h) (Or.inl ⟨by rfl, by intro w hSw; go_simp⟩) hSA ?_
                  try simp only [Act.put, List.setIfInBounds_toArray, List.set_cons_zero, List.set_cons_succ]
                  refine wpAnyH_take (i := 15) (oi := { dst := some 27, op := Op.pick (Operand.tmp 20) (Operand.const (Value.bool true)) (Operand.tmp 26), type := 4, pos := "call.go:25", after := #[{ on := 8, ground := Ground.data }, { on := 14, ground := Ground.data }], guard := none }) (v := .bool false) rfl (by kernel_rfl) (by kernel_rfl) (by kernel_rfl) (fun _ _ _ h => h) (Or.inl ⟨by rfl, by intro w hSw; go_simp⟩) hSA ?_
                  try simp only [Act.put, List.setIfInBounds_toArray, List.set_cons_zero, List.set_cons_succ]
                  refine wpAnyH_take (i := 16) (oi := { dst := some 28, op := Op.move (Operand.tmp 27), type := 4, pos := "call.go:25", after := #[{ on := 15, ground := Ground.data }, { on := 13, ground := Ground.chain }], guard := none }) (v := .bool false) rfl (by kernel_rfl) (by kernel_rfl) (by kernel_rfl) (fun _ _ _ h => h) (Or.inl ⟨by rfl, by intro w hSw; go_simp⟩) hSA ?_
                  try simp only [Act.put, List.setIfInBounds_toArray, List.set_cons_zero, List.set_cons_succ]
                  refine wpAnyH_take (i := 17) (oi := { dst := some 29, op := Op.fieldAddr 28 (Operand.tmp 4) 0, type := 0, pos := "call.go:25", after := #[{ on := 16, ground := Ground.guard }], guard := some (16, false) }) (v := .pointer (some ⟨gc, 0, none⟩)) rfl (by kernel_rfl) (by kernel_rfl) (by kernel_rfl) (fun _ _ _ h => h) (Or.inl ⟨by rfl, by intro w hSw; go_simp⟩) hSA ?_
                  try simp only [Act.put, List.setIfInBounds_toArray, List.set_cons_zero, List.set_cons_succ]
                  refine wpAnyH_take (i := 18) (oi := { dst := some 30, op := Op.fieldAddr 26 (Operand.tmp 29) 2, type := 0, pos := "call.go:25", after := #[{ on := 17, ground := Ground.data }, { on := 16, ground := Ground.guard }], guard := some (16, false) }) (v := .pointer (some ⟨gc, 2, none⟩)) rfl (by kernel_rfl) (by kernel_rfl) (by kernel_rfl) (fun _ _ _ h => h) (Or.inl ⟨by rfl, by intro w hSw; go_simp⟩) hSA ?_
                  try simp only [Act.put, List.setIfInBounds_toArray, List.set_cons_zero, List.set_cons_succ]
                  refine wpAnyH_take (i := 19) (oi := { dst := some 31, op := Op.load 3 (Operand.tmp 30), type := 3, pos := "call.go:25", after := #[{ on := 18, ground := Ground.data }, { on := 16, ground := Ground.guard }], guard := some (16, false) }) (v := .int .i64 ca) rfl (by kernel_rfl) (by kernel_rfl) (by kernel_rfl) (fun _ _ _ h => h) (Or.inl ⟨by rfl, by intro w hSw; obtain ⟨h0, h1, h2, h3, _⟩ := hSw; go_simp⟩) hSA ?_
                  try simp only [Act.put, List.setIfInBounds_toArray, List.set_cons_zero, List.set_cons_succ]
                  refine wpAnyH_take (i := 20) (oi := { dst := some 32, op := Op.binOp BinOp.lss 3 (Operand.tmp 31) (Operand.const (Value.int IntKind.i64 1)) 3, type := 4, pos := "call.go:25", after := #[{ on := 19, ground := Ground.data }, { on := 16, ground := Ground.guard }], guard := some (16, false) }) (v := .bool false) rfl (by kernel_rfl) (by kernel_rfl) (by kernel_rfl) (fun _ _ _ h => h) (Or.inl ⟨by rfl, by intro w hSw; go_simp⟩) hSA ?_
                  try simp only [Act.put, List.setIfInBounds_toArray, List.set_cons_zero, List.set_cons_succ]
                  refine wpAnyH_take (i := 21) (oi := { dst := some 33, op := Op.pick (Operand.tmp 28) (Operand.const (Value.bool true)) (Operand.tmp 32), type := 4, pos := "call.go:25", after := #[{ on := 16, ground := Ground.data }, { on := 20, ground := Ground.data }], guard := none }) (v := .bool false) rfl (by kernel_rfl) (by kernel_rfl) (by kernel_rfl) (fun _ _ _ h => h) (Or.inl ⟨by rfl, by intro w hSw; go_simp⟩) hSA ?_
                  try simp only [Act.put, List.setIfInBounds_toArray, List.set_cons_zero, List.set_cons_succ]
                  refine wpAnyH_take (i := 22) (oi := { dst := some 34, op := Op.move (Operand.tmp 33), type := 4, pos := "call.go:25", after := #[{ on := 21, ground := Ground.data }, { on := 16, ground := Ground.chain }], guard := none }) (v := .bool false) rfl (by kernel_rfl) (by kernel_rfl) (by kernel_rfl) (fun _ _ _ h => h) (Or.inl ⟨by rfl, by intro w hSw; go_simp⟩) hSA ?_
                  try simp only [Act.put, List.setIfInBounds_toArray, List.set_cons_zero, List.set_cons_succ]
                  refine wpAnyH_take (i := 23) (oi := { dst := some 35, op := Op.fieldAddr 28 (Operand.tmp 4) 1, type := 0, pos := "call.go:25", after := #[{ on := 22, ground := Ground.guard }], guard := some (22, false) }) (v := .pointer (some ⟨gc, 3, none⟩)) rfl (by kernel_rfl) (by kernel_rfl) (by kernel_rfl) (fun _ _ _ h => h) (Or.inl ⟨by rfl, by intro w hSw; go_simp⟩) hSA ?_
                  try simp only [Act.put, List.setIfInBounds_toArray, List.set_cons_zero, List.set_cons_succ]
                  refine wpAnyH_take (i := 24) (oi := { dst := some 36, op := Op.load 3 (Operand.tmp 35), type := 3, pos := "call.go:25", after := #[{ on := 23, ground := Ground.data }, { on := 22, ground := Ground.guard }], guard := some (22, false) }) (v := .int .i64 ct) rfl (by kernel_rfl) (by kernel_rfl) (by kernel_rfl) (fun _ _ _ h => h) (Or.inl ⟨by rfl, by intro w hSw; obtain ⟨h0, h1, h2, h3, _⟩ := hSw; go_simp⟩) hSA ?_
                  try simp only [Act.put, List.setIfInBounds_toArray, List.set_cons_zero, List.set_cons_succ]
                  refine wpAnyH_take (i := 25) (oi := { dst := some 37, op := Op.binOp BinOp.lss 3 (Operand.tmp 36) (Operand.const (Value.int IntKind.i64 0)) 3, type := 4, pos := "call.go:25", after := #[{ on := 24, ground := Ground.data }, { on := 22, ground := Ground.guard }], guard := some (22, false) }) (v := .bool false) rfl (by kernel_rfl) (by kernel_rfl) (by kernel_rfl) (fun _ _ _ h => h) (Or.inl ⟨by rfl, by intro w hSw; go_simp⟩) hSA ?_
                  try simp only [Act.put, List.setIfInBounds_toArray, List.set_cons_zero, List.set_cons_succ]
                  refine wpAnyH_take (i := 26) (oi := { dst := some 38, op := Op.pick (Operand.tmp 34) (Operand.const (Value.bool true)) (Operand.tmp 37), type := 4, pos := "call.go:25", after := #[{ on := 22, ground := Ground.data }, { on := 25, ground := Ground.data }], guard := none }) (v := .bool false) rfl (by kernel_rfl) (by kernel_rfl) (by kernel_rfl) (fun _ _ _ h => h) (Or.inl ⟨by rfl, by intro w hSw; go_simp⟩) hSA ?_
                  try simp only [Act.put, List.setIfInBounds_toArray, List.set_cons_zero, List.set_cons_succ]
                  refine wpAnyH_take (i := 27) (oi := { dst := some 39, op := Op.move (Operand.tmp 38), type := 4, pos := "call.go:25", after := #[{ on := 26, ground := Ground.data }, { on := 22, ground := Ground.chain }], guard := none }) (v := .bool false) rfl (by kernel_rfl) (by kernel_rfl) (by kernel_rfl) (fun _ _ _ h => h) (Or.inl ⟨by rfl, by intro w hSw; go_simp⟩) hSA ?_
                  try simp only [Act.put, List.setIfInBounds_toArray, List.set_cons_zero, List.set_cons_succ]
                  refine wpAnyH_take (i := 28) (oi := { dst := some 40, op := Op.fieldAddr 28 (Operand.tmp 4) 1, type := 0, pos := "call.go:25", after := #[{ on := 27, ground := Ground.guard }], guard := some (27, false) }) (v := .pointer (some ⟨gc, 3, none⟩)) rfl (by kernel_rfl) (by kernel_rfl) (by kernel_rfl) (fun _ _ _ h => h) (Or.inl ⟨by rfl, by intro w hSw; go_simp⟩) hSA ?_
                  try simp only [Act.put, List.setIfInBounds_toArray, List.set_cons_zero, List.set_cons_succ]
                  refine wpAnyH_take (i := 29) (oi := { dst := some 41, op := Op.load 3 (Operand.tmp 40), type := 3, pos := "call.go:25", after := #[{ on := 28, ground := Ground.data }, { on := 27, ground := Ground.guard }], guard := some (27, false) }) (v := .int .i64 ct) rfl (by kernel_rfl) (by kernel_rfl) (by kernel_rfl) (fun _ _ _ h => h) (Or.inl ⟨by rfl, by intro w hSw; obtain ⟨h0, h1, h2, h3, _⟩ := hSw; go_simp⟩) hSA ?_
                  try simp only [Act.put, List.setIfInBounds_toArray, List.set_cons_zero, List.set_cons_succ]
                  refine wpAnyH_take (i := 30) (oi := { dst := some 42, op := Op.binOp BinOp.gtr 3 (Operand.tmp 41) (Operand.const (Value.int IntKind.i64 1099511627776)) 3, type := 4, pos := "call.go:25", after := #[{ on := 29, ground := Ground.data }, { on := 27, ground := Ground.guard }], guard := some (27, false) }) (v := .bool false) rfl (by kernel_rfl) (by kernel_rfl) (by kernel_rfl) (fun _ _ _ h => h) (Or.inl ⟨by rfl, by intro w hSw; go_simp⟩) hSA ?_
                  try simp only [Act.put, List.setIfInBounds_toArray, List.set_cons_zero, List.set_cons_succ]
                  refine wpAnyH_take (i := 31) (oi := { dst := some 43, op := Op.pick (Operand.tmp 39) (Operand.const (Value.bool true)) (Operand.tmp 42), type := 4, pos := "call.go:25", after := #[{ on := 27, ground := Ground.data }, { on := 30, ground := Ground.data }], guard := none }) (v := .bool false) rfl (by kernel_rfl) (by kernel_rfl) (by kernel_rfl) (fun _ _ _ h => h) (Or.inl ⟨by rfl, by intro w hSw; go_simp⟩) hSA ?_
                  try simp only [Act.put, List.setIfInBounds_toArray, List.set_cons_zero, List.set_cons_succ]
                  refine wpAnyH_take (i := 32) (oi := { dst := some 44, op := Op.move (Operand.tmp 43), type := 4, pos := "call.go:25", after := #[{ on := 31, ground := Ground.data }, { on := 27, ground := Ground.chain }], guard := none }) (v := .bool false) rfl (by kernel_rfl) (by kernel_rfl) (by kernel_rfl) (fun _ _ _ h => h) (Or.inl ⟨by rfl, by intro w hSw; go_simp⟩) hSA ?_
                  try simp only [Act.put, List.setIfInBounds_toArray, List.set_cons_zero, List.set_cons_succ]
                  refine wpAnyH_take (i := 33) (oi := { dst := some 45, op := Op.move (Operand.tmp 3), type := 3, pos := "call.go:25", after := #[{ on := 32, ground := Ground.guard }], guard := some (32, false) }) (v := .int .i64 (0)) rfl (by kernel_rfl) (by kernel_rfl) (by kernel_rfl) (fun _ _ _ h => h) (Or.inl ⟨by rfl, by intro w hSw; go_simp⟩) hSA ?_
                  try simp only [Act.put, List.setIfInBounds_toArray, List.set_cons_zero, List.set_cons_succ]
                  refine wpAnyH_take (i := 34) (oi := { dst := some 46, op := Op.binOp BinOp.gtr 3 (Operand.tmp 45) (Operand.const (Value.int IntKind.i64 0)) 3, type := 4, pos := "call.go:25", after := #[{ on := 33, ground := Ground.data }, { on := 32, ground := Ground.guard }], guard := some (32, false) }) (v := .bool false) rfl (by kernel_rfl) (by kernel_rfl) (by kernel_rfl) (fun _ _ _ h => h) (Or.inl ⟨by rfl, by intro w hSw; go_simp⟩) hSA ?_
                  try simp only [Act.put, List.setIfInBounds_toArray, List.set_cons_zero, List.set_cons_succ]
                  refine wpAnyH_take (i := 35) (oi := { dst := some 47, op := Op.move (Operand.tmp 46), type := 4, pos := "call.go:25", after := #[{ on := 34, ground := Ground.data }, { on := 32, ground := Ground.chain }, { on := 32, ground := Ground.guard }], guard := some (32, false) }) (v := .bool false) rfl (by kernel_rfl) (by kernel_rfl) (by kernel_rfl) (fun _ _ _ h => h) (Or.inl ⟨by rfl, by intro w hSw; go_simp⟩) hSA ?_
                  try simp only [Act.put, List.setIfInBounds_toArray, List.set_cons_zero, List.set_cons_succ]
                  refine wpAnyH_take (i := 36) (oi := { dst := some 48, op := Op.move (Operand.tmp 0), type := 22, pos := "call.go:25", after := #[{ on := 35, ground := Ground.guard }], guard := some (35, true) }) (v := undef) rfl (by kernel_rfl) (by kernel_rfl) (by kernel_rfl) (fun _ _ _ h => h) (Or.inr ⟨by rfl, rfl⟩) hSA ?_
                  try simp only [Act.put, List.setIfInBounds_toArray, List.set_cons_zero, List.set_cons_succ]
                  refine wpAnyH_take (i := 37) (oi := { dst := some 49, op := Op.move (Operand.tmp 3), type := 3, pos := "call.go:25", after := #[{ on := 35, ground := Ground.guard }], guard := some (35, true) }) (v := undef) rfl (by kernel_rfl) (by kernel_rfl) (by kernel_rfl) (fun _ _ _ h => h) (Or.inr ⟨by rfl, rfl⟩) hSA ?_
                  try simp only [Act.put, List.setIfInBounds_toArray, List.set_cons_zero, List.set_cons_succ]
                  refine wpAnyH_take (i := 38) (oi := { dst := some 50, op := Op.binOp BinOp.sub 3 (Operand.tmp 49) (Operand.const (Value.int IntKind.i64 1)) 3, type := 3, pos := "call.go:25", after := #[{ on := 37, ground := Ground.data }, { on := 35, ground := Ground.guard }], guard := some (35, true) }) (v := undef) rfl (by kernel_rfl) (by kernel_rfl) (by kernel_rfl) (fun _ _ _ h => h) (Or.inr ⟨by rfl, rfl⟩) hSA ?_
                  try simp only [Act.put, List.setIfInBounds_toArray, List.set_cons_zero, List.set_cons_succ]
                  refine wpAnyH_take (i := 39) (oi := { dst := some 51, op := Op.indexAddr 22 (Operand.tmp 48) (Operand.tmp 50), type := 0, pos := "call.go:25", after := #[{ on := 36, ground := Ground.data }, { on := 38, ground := Ground.data }, { on := 35, ground := Ground.guard }], guard := some (35, true) }) (v := undef) rfl (by kernel_rfl) (by kernel_rfl) (by kernel_rfl) (fun _ _ _ h => h) (Or.inr ⟨by rfl, rfl⟩) hSA ?_
                  try simp only [Act.put, List.setIfInBounds_toArray, List.set_cons_zero, List.set_cons_succ]
                  refine wpAnyH_take (i := 40) (oi := { dst := some 52, op := Op.load 28 (Operand.tmp 51), type := 28, pos := "call.go:25", after := #[{ on := 39, ground := Ground.data }, { on := 35, ground := Ground.guard }], guard := some (35, true) }) (v := undef) rfl (by kernel_rfl) (by kernel_rfl) (by kernel_rfl) (fun _ _ _ h => h) (Or.inr ⟨by rfl, rfl⟩) hSA ?_
                  try simp only [Act.put, List.setIfInBounds_toArray, List.set_cons_zero, List.set_cons_succ]
                  refine wpAnyH_take (i := 41) (oi := { dst := some 53, op := Op.fieldAddr 28 (Operand.tmp 4) 0, type := 0, pos := "call.go:25", after := #[{ on := 35, ground := Ground.guard }], guard := some (35, true) }) (v := undef) rfl (by kernel_rfl) (by kernel_rfl) (by kernel_rfl) (fun _ _ _ h => h) (Or.inr ⟨by rfl, rfl⟩) hSA ?_
                  try simp only [Act.put, List.setIfInBounds_toArray, List.set_cons_zero, List.set_cons_succ]
                  refine wpAnyH_take (i := 42) (oi := { dst := some 54, op := Op.fieldAddr 26 (Operand.tmp 53) 0, type := 0, pos := "call.go:25", after := #[{ on := 41, ground := Ground.data }, { on := 35, ground := Ground.guard }], guard := some (35, true) }) (v := undef) rfl (by kernel_rfl) (by kernel_rfl) (by kernel_rfl) (fun _ _ _ h => h) (Or.inr ⟨by rfl, rfl⟩) hSA ?_
                  try simp only [Act.put, List.setIfInBounds_toArray, List.set_cons_zero, List.set_cons_succ]
                  refine wpAnyH_take (i := 43) (oi := { dst := some 55, op := Op.load 3 (Operand.tmp 54), type := 3, pos := "call.go:25", after := #[{ on := 42, ground := Ground.data }, { on := 35, ground := Ground.guard }], guard := some (35, true) }) (v := undef) rfl (by kernel_rfl) (by kernel_rfl) (by kernel_rfl) (fun _ _ _ h => h) (Or.inr ⟨by rfl, rfl⟩) hSA ?_
                  try simp only [Act.put, List.setIfInBounds_toArray, List.set_cons_zero, List.set_cons_succ]
                  refine wpAnyH_take (i := 44) (oi := { dst := some 56, op := Op.fieldAddr 28 (Operand.tmp 4) 0, type := 0, pos := "call.go:25", after := #[{ on := 35, ground := Ground.guard }], guard := some (35, true) }) (v := undef) rfl (by kernel_rfl) (by kernel_rfl) (by kernel_rfl) (fun _ _ _ h => h) (Or.inr ⟨by rfl, rfl⟩) hSA ?_
                  try simp only [Act.put, List.setIfInBounds_toArray, List.set_cons_zero, List.set_cons_succ]
                  refine wpAnyH_take (i := 45) (oi := { dst := some 57, op := Op.fieldAddr 26 (Operand.tmp 56) 1, type := 0, pos := "call.go:25", after := #[{ on := 44, ground := Ground.data }, { on := 35, ground := Ground.guard }], guard := some (35, true) }) (v := undef) rfl (by kernel_rfl) (by kernel_rfl) (by kernel_rfl) (fun _ _ _ h => h) (Or.inr ⟨by rfl, rfl⟩) hSA ?_
                  try simp only [Act.put, List.setIfInBounds_toArray, List.set_cons_zero, List.set_cons_succ]
                  refine wpAnyH_take (i := 46) (oi := { dst := some 58, op := Op.load 3 (Operand.tmp 57), type := 3, pos := "call.go:25", after := #[{ on := 45, ground := Ground.data }, { on := 35, ground := Ground.guard }], guard := some (35, true) }) (v := undef) rfl (by kernel_rfl) (by kernel_rfl) (by kernel_rfl) (fun _ _ _ h => h) (Or.inr ⟨by rfl, rfl⟩) hSA ?_
                  try simp only [Act.put, List.setIfInBounds_toArray, List.set_cons_zero, List.set_cons_succ]
                  refine wpAnyH_take (i := 47) (oi := { dst := some 59, op := Op.call { callee := Callee.value (Operand.func 35), args := #[Operand.tmp 52, Operand.tmp 55, Operand.tmp 58], argTypes := #[28, 3, 3] }, type := 3, pos := "call.go:25", after := #[{ on := 40, ground := Ground.data }, { on := 43, ground := Ground.data }, { on := 46, ground := Ground.data }, { on := 35, ground := Ground.chain }, { on := 35, ground := Ground.guard }], guard := some (35, true) }) (v := undef) rfl (by kernel_rfl) (by kernel_rfl) (by kernel_rfl) (fun _ _ _ h => h) (Or.inr ⟨by rfl, rfl⟩) hSA ?_
                  try simp only [Act.put, List.setIfInBounds_toArray, List.set_cons_zero, List.set_cons_succ]
                  refine wpAnyH_take (i := 48) (oi := { dst := some 60, op := Op.binOp BinOp.geq 3 (Operand.tmp 59) (Operand.const (Value.int IntKind.i64 0)) 3, type := 4, pos := "call.go:25", after := #[{ on := 47, ground := Ground.data }, { on := 35, ground := Ground.guard }], guard := some (35, true) }) (v := undef) rfl (by kernel_rfl) (by kernel_rfl) (by kernel_rfl) (fun _ _ _ h => h) (Or.inr ⟨by rfl, rfl⟩) hSA ?_
                  try simp only [Act.put, List.setIfInBounds_toArray, List.set_cons_zero, List.set_cons_succ]
                  refine wpAnyH_take (i := 49) (oi := { dst := some 61, op := Op.pick (Operand.tmp 47) (Operand.tmp 60) (Operand.const (Value.bool false)), type := 4, pos := "call.go:25", after := #[{ on := 35, ground := Ground.data }, { on := 48, ground := Ground.data }, { on := 32, ground := Ground.guard }], guard := some (32, false) }) (v := .bool false) rfl (by kernel_rfl) (by kernel_rfl) (by kernel_rfl) (fun _ _ _ h => h) (Or.inl ⟨by rfl, by intro w hSw; go_simp⟩) hSA ?_
                  try simp only [Act.put, List.setIfInBounds_toArray, List.set_cons_zero, List.set_cons_succ]
                  refine wpAnyH_take (i := 50) (oi := { dst := some 62, op := Op.pick (Operand.tmp 44) (Operand.const (Value.bool true)) (Operand.tmp 61), type := 4, pos := "call.go:25", after := #[{ on := 32, ground := Ground.data }, { on := 49, ground := Ground.data }], guard := none }) (v := .bool false) rfl (by kernel_rfl) (by kernel_rfl) (by kernel_rfl) (fun _ _ _ h => h) (Or.inl ⟨by rfl, by intro w hSw; go_simp⟩) hSA ?_
                  try simp only [Act.put, List.setIfInBounds_toArray, List.set_cons_zero, List.set_cons_succ]
                  refine wpAnyH_done (by kernel_rfl) ?_ _
                  have hbe := hSA.2.2.2.2
                  clear hlit rg nr
                  go_wp2_with fail
                  exact ⟨⟨1, by omega, by push_cast; rfl, HOK.out, hbe⟩, by simp [intOf]; omega⟩
                · obtain ⟨p, hp, p0, p1, p2, p3⟩ := HPV.out q rfl
                  have co := fun w => compare_any w p cw cc
                  obtain ⟨x, hx⟩ : ∃ x, x = cmpK p cw cc := ⟨_, rfl⟩
                  rw [← hx] at co
                  have HA2 : Hid (okAt l (q + 1) = decide (x < 0)) := by
                    show _ = _
                    rw [HAT.out, HB1.out, show q + 1 - 1 = q by omega, hp, hx]
                    simp
                  have HQ : Hid (q + 1 < n) := hlt
                  obtain ⟨pw, pc, pa, pt⟩ := p
                  simp only at p0 p1 p2 p3
                  unfold CT.vs at co
                  have hS8 := (⟨hS4.1, hS4.2.1, hS4.2.2.1, hS4.2.2.2.1, p0, p1, p2, p3, hS4.2.2.2.2⟩ : _ ∧ _ ∧ _ ∧ _ ∧ _ ∧ _ ∧ _ ∧ _ ∧ _)
                  have hq0 : (0 : Int) ≤ q := by omega
                  have hq1 : (q : Int) < n := by omega
                  have hq2 : (0 : Int) < (q : Int) + 1 := by omega
                  clear hp hx p0 p1 p2 p3 hS4 HAT HB1 HO HPV
                  rw [show ((q + 1 : Nat) : Int) = (q : Int) + 1 by push_cast; rfl]
                  by_cases hneg : x < 0
                  · have HOK := Lib.hid (HOK0.out (by rw [HA2.out]; exact decide_eq_true hneg))
                    have hng : decide (0 ≤ x) = false := by simp; omega
                    have hSW := hS8
                    clear hS8 HBAD0 HOK0 HA2
                    have hSA := keepK ((Below.refl _ W).alloc (Nat.le_refl _) (.cells #[.int .i64 ca] 3)).drew hSW
                    refine wp_region_held_drew (S := (fun wx => wx.cell? ⟨gc, 0, none⟩ = some (.int .i64 cw) ∧ wx.cell? ⟨gc, 1, none⟩ = some (.int .i64 cc) ∧ wx.cell? ⟨gc, 2, none⟩ = some (.int .i64 ca) ∧ wx.cell? ⟨gc, 3, none⟩ = some (.int .i64 ct) ∧ wx.cell? ⟨bl, off + q * 4, none⟩ = some (.int .i64 pw) ∧ wx.cell? ⟨bl, off + q * 4 + 1, none⟩ = some (.int .i64 pc) ∧ wx.cell? ⟨bl, off + q * 4 + 2, none⟩ = some (.int .i64 pa) ∧ wx.cell? ⟨bl, off + q * 4 + 3, none⟩ = some (.int .i64 pt) ∧ Below w.heap.size w wx)) (by kernel_rfl) (keepK (Below.refl _ _).drew hSW) (fun hS0 => ?_)
                    clear hSW
                    refine wpAnyH_take (i := 0) (oi := { dst := some 12, op := Op.fieldAddr 28 (Operand.tmp 4) 0, type := 0, pos := "call.go:25", after := #[], guard := none }) (v := .pointer (some ⟨gc, 0, none⟩)) rfl (by kernel_rfl) (by kernel_rfl) (by kernel_rfl) (fun _ _ _ h => h) (Or.inl ⟨by rfl, by intro w hSw; go_simp⟩) hS0 ?_
                    try simp only [Act.put, List.setIfInBounds_toArray, List.set_cons_zero, List.set_cons_succ]
                    refine wpAnyH_take (i := 1) (oi := { dst := some 13, op := Op.fieldAddr 26 (Operand.tmp 12) 0, type := 0, pos := "call.go:25", after := #[{ on := 0, ground := Ground.data }], guard := none }) (v := .pointer (some ⟨gc, 0, none⟩)) rfl (by kernel_rfl) (by kernel_rfl) (by kernel_rfl) (fun _ _ _ h => h) (Or.inl ⟨by rfl, by intro w hSw; go_simp⟩) hS0 ?_
                    try simp only [Act.put, List.setIfInBounds_toArray, List.set_cons_zero, List.set_cons_succ]
                    refine wpAnyH_take (i := 2) (oi := { dst := some 14, op := Op.load 3 (Operand.tmp 13), type := 3, pos := "call.go:25", after := #[{ on := 1, ground := Ground.data }], guard := none }) (v := .int .i64 cw) rfl (by kernel_rfl) (by kernel_rfl) (by kernel_rfl) (fun _ _ _ h => h) (Or.inl ⟨by rfl, by intro w hSw; obtain ⟨h0, h1, h2, h3, g0, g1, g2, g3, _⟩ := hSw; go_simp⟩) hS0 ?_
                    try simp only [Act.put, List.setIfInBounds_toArray, List.set_cons_zero, List.set_cons_succ]
                    refine wpAnyH_take (i := 3) (oi := { dst := some 15, op := Op.fieldAddr 28 (Operand.tmp 4) 0, type := 0, pos := "call.go:25", after := #[], guard := none }) (v := .pointer (some ⟨gc, 0, none⟩)) rfl (by kernel_rfl) (by kernel_rfl) (by kernel_rfl) (fun _ _ _ h => h) (Or.inl ⟨by rfl, by intro w hSw; go_simp⟩) hS0 ?_
                    try simp only [Act.put, List.setIfInBounds_toArray, List.set_cons_zero, List.set_cons_succ]
                    refine wpAnyH_take (i := 4) (oi := { dst := some 16, op := Op.fieldAddr 26 (Operand.tmp 15) 1, type := 0, pos := "call.go:25", after := #[{ on := 3, ground := Ground.data }], guard := none }) (v := .pointer (some ⟨gc, 1, none⟩)) rfl (by kernel_rfl) (by kernel_rfl) (by kernel_rfl) (fun _ _ _ h => h) (Or.inl ⟨by rfl, by intro w hSw; go_simp⟩) hS0 ?_
                    try simp only [Act.put, List.setIfInBounds_toArray, List.set_cons_zero, List.set_cons_succ]
                    refine wpAnyH_take (i := 5) (oi := { dst := some 17, op := Op.load 3 (Operand.tmp 16), type := 3, pos := "call.go:25", after := #[{ on := 4, ground := Ground.data }], guard := none }) (v := .int .i64 cc) rfl (by kernel_rfl) (by kernel_rfl) (by kernel_rfl) (fun _ _ _ h => h) (Or.inl ⟨by rfl, by intro w hSw; obtain ⟨h0, h1, h2, h3, g0, g1, g2, g3, _⟩ := hSw; go_simp⟩) hS0 ?_
                    try simp only [Act.put, List.setIfInBounds_toArray, List.set_cons_zero, List.set_cons_succ]
                    refine wpAnyH_ready (rs := [6]) (by kernel_rfl) (by simp) ?_
                    refine AllReadyH.cons (o := { dst := some 18, op := Op.call { callee := Callee.value (Operand.func 33), args := #[Operand.tmp 14, Operand.tmp 17], argTypes := #[3, 3] }, type := 4, pos := "call.go:25", after := #[{ on := 2, ground := Ground.data }, { on := 5, ground := Ground.data }], guard := none }) rfl (fun K hK => ?_) AllReadyH.nil
                    go_simp
                    go_at_call 33
                    (with_reducible refine (rg _).mono ?_)
                    rintro e w1 ⟨rfl, rfl⟩
                    go_simp
                    refine hK.out _ _ hS0 (fun _ => ?_)
                    clear hK K
                    try simp only [Act.put, List.setIfInBounds_toArray, List.set_cons_zero, List.set_cons_succ]
                    refine wpAnyH_take (i := 7) (oi := { dst := some 19, op := Op.unOp UnOp.not 4 (Operand.tmp 18), type := 4, pos := "call.go:25", after := #[{ on := 6, ground := Ground.data }], guard := none }) (v := .bool false) rfl (by kernel_rfl) (by kernel_rfl) (by kernel_rfl) (fun _ _ _ h => h) (Or.inl ⟨by rfl, by intro w hSw; go_simp⟩) hS0 ?_
                    try simp only [Act.put, List.setIfInBounds_toArray, List.set_cons_zero, List.set_cons_succ]
                    refine wpAnyH_take (i := 8) (oi := { dst := some 20, op := Op.move (Operand.tmp 19), type := 4, pos := "call.go:25", after := #[{ on := 7, ground := Ground.data }, { on := 6, ground := Ground.chain }], guard := none }) (v := .bool false) rfl (by kernel_rfl) (by kernel_rfl) (by kernel_rfl) (fun _ _ _ h => h) (Or.inl ⟨by rfl, by intro w hSw; go_simp⟩) hS0 ?_
                    try simp only [Act.put, List.setIfInBounds_toArray, List.set_cons_zero, List.set_cons_succ]
                    refine wpAnyH_take (i := 9) (oi := { dst := some 21, op := Op.fieldAddr 28 (Operand.tmp 4) 0, type := 0, pos := "call.go:25", after := #[{ on := 8, ground := Ground.guard }], guard := some (8, false) }) (v := .pointer (some ⟨gc, 0, none⟩)) rfl (by kernel_rfl) (by kernel_rfl) (by kernel_rfl) (fun _ _ _ h => h) (Or.inl ⟨by rfl, by intro w hSw; go_simp⟩) hS0 ?_
                    try simp only [Act.put, List.setIfInBounds_toArray, List.set_cons_zero, List.set_cons_succ]
                    refine wpAnyH_take (i := 10) (oi := { dst := some 22, op := Op.fieldAddr 26 (Operand.tmp 21) 2, type := 0, pos := "call.go:25", after := #[{ on := 9, ground := Ground.data }, { on := 8, ground := Ground.guard }], guard := some (8, false) }) (v := .pointer (some ⟨gc, 2, none⟩)) rfl (by kernel_rfl) (by kernel_rfl) (by kernel_rfl) (fun _ _ _ h => h) (Or.inl ⟨by rfl, by intro w hSw; go_simp⟩) hS0 ?_
                    try simp only [Act.put, List.setIfInBounds_toArray, List.set_cons_zero, List.set_cons_succ]
                    refine wpAnyH_take (i := 11) (oi := { dst := some 23, op := Op.load 3 (Operand.tmp 22), type := 3, pos := "call.go:25", after := #[{ on := 10, ground := Ground.data }, { on := 8, ground := Ground.guard }], guard := some (8, false) }) (v := .int .i64 ca) rfl (by kernel_rfl) (by kernel_rfl) (by kernel_rfl) (fun _ _ _ h => h) (Or.inl ⟨by rfl, by intro w hSw; obtain ⟨h0, h1, h2, h3, g0, g1, g2, g3, _⟩ := hSw; go_simp⟩) hS0 ?_
                    try simp only [Act.put, List.setIfInBounds_toArray, List.set_cons_zero, List.set_cons_succ]
                    refine wpAnyH_ready (rs := [12]) (by kernel_rfl) (by simp) ?_
                    refine AllReadyH.cons (o := { dst := some 24, op := Op.buildSlice 32 1 #[(0, Operand.tmp 23)], type := 32, pos := "call.go:25", after := #[{ on := 11, ground := Ground.data }, { on := 8, ground := Ground.guard }], guard := some (8, false) }) rfl (fun K hK => ?_) AllReadyH.nil
                    go_simp
                    refine hK.out _ _ hSA (fun _ => ?_)
                    clear hK K
                    try simp only [Act.put, List.setIfInBounds_toArray, List.set_cons_zero, List.set_cons_succ]
                    refine wpAnyH_ready (rs := [13]) (by kernel_rfl) (by simp) ?_
                    refine AllReadyH.cons (o := { dst := some 25, op := Op.call { callee := Callee.value (Operand.func 34), args := #[Operand.tmp 24], argTypes := #[32] }, type := 4, pos := "call.go:25", after := #[{ on := 12, ground := Ground.data }, { on := 8, ground := Ground.chain }, { on := 8, ground := Ground.guard }], guard := some (8, false) }) rfl (fun K hK => ?_) AllReadyH.nil
                    go_simp
                    go_at_call 34
                    (with_reducible refine (nr _ hlit).mono ?_)
                    rintro e w1 ⟨rfl, rfl⟩
                    go_simp
                    refine hK.out _ _ hSA (fun _ => ?_)
                    clear hK K
                    try simp only [Act.put, List.setIfInBounds_toArray, List.set_cons_zero, List.set_cons_succ]
                    refine wpAnyH_take (i := 14) (oi := { dst := some 26, op := Op.unOp UnOp.not 4 (Operand.tmp 25), type := 4, pos := "call.go:25", after := #[{ on := 13, ground := Ground.data }, { on := 8, ground := Ground.guard }], guard := some (8, false) }) (v := .bool false) rfl (by kernel_rfl) (by kernel_rfl) (by kernel_rfl) (fun _ _ _ h => h) (Or.inl ⟨by rfl, by intro w hSw; go_simp⟩) hSA ?_
                    try simp only [Act.put, List.setIfInBounds_toArray, List.set_cons_zero, List.set_cons_succ]
                    refine wpAnyH_take (i := 15) (oi := { dst := some 27, op := Op.pick (Operand.tmp 20) (Operand.const (Value.bool true)) (Operand.tmp 26), type := 4, pos := "call.go:25", after := #[{ on := 8, ground := Ground.data }, { on := 14, ground := Ground.data }], guard := none }) (v := .bool false) rfl (by kernel_rfl) (by kernel_rfl) (by kernel_rfl) (fun _ _ _ h => h) (Or.inl ⟨by rfl, by intro w hSw; go_simp⟩) hSA ?_
                    try simp only [Act.put, List.setIfInBounds_toArray, List.set_cons_zero, List.set_cons_succ]
                    refine wpAnyH_take (i := 16) (oi := { dst := some 28, op := Op.move (Operand.tmp 27), type := 4, pos := "call.go:25", after := #[{ on := 15, ground := Ground.data }, { on := 13, ground := Ground.chain }], guard := none }) (v := .bool false) rfl (by kernel_rfl) (by kernel_rfl) (by kernel_rfl) (fun _ _ _ h => h) (Or.inl ⟨by rfl, by intro w hSw; go_simp⟩) hSA ?_
                    try simp only [Act.put, List.setIfInBounds_toArray, List.set_cons_zero, List.set_cons_succ]
                    refine wpAnyH_take (i := 17) (oi := { dst := some 29, op := Op.fieldAddr 28 (Operand.tmp 4) 0, type := 0, pos := "call.go:25", after := #[{ on := 16, ground := Ground.guard }], guard := some (16, false) }) (v := .pointer (some ⟨gc, 0, none⟩)) rfl (by kernel_rfl) (by kernel_rfl) (by kernel_rfl) (fun _ _ _ h => h) (Or.inl ⟨by rfl, by intro w hSw; go_simp⟩) hSA ?_
                    try simp only [Act.put, List.setIfInBounds_toArray, List.set_cons_zero, List.set_cons_succ]
                    refine wpAnyH_take (i := 18) (oi := { dst := some 30, op := Op.fieldAddr 26 (Operand.tmp 29) 2, type := 0, pos := "call.go:25", after := #[{ on := 17, ground := Ground.data }, { on := 16, ground := Ground.guard }], guard := some (16, false) }) (v := .pointer (some ⟨gc, 2, none⟩)) rfl (by kernel_rfl) (by kernel_rfl) (by kernel_rfl) (fun _ _ _ h => h) (Or.inl ⟨by rfl, by intro w hSw; go_simp⟩) hSA ?_
                    try simp only [Act.put, List.setIfInBounds_toArray, List.set_cons_zero, List.set_cons_succ]
                    refine wpAnyH_take (i := 19) (oi := { dst := some 31, op := Op.load 3 (Operand.tmp 30), type := 3, pos := "call.go:25", after := #[{ on := 18, ground := Ground.data }, { on := 16, ground := Ground.guard }], guard := some (16, false) }) (v := .int .i64 ca) rfl (by kernel_rfl) (by kernel_rfl) (by kernel_rfl) (fun _ _ _ h => h) (Or.inl ⟨by rfl, by intro w hSw; obtain ⟨h0, h1, h2, h3, g0, g1, g2, g3, _⟩ := hSw; go_simp⟩) hSA ?_
                    try simp only [Act.put, List.setIfInBounds_toArray, List.set_cons_zero, List.set_cons_succ]
                    refine wpAnyH_take (i := 20) (oi := { dst := some 32, op := Op.binOp BinOp.lss 3 (Operand.tmp 31) (Operand.const (Value.int IntKind.i64 1)) 3, type := 4, pos := "call.go:25", after := #[{ on := 19, ground := Ground.data }, { on := 16, ground := Ground.guard }], guard := some (16, false) }) (v := .bool false) rfl (by kernel_rfl) (by kernel_rfl) (by kernel_rfl) (fun _ _ _ h => h) (Or.inl ⟨by rfl, by intro w hSw; go_simp⟩) hSA ?_
                    try simp only [Act.put, List.setIfInBounds_toArray, List.set_cons_zero, List.set_cons_succ]
                    refine wpAnyH_take (i := 21) (oi := { dst := some 33, op := Op.pick (Operand.tmp 28) (Operand.const (Value.bool true)) (Operand.tmp 32), type := 4, pos := "call.go:25", after := #[{ on := 16, ground := Ground.data }, { on := 20, ground := Ground.data }], guard := none }) (v := .bool false) rfl (by kernel_rfl) (by kernel_rfl) (by kernel_rfl) (fun _ _ _ h => h) (Or.inl ⟨by rfl, by intro w hSw; go_simp⟩) hSA ?_
                    try simp only [Act.put, List.setIfInBounds_toArray, List.set_cons_zero, List.set_cons_succ]
                    refine wpAnyH_take (i := 22) (oi := { dst := some 34, op := Op.move (Operand.tmp 33), type := 4, pos := "call.go:25", after := #[{ on := 21, ground := Ground.data }, { on := 16, ground := Ground.chain }], guard := none }) (v := .bool false) rfl (by kernel_rfl) (by kernel_rfl) (by kernel_rfl) (fun _ _ _ h => h) (Or.inl ⟨by rfl, by intro w hSw; go_simp⟩) hSA ?_
                    try simp only [Act.put, List.setIfInBounds_toArray, List.set_cons_zero, List.set_cons_succ]
                    refine wpAnyH_take (i := 23) (oi := { dst := some 35, op := Op.fieldAddr 28 (Operand.tmp 4) 1, type := 0, pos := "call.go:25", after := #[{ on := 22, ground := Ground.guard }], guard := some (22, false) }) (v := .pointer (some ⟨gc, 3, none⟩)) rfl (by kernel_rfl) (by kernel_rfl) (by kernel_rfl) (fun _ _ _ h => h) (Or.inl ⟨by rfl, by intro w hSw; go_simp⟩) hSA ?_
                    try simp only [Act.put, List.setIfInBounds_toArray, List.set_cons_zero, List.set_cons_succ]
                    refine wpAnyH_take (i := 24) (oi := { dst := some 36, op := Op.load 3 (Operand.tmp 35), type := 3, pos := "call.go:25", after := #[{ on := 23, ground := Ground.data }, { on := 22, ground := Ground.guard }], guard := some (22, false) }) (v := .int .i64 ct) rfl (by kernel_rfl) (by kernel_rfl) (by kernel_rfl) (fun _ _ _ h => h) (Or.inl ⟨by rfl, by intro w hSw; obtain ⟨h0, h1, h2, h3, g0, g1, g2, g3, _⟩ := hSw; go_simp⟩) hSA ?_
                    try simp only [Act.put, List.setIfInBounds_toArray, List.set_cons_zero, List.set_cons_succ]
                    refine wpAnyH_take (i := 25) (oi := { dst := some 37, op := Op.binOp BinOp.lss 3 (Operand.tmp 36) (Operand.const (Value.int IntKind.i64 0)) 3, type := 4, pos := "call.go:25", after := #[{ on := 24, ground := Ground.data }, { on := 22, ground := Ground.guard }], guard := some (22, false) }) (v := .bool false) rfl (by kernel_rfl) (by kernel_rfl) (by kernel_rfl) (fun _ _ _ h => h) (Or.inl ⟨by rfl, by intro w hSw; go_simp⟩) hSA ?_
                    try simp only [Act.put, List.setIfInBounds_toArray, List.set_cons_zero, List.set_cons_succ]
                    refine wpAnyH_take (i := 26) (oi := { dst := some 38, op := Op.pick (Operand.tmp 34) (Operand.const (Value.bool true)) (Operand.tmp 37), type := 4, pos := "call.go:25", after := #[{ on := 22, ground := Ground.data }, { on := 25, ground := Ground.data }], guard := none }) (v := .bool false) rfl (by kernel_rfl) (by kernel_rfl) (by kernel_rfl) (fun _ _ _ h => h) (Or.inl ⟨by rfl, by intro w hSw; go_simp⟩) hSA ?_
                    try simp only [Act.put, List.setIfInBounds_toArray, List.set_cons_zero, List.set_cons_succ]
                    refine wpAnyH_take (i := 27) (oi := { dst := some 39, op := Op.move (Operand.tmp 38), type := 4, pos := "call.go:25", after := #[{ on := 26, ground := Ground.data }, { on := 22, ground := Ground.chain }], guard := none }) (v := .bool false) rfl (by kernel_rfl) (by kernel_rfl) (by kernel_rfl) (fun _ _ _ h => h) (Or.inl ⟨by rfl, by intro w hSw; go_simp⟩) hSA ?_
                    try simp only [Act.put, List.setIfInBounds_toArray, List.set_cons_zero, List.set_cons_succ]
                    refine wpAnyH_take (i := 28) (oi := { dst := some 40, op := Op.fieldAddr 28 (Operand.tmp 4) 1, type := 0, pos := "call.go:25", after := #[{ on := 27, ground := Ground.guard }], guard := some (27, false) }) (v := .pointer (some ⟨gc, 3, none⟩)) rfl (by kernel_rfl) (by kernel_rfl) (by kernel_rfl) (fun _ _ _ h => h) (Or.inl ⟨by rfl, by intro w hSw; go_simp⟩) hSA ?_
                    try simp only [Act.put, List.setIfInBounds_toArray, List.set_cons_zero, List.set_cons_succ]
                    refine wpAnyH_take (i := 29) (oi := { dst := some 41, op := Op.load 3 (Operand.tmp 40), type := 3, pos := "call.go:25", after := #[{ on := 28, ground := Ground.data }, { on := 27, ground := Ground.guard }], guard := some (27, false) }) (v := .int .i64 ct) rfl (by kernel_rfl) (by kernel_rfl) (by kernel_rfl) (fun _ _ _ h => h) (Or.inl ⟨by rfl, by intro w hSw; obtain ⟨h0, h1, h2, h3, g0, g1, g2, g3, _⟩ := hSw; go_simp⟩) hSA ?_
                    try simp only [Act.put, List.setIfInBounds_toArray, List.set_cons_zero, List.set_cons_succ]
                    refine wpAnyH_take (i := 30) (oi := { dst := some 42, op := Op.binOp BinOp.gtr 3 (Operand.tmp 41) (Operand.const (Value.int IntKind.i64 1099511627776)) 3, type := 4, pos := "call.go:25", after := #[{ on := 29, ground := Ground.data }, { on := 27, ground := Ground.guard }], guard := some (27, false) }) (v := .bool false) rfl (by kernel_rfl) (by kernel_rfl) (by kernel_rfl) (fun _ _ _ h => h) (Or.inl ⟨by rfl, by intro w hSw; go_simp⟩) hSA ?_
                    try simp only [Act.put, List.setIfInBounds_toArray, List.set_cons_zero, List.set_cons_succ]
                    refine wpAnyH_take (i := 31) (oi := { dst := some 43, op := Op.pick (Operand.tmp 39) (Operand.const (Value.bool true)) (Operand.tmp 42), type := 4, pos := "call.go:25", after := #[{ on := 27, ground := Ground.data }, { on := 30, ground := Ground.data }], guard := none }) (v := .bool false) rfl (by kernel_rfl) (by kernel_rfl) (by kernel_rfl) (fun _ _ _ h => h) (Or.inl ⟨by rfl, by intro w hSw; go_simp⟩) hSA ?_
                    try simp only [Act.put, List.setIfInBounds_toArray, List.set_cons_zero, List.set_cons_succ]
                    refine wpAnyH_take (i := 32) (oi := { dst := some 44, op := Op.move (Operand.tmp 43), type := 4, pos := "call.go:25", after := #[{ on := 31, ground := Ground.data }, { on := 27, ground := Ground.chain }], guard := none }) (v := .bool false) rfl (by kernel_rfl) (by kernel_rfl) (by kernel_rfl) (fun _ _ _ h => h) (Or.inl ⟨by rfl, by intro w hSw; go_simp⟩) hSA ?_
                    try simp only [Act.put, List.setIfInBounds_toArray, List.set_cons_zero, List.set_cons_succ]
                    refine wpAnyH_take (i := 33) (oi := { dst := some 45, op := Op.move (Operand.tmp 3), type := 3, pos := "call.go:25", after := #[{ on := 32, ground := Ground.guard }], guard := some (32, false) }) (v := .int .i64 ((q : Int) + 1)) rfl (by kernel_rfl) (by kernel_rfl) (by kernel_rfl) (fun _ _ _ h => h) (Or.inl ⟨by rfl, by intro w hSw; go_simp⟩) hSA ?_
                    try simp only [Act.put, List.setIfInBounds_toArray, List.set_cons_zero, List.set_cons_succ]
                    refine wpAnyH_take (i := 34) (oi := { dst := some 46, op := Op.binOp BinOp.gtr 3 (Operand.tmp 45) (Operand.const (Value.int IntKind.i64 0)) 3, type := 4, pos := "call.go:25", after := #[{ on := 33, ground := Ground.data }, { on := 32, ground := Ground.guard }], guard := some (32, false) }) (v := .bool true) rfl (by kernel_rfl) (by kernel_rfl) (by kernel_rfl) (fun _ _ _ h => h) (Or.inl ⟨by rfl, by intro w hSw; go_simp⟩) hSA ?_
                    try simp only [Act.put, List.setIfInBounds_toArray, List.set_cons_zero, List.set_cons_succ]
                    refine wpAnyH_take (i := 35) (oi := { dst := some 47, op := Op.move (Operand.tmp 46), type := 4, pos := "call.go:25", after := #[{ on := 34, ground := Ground.data }, { on := 32, ground := Ground.chain }, { on := 32, ground := Ground.guard }], guard := some (32, false) }) (v := .bool true) rfl (by kernel_rfl) (by kernel_rfl) (by kernel_rfl) (fun _ _ _ h => h) (Or.inl ⟨by rfl, by intro w hSw; go_simp⟩) hSA ?_
                    try simp only [Act.put, List.setIfInBounds_toArray, List.set_cons_zero, List.set_cons_succ]
                    refine wpAnyH_take (i := 36) (oi := { dst := some 48, op := Op.move (Operand.tmp 0), type := 22, pos := "call.go:25", after := #[{ on := 35, ground := Ground.guard }], guard := some (35, true) }) (v := .slice (some ⟨bl, off, none⟩) n cap) rfl (by kernel_rfl) (by kernel_rfl) (by kernel_rfl) (fun _ _ _ h => h) (Or.inl ⟨by rfl, by intro w hSw; go_simp⟩) hSA ?_
                    try simp only [Act.put, List.setIfInBounds_toArray, List.set_cons_zero, List.set_cons_succ]
                    refine wpAnyH_take (i := 37) (oi := { dst := some 49, op := Op.move (Operand.tmp 3), type := 3, pos := "call.go:25", after := #[{ on := 35, ground := Ground.guard }], guard := some (35, true) }) (v := .int .i64 ((q : Int) + 1)) rfl (by kernel_rfl) (by kernel_rfl) (by kernel_rfl) (fun _ _ _ h => h) (Or.inl ⟨by rfl, by intro w hSw; go_simp⟩) hSA ?_
                    try simp only [Act.put, List.setIfInBounds_toArray, List.set_cons_zero, List.set_cons_succ]
                    refine wpAnyH_take (i := 38) (oi := { dst := some 50, op := Op.binOp BinOp.sub 3 (Operand.tmp 49) (Operand.const (Value.int IntKind.i64 1)) 3, type := 3, pos := "call.go:25", after := #[{ on := 37, ground := Ground.data }, { on := 35, ground := Ground.guard }], guard := some (35, true) }) (v := .int .i64 (q : Int)) rfl (by kernel_rfl) (by kernel_rfl) (by kernel_rfl) (fun _ _ _ h => h) (Or.inl ⟨by rfl, by intro w hSw; go_simp; exact IntWalk.i64_in _ (by omega)⟩) hSA ?_
                    try simp only [Act.put, List.setIfInBounds_toArray, List.set_cons_zero, List.set_cons_succ]
                    refine wpAnyH_take (i := 39) (oi := { dst := some 51, op := Op.indexAddr 22 (Operand.tmp 48) (Operand.tmp 50), type := 0, pos := "call.go:25", after := #[{ on := 36, ground := Ground.data }, { on := 38, ground := Ground.data }, { on := 35, ground := Ground.guard }], guard := some (35, true) }) (v := .pointer (some ⟨bl, off + q * 4, none⟩)) rfl (by kernel_rfl) (by kernel_rfl) (by kernel_rfl) (fun _ _ _ h => h) (Or.inl ⟨by rfl, by intro w hSw; go_simp⟩) hSA ?_
                    try simp only [Act.put, List.setIfInBounds_toArray, List.set_cons_zero, List.set_cons_succ]
                    refine wpAnyH_take (i := 40) (oi := { dst := some 52, op := Op.load 28 (Operand.tmp 51), type := 28, pos := "call.go:25", after := #[{ on := 39, ground := Ground.data }, { on := 35, ground := Ground.guard }], guard := some (35, true) }) (v := .agg #[.int .i64 pw, .int .i64 pc, .int .i64 pa, .int .i64 pt]) rfl (by kernel_rfl) (by kernel_rfl) (by kernel_rfl) (fun _ _ _ h => h) (Or.inl ⟨by rfl, by intro w hSw; obtain ⟨h0, h1, h2, h3, g0, g1, g2, g3, _⟩ := hSw; go_simp⟩) hSA ?_
                    try simp only [Act.put, List.setIfInBounds_toArray, List.set_cons_zero, List.set_cons_succ]
                    refine wpAnyH_take (i := 41) (oi := { dst := some 53, op := Op.fieldAddr 28 (Operand.tmp 4) 0, type := 0, pos := "call.go:25", after := #[{ on := 35, ground := Ground.guard }], guard := some (35, true) }) (v := .pointer (some ⟨gc, 0, none⟩)) rfl (by kernel_rfl) (by kernel_rfl) (by kernel_rfl) (fun _ _ _ h => h) (Or.inl ⟨by rfl, by intro w hSw; go_simp⟩) hSA ?_
                    try simp only [Act.put, List.setIfInBounds_toArray, List.set_cons_zero, List.set_cons_succ]
                    refine wpAnyH_take (i := 42) (oi := { dst := some 54, op := Op.fieldAddr 26 (Operand.tmp 53) 0, type := 0, pos := "call.go:25", after := #[{ on := 41, ground := Ground.data }, { on := 35, ground := Ground.guard }], guard := some (35, true) }) (v := .pointer (some ⟨gc, 0, none⟩)) rfl (by kernel_rfl) (by kernel_rfl) (by kernel_rfl) (fun _ _ _ h => h) (Or.inl ⟨by rfl, by intro w hSw; go_simp⟩) hSA ?_
                    try simp only [Act.put, List.setIfInBounds_toArray, List.set_cons_zero, List.set_cons_succ]
                    refine wpAnyH_take (i := 43) (oi := { dst := some 55, op := Op.load 3 (Operand.tmp 54), type := 3, pos := "call.go:25", after := #[{ on := 42, ground := Ground.data }, { on := 35, ground := Ground.guard }], guard := some (35, true) }) (v := .int .i64 cw) rfl (by kernel_rfl) (by kernel_rfl) (by kernel_rfl) (fun _ _ _ h => h) (Or.inl ⟨by rfl, by intro w hSw; obtain ⟨h0, h1, h2, h3, g0, g1, g2, g3, _⟩ := hSw; go_simp⟩) hSA ?_
                    try simp only [Act.put, List.setIfInBounds_toArray, List.set_cons_zero, List.set_cons_succ]
                    refine wpAnyH_take (i := 44) (oi := { dst := some 56, op := Op.fieldAddr 28 (Operand.tmp 4) 0, type := 0, pos := "call.go:25", after := #[{ on := 35, ground := Ground.guard }], guard := some (35, true) }) (v := .pointer (some ⟨gc, 0, none⟩)) rfl (by kernel_rfl) (by kernel_rfl) (by kernel_rfl) (fun _ _ _ h => h) (Or.inl ⟨by rfl, by intro w hSw; go_simp⟩) hSA ?_
                    try simp only [Act.put, List.setIfInBounds_toArray, List.set_cons_zero, List.set_cons_succ]
                    refine wpAnyH_take (i := 45) (oi := { dst := some 57, op := Op.fieldAddr 26 (Operand.tmp 56) 1, type := 0, pos := "call.go:25", after := #[{ on := 44, ground := Ground.data }, { on := 35, ground := Ground.guard }], guard := some (35, true) }) (v := .pointer (some ⟨gc, 1, none⟩)) rfl (by kernel_rfl) (by kernel_rfl) (by kernel_rfl) (fun _ _ _ h => h) (Or.inl ⟨by rfl, by intro w hSw; go_simp⟩) hSA ?_
                    try simp only [Act.put, List.setIfInBounds_toArray, List.set_cons_zero, List.set_cons_succ]
                    refine wpAnyH_take (i := 46) (oi := { dst := some 58, op := Op.load 3 (Operand.tmp 57), type := 3, pos := "call.go:25", after := #[{ on := 45, ground := Ground.data }, { on := 35, ground := Ground.guard }], guard := some (35, true) }) (v := .int .i64 cc) rfl (by kernel_rfl) (by kernel_rfl) (by kernel_rfl) (fun _ _ _ h => h) (Or.inl ⟨by rfl, by intro w hSw; obtain ⟨h0, h1, h2, h3, g0, g1, g2, g3, _⟩ := hSw; go_simp⟩) hSA ?_
                    try simp only [Act.put, List.setIfInBounds_toArray, List.set_cons_zero, List.set_cons_succ]
                    refine wpAnyH_ready (rs := [47]) (by kernel_rfl) (by simp) ?_
                    refine AllReadyH.cons (o := { dst := some 59, op := Op.call { callee := Callee.value (Operand.func 35), args := #[Operand.tmp 52, Operand.tmp 55, Operand.tmp 58], argTypes := #[28, 3, 3] }, type := 3, pos := "call.go:25", after := #[{ on := 40, ground := Ground.data }, { on := 43, ground := Ground.data }, { on := 46, ground := Ground.data }, { on := 35, ground := Ground.chain }, { on := 35, ground := Ground.guard }], guard := some (35, true) }) rfl (fun K hK => ?_) AllReadyH.nil
                    go_simp
                    go_at_call 35
                    (with_reducible refine (co _).mono ?_)
                    rintro e w9 ⟨rfl, hb9⟩
                    have hS9 := keepK hb9 hSA
                    clear hb9
                    go_simp
                    refine hK.out _ _ hS9 (fun _ => ?_)
                    clear hK K
                    try simp only [Act.put, List.setIfInBounds_toArray, List.set_cons_zero, List.set_cons_succ]
                    refine wpAnyH_take (i := 48) (oi := { dst := some 60, op := Op.binOp BinOp.geq 3 (Operand.tmp 59) (Operand.const (Value.int IntKind.i64 0)) 3, type := 4, pos := "call.go:25", after := #[{ on := 47, ground := Ground.data }, { on := 35, ground := Ground.guard }], guard := some (35, true) }) (v := .bool false) rfl (by kernel_rfl) (by kernel_rfl) (by kernel_rfl) (fun _ _ _ h => h) (Or.inl ⟨by rfl, by intro w hSw; go_simp⟩) hS9 ?_
                    try simp only [Act.put, List.setIfInBounds_toArray, List.set_cons_zero, List.set_cons_succ]
                    refine wpAnyH_take (i := 49) (oi := { dst := some 61, op := Op.pick (Operand.tmp 47) (Operand.tmp 60) (Operand.const (Value.bool false)), type := 4, pos := "call.go:25", after := #[{ on := 35, ground := Ground.data }, { on := 48, ground := Ground.data }, { on := 32, ground := Ground.guard }], guard := some (32, false) }) (v := .bool false) rfl (by kernel_rfl) (by kernel_rfl) (by kernel_rfl) (fun _ _ _ h => h) (Or.inl ⟨by rfl, by intro w hSw; go_simp⟩) hS9 ?_
                    try simp only [Act.put, List.setIfInBounds_toArray, List.set_cons_zero, List.set_cons_succ]
                    refine wpAnyH_take (i := 50) (oi := { dst := some 62, op := Op.pick (Operand.tmp 44) (Operand.const (Value.bool true)) (Operand.tmp 61), type := 4, pos := "call.go:25", after := #[{ on := 32, ground := Ground.data }, { on := 49, ground := Ground.data }], guard := none }) (v := .bool false) rfl (by kernel_rfl) (by kernel_rfl) (by kernel_rfl) (fun _ _ _ h => h) (Or.inl ⟨by rfl, by intro w hSw; go_simp⟩) hS9 ?_
                    try simp only [Act.put, List.setIfInBounds_toArray, List.set_cons_zero, List.set_cons_succ]
                    refine wpAnyH_done (by kernel_rfl) ?_ _
                    have hbe := hS9.2.2.2.2.2.2.2.2
                    clear hlit rg nr
                    go_wp2_with fail
                    exact ⟨⟨q + 1 + 1, by omega, by push_cast; rfl, HOK.out, hbe⟩, by simp [intOf]; omega⟩
                  · have HBAD := Lib.hid (HBAD0.out (by rw [HA2.out]; exact decide_eq_false hneg))
                    have hng : 0 ≤ x := by omega
                    have hSW := hS8
                    clear hS8 HBAD0 HOK0 HA2 hneg
                    have hSA := keepK ((Below.refl _ W).alloc (Nat.le_refl _) (.cells #[.int .i64 ca] 3)).drew hSW
                    refine wp_region_held_drew (S := (fun wx => wx.cell? ⟨gc, 0, none⟩ = some (.int .i64 cw) ∧ wx.cell? ⟨gc, 1, none⟩ = some (.int .i64 cc) ∧ wx.cell? ⟨gc, 2, none⟩ = some (.int .i64 ca) ∧ wx.cell? ⟨gc, 3, none⟩ = some (.int .i64 ct) ∧ wx.cell? ⟨bl, off + q * 4, none⟩ = some (.int .i64 pw) ∧ wx.cell? ⟨bl, off + q * 4 + 1, none⟩ = some (.int .i64 pc) ∧ wx.cell? ⟨bl, off + q * 4 + 2, none⟩ = some (.int .i64 pa) ∧ wx.cell? ⟨bl, off + q * 4 + 3, none⟩ = some (.int .i64 pt) ∧ Below w.heap.size w wx)) (by kernel_rfl) (keepK (Below.refl _ _).drew hSW) (fun hS0 => ?_)
                    clear hSW
                    refine wpAnyH_take (i := 0) (oi := { dst := some 12, op := Op.fieldAddr 28 (Operand.tmp 4) 0, type := 0, pos := "call.go:25", after := #[], guard := none }) (v := .pointer (some ⟨gc, 0, none⟩)) rfl (by kernel_rfl) (by kernel_rfl) (by kernel_rfl) (fun _ _ _ h => h) (Or.inl ⟨by rfl, by intro w hSw; go_simp⟩) hS0 ?_
                    try simp only [Act.put, List.setIfInBounds_toArray, List.set_cons_zero, List.set_cons_succ]
                    refine wpAnyH_take (i := 1) (oi := { dst := some 13, op := Op.fieldAddr 26 (Operand.tmp 12) 0, type := 0, pos := "call.go:25", after := #[{ on := 0, ground := Ground.data }], guard := none }) (v := .pointer (some ⟨gc, 0, none⟩)) rfl (by kernel_rfl) (by kernel_rfl) (by kernel_rfl) (fun _ _ _ h => h) (Or.inl ⟨by rfl, by intro w hSw; go_simp⟩) hS0 ?_
                    try simp only [Act.put, List.setIfInBounds_toArray, List.set_cons_zero, List.set_cons_succ]
                    refine wpAnyH_take (i := 2) (oi := { dst := some 14, op := Op.load 3 (Operand.tmp 13), type := 3, pos := "call.go:25", after := #[{ on := 1, ground := Ground.data }], guard := none }) (v := .int .i64 cw) rfl (by kernel_rfl) (by kernel_rfl) (by kernel_rfl) (fun _ _ _ h => h) (Or.inl ⟨by rfl, by intro w hSw; obtain ⟨h0, h1, h2, h3, g0, g1, g2, g3, _⟩ := hSw; go_simp⟩) hS0 ?_
                    try simp only [Act.put, List.setIfInBounds_toArray, List.set_cons_zero, List.set_cons_succ]
                    refine wpAnyH_take (i := 3) (oi := { dst := some 15, op := Op.fieldAddr 28 (Operand.tmp 4) 0, type := 0, pos := "call.go:25", after := #[], guard := none }) (v := .pointer (some ⟨gc, 0, none⟩)) rfl (by kernel_rfl) (by kernel_rfl) (by kernel_rfl) (fun _ _ _ h => h) (Or.inl ⟨by rfl, by intro w hSw; go_simp⟩) hS0 ?_
                    try simp only [Act.put, List.setIfInBounds_toArray, List.set_cons_zero, List.set_cons_succ]
                    refine wpAnyH_take (i := 4) (oi := { dst := some 16, op := Op.fieldAddr 26 (Operand.tmp 15) 1, type := 0, pos := "call.go:25", after := #[{ on := 3, ground := Ground.data }], guard := none }) (v := .pointer (some ⟨gc, 1, none⟩)) rfl (by kernel_rfl) (by kernel_rfl) (by kernel_rfl) (fun _ _ _ h => h) (Or.inl ⟨by rfl, by intro w hSw; go_simp⟩) hS0 ?_
                    try simp only [Act.put, List.setIfInBounds_toArray, List.set_cons_zero, List.set_cons_succ]
                    refine wpAnyH_take (i := 5) (oi := { dst := some 17, op := Op.load 3 (Operand.tmp 16), type := 3, pos := "call.go:25", after := #[{ on := 4, ground := Ground.data }], guard := none }) (v := .int .i64 cc) rfl (by kernel_rfl) (by kernel_rfl) (by kernel_rfl) (fun _ _ _ h => h) (Or.inl ⟨by rfl, by intro w hSw; obtain ⟨h0, h1, h2, h3, g0, g1, g2, g3, _⟩ := hSw; go_simp⟩) hS0 ?_
                    try simp only [Act.put, List.setIfInBounds_toArray, List.set_cons_zero, List.set_cons_succ]
                    refine wpAnyH_ready (rs := [6]) (by kernel_rfl) (by simp) ?_
                    refine AllReadyH.cons (o := { dst := some 18, op := Op.call { callee := Callee.value (Operand.func 33), args := #[Operand.tmp 14, Operand.tmp 17], argTypes := #[3, 3] }, type := 4, pos := "call.go:25", after := #[{ on := 2, ground := Ground.data }, { on := 5, ground := Ground.data }], guard := none }) rfl (fun K hK => ?_) AllReadyH.nil
                    go_simp
                    go_at_call 33
                    (with_reducible refine (rg _).mono ?_)
                    rintro e w1 ⟨rfl, rfl⟩
                    go_simp
                    refine hK.out _ _ hS0 (fun _ => ?_)
                    clear hK K
                    try simp only [Act.put, List.setIfInBounds_toArray, List.set_cons_zero, List.set_cons_succ]
                    refine wpAnyH_take (i := 7) (oi := { dst := some 19, op := Op.unOp UnOp.not 4 (Operand.tmp 18), type := 4, pos := "call.go:25", after := #[{ on := 6, ground := Ground.data }], guard := none }) (v := .bool false) rfl (by kernel_rfl) (by kernel_rfl) (by kernel_rfl) (fun _ _ _ h => h) (Or.inl ⟨by rfl, by intro w hSw; go_simp⟩) hS0 ?_
                    try simp only [Act.put, List.setIfInBounds_toArray, List.set_cons_zero, List.set_cons_succ]
                    refine wpAnyH_take (i := 8) (oi := { dst := some 20, op := Op.move (Operand.tmp 19), type := 4, pos := "call.go:25", after := #[{ on := 7, ground := Ground.data }, { on := 6, ground := Ground.chain }], guard := none }) (v := .bool false) rfl (by kernel_rfl) (by kernel_rfl) (by kernel_rfl) (fun _ _ _ h => h) (Or.inl ⟨by rfl, by intro w hSw; go_simp⟩) hS0 ?_
                    try simp only [Act.put, List.setIfInBounds_toArray, List.set_cons_zero, List.set_cons_succ]
                    refine wpAnyH_take (i := 9) (oi := { dst := some 21, op := Op.fieldAddr 28 (Operand.tmp 4) 0, type := 0, pos := "call.go:25", after := #[{ on := 8, ground := Ground.guard }], guard := some (8, false) }) (v := .pointer (some ⟨gc, 0, none⟩)) rfl (by kernel_rfl) (by kernel_rfl) (by kernel_rfl) (fun _ _ _ h => h) (Or.inl ⟨by rfl, by intro w hSw; go_simp⟩) hS0 ?_
                    try simp only [Act.put, List.setIfInBounds_toArray, List.set_cons_zero, List.set_cons_succ]
                    refine wpAnyH_take (i := 10) (oi := { dst := some 22, op := Op.fieldAddr 26 (Operand.tmp 21) 2, type := 0, pos := "call.go:25", after := #[{ on := 9, ground := Ground.data }, { on := 8, ground := Ground.guard }], guard := some (8, false) }) (v := .pointer (some ⟨gc, 2, none⟩)) rfl (by kernel_rfl) (by kernel_rfl) (by kernel_rfl) (fun _ _ _ h => h) (Or.inl ⟨by rfl, by intro w hSw; go_simp⟩) hS0 ?_
                    try simp only [Act.put, List.setIfInBounds_toArray, List.set_cons_zero, List.set_cons_succ]
                    refine wpAnyH_take (i := 11) (oi := { dst := some 23, op := Op.load 3 (Operand.tmp 22), type := 3, pos := "call.go:25", after := #[{ on := 10, ground := Ground.data }, { on := 8, ground := Ground.guard }], guard := some (8, false) }) (v := .int .i64 ca) rfl (by kernel_rfl) (by kernel_rfl) (by kernel_rfl) (fun _ _ _ h => h) (Or.inl ⟨by rfl, by intro w hSw; obtain ⟨h0, h1, h2, h3, g0, g1, g2, g3, _⟩ := hSw; go_simp⟩) hS0 ?_
                    try simp only [Act.put, List.setIfInBounds_toArray, List.set_cons_zero, List.set_cons_succ]
                    refine wpAnyH_ready (rs := [12]) (by kernel_rfl) (by simp) ?_
                    refine AllReadyH.cons (o := { dst := some 24, op := Op.buildSlice 32 1 #[(0, Operand.tmp 23)], type := 32, pos := "call.go:25", after := #[{ on := 11, ground := Ground.data }, { on := 8, ground := Ground.guard }], guard := some (8, false) }) rfl (fun K hK => ?_) AllReadyH.nil
                    go_simp
                    refine hK.out _ _ hSA (fun _ => ?_)
                    clear hK K
                    try simp only [Act.put, List.setIfInBounds_toArray, List.set_cons_zero, List.set_cons_succ]
                    refine wpAnyH_ready (rs := [13]) (by kernel_rfl) (by simp) ?_
                    refine AllReadyH.cons (o := { dst := some 25, op := Op.call { callee := Callee.value (Operand.func 34), args := #[Operand.tmp 24], argTypes := #[32] }, type := 4, pos := "call.go:25", after := #[{ on := 12, ground := Ground.data }, { on := 8, ground := Ground.chain }, { on := 8, ground := Ground.guard }], guard := some (8, false) }) rfl (fun K hK => ?_) AllReadyH.nil
                    go_simp
                    go_at_call 34
                    (with_reducible refine (nr _ hlit).mono ?_)
                    rintro e w1 ⟨rfl, rfl⟩
                    go_simp
                    refine hK.out _ _ hSA (fun _ => ?_)
                    clear hK K
                    try simp only [Act.put, List.setIfInBounds_toArray, List.set_cons_zero, List.set_cons_succ]
                    refine wpAnyH_take (i := 14) (oi := { dst := some 26, op := Op.unOp UnOp.not 4 (Operand.tmp 25), type := 4, pos := "call.go:25", after := #[{ on := 13, ground := Ground.data }, { on := 8, ground := Ground.guard }], guard := some (8, false) }) (v := .bool false) rfl (by kernel_rfl) (by kernel_rfl) (by kernel_rfl) (fun _ _ _ h => h) (Or.inl ⟨by rfl, by intro w hSw; go_simp⟩) hSA ?_
                    try simp only [Act.put, List.setIfInBounds_toArray, List.set_cons_zero, List.set_cons_succ]
                    refine wpAnyH_take (i := 15) (oi := { dst := some 27, op := Op.pick (Operand.tmp 20) (Operand.const (Value.bool true)) (Operand.tmp 26), type := 4, pos := "call.go:25", after := #[{ on := 8, ground := Ground.data }, { on := 14, ground := Ground.data }], guard := none }) (v := .bool false) rfl (by kernel_rfl) (by kernel_rfl) (by kernel_rfl) (fun _ _ _ h => h) (Or.inl ⟨by rfl, by intro w hSw; go_simp⟩) hSA ?_
                    try simp only [Act.put, List.setIfInBounds_toArray, List.set_cons_zero, List.set_cons_succ]
                    refine wpAnyH_take (i := 16) (oi := { dst := some 28, op := Op.move (Operand.tmp 27), type := 4, pos := "call.go:25", after := #[{ on := 15, ground := Ground.data }, { on := 13, ground := Ground.chain }], guard := none }) (v := .bool false) rfl (by kernel_rfl) (by kernel_rfl) (by kernel_rfl) (fun _ _ _ h => h) (Or.inl ⟨by rfl, by intro w hSw; go_simp⟩) hSA ?_
                    try simp only [Act.put, List.setIfInBounds_toArray, List.set_cons_zero, List.set_cons_succ]
                    refine wpAnyH_take (i := 17) (oi := { dst := some 29, op := Op.fieldAddr 28 (Operand.tmp 4) 0, type := 0, pos := "call.go:25", after := #[{ on := 16, ground := Ground.guard }], guard := some (16, false) }) (v := .pointer (some ⟨gc, 0, none⟩)) rfl (by kernel_rfl) (by kernel_rfl) (by kernel_rfl) (fun _ _ _ h => h) (Or.inl ⟨by rfl, by intro w hSw; go_simp⟩) hSA ?_
                    try simp only [Act.put, List.setIfInBounds_toArray, List.set_cons_zero, List.set_cons_succ]
                    refine wpAnyH_take (i := 18) (oi := { dst := some 30, op := Op.fieldAddr 26 (Operand.tmp 29) 2, type := 0, pos := "call.go:25", after := #[{ on := 17, ground := Ground.data }, { on := 16, ground := Ground.guard }], guard := some (16, false) }) (v := .pointer (some ⟨gc, 2, none⟩)) rfl (by kernel_rfl) (by kernel_rfl) (by kernel_rfl) (fun _ _ _ h => h) (Or.inl ⟨by rfl, by intro w hSw; go_simp⟩) hSA ?_
                    try simp only [Act.put, List.setIfInBounds_toArray, List.set_cons_zero, List.set_cons_succ]
                    refine wpAnyH_take (i := 19) (oi := { dst := some 31, op := Op.load 3 (Operand.tmp 30), type := 3, pos := "call.go:25", after := #[{ on := 18, ground := Ground.data }, { on := 16, ground := Ground.guard }], guard := some (16, false) }) (v := .int .i64 ca) rfl (by kernel_rfl) (by kernel_rfl) (by kernel_rfl) (fun _ _ _ h => h) (Or.inl ⟨by rfl, by intro w hSw; obtain ⟨h0, h1, h2, h3, g0, g1, g2, g3, _⟩ := hSw; go_simp⟩) hSA ?_
                    try simp only [Act.put, List.setIfInBounds_toArray, List.set_cons_zero, List.set_cons_succ]
                    refine wpAnyH_take (i := 20) (oi := { dst := some 32, op := Op.binOp BinOp.lss 3 (Operand.tmp 31) (Operand.const (Value.int IntKind.i64 1)) 3, type := 4, pos := "call.go:25", after := #[{ on := 19, ground := Ground.data }, { on := 16, ground := Ground.guard }], guard := some (16, false) }) (v := .bool false) rfl (by kernel_rfl) (by kernel_rfl) (by kernel_rfl) (fun _ _ _ h => h) (Or.inl ⟨by rfl, by intro w hSw; go_simp⟩) hSA ?_
                    try simp only [Act.put, List.setIfInBounds_toArray, List.set_cons_zero, List.set_cons_succ]
                    refine wpAnyH_take (i := 21) (oi := { dst := some 33, op := Op.pick (Operand.tmp 28) (Operand.const (Value.bool true)) (Operand.tmp 32), type := 4, pos := "call.go:25", after := #[{ on := 16, ground := Ground.data }, { on := 20, ground := Ground.data }], guard := none }) (v := .bool false) rfl (by kernel_rfl) (by kernel_rfl) (by kernel_rfl) (fun _ _ _ h => h) (Or.inl ⟨by rfl, by intro w hSw; go_simp⟩) hSA ?_
                    try simp only [Act.put, List.setIfInBounds_toArray, List.set_cons_zero, List.set_cons_succ]
                    refine wpAnyH_take (i := 22) (oi := { dst := some 34, op := Op.move (Operand.tmp 33), type := 4, pos := "call.go:25", after := #[{ on := 21, ground := Ground.data }, { on := 16, ground := Ground.chain }], guard := none }) (v := .bool false) rfl (by kernel_rfl) (by kernel_rfl) (by kernel_rfl) (fun _ _ _ h => h) (Or.inl ⟨by rfl, by intro w hSw; go_simp⟩) hSA ?_
                    try simp only [Act.put, List.setIfInBounds_toArray, List.set_cons_zero, List.set_cons_succ]
                    refine wpAnyH_take (i := 23) (oi := { dst := some 35, op := Op.fieldAddr 28 (Operand.tmp 4) 1, type := 0, pos := "call.go:25", after := #[{ on := 22, ground := Ground.guard }], guard := some (22, false) }) (v := .pointer (some ⟨gc, 3, none⟩)) rfl (by kernel_rfl) (by kernel_rfl) (by kernel_rfl) (fun _ _ _ h => h) (Or.inl ⟨by rfl, by intro w hSw; go_simp⟩) hSA ?_
                    try simp only [Act.put, List.setIfInBounds_toArray, List.set_cons_zero, List.set_cons_succ]
                    refine wpAnyH_take (i := 24) (oi := { dst := some 36, op := Op.load 3 (Operand.tmp 35), type := 3, pos := "call.go:25", after := #[{ on := 23, ground := Ground.data }, { on := 22, ground := Ground.guard }], guard := some (22, false) }) (v := .int .i64 ct) rfl (by kernel_rfl) (by kernel_rfl) (by kernel_rfl) (fun _ _ _ h => h) (Or.inl ⟨by rfl, by intro w hSw; obtain ⟨h0, h1, h2, h3, g0, g1, g2, g3, _⟩ := hSw; go_simp⟩) hSA ?_
                    try simp only [Act.put, List.setIfInBounds_toArray, List.set_cons_zero, List.set_cons_succ]
                    refine wpAnyH_take (i := 25) (oi := { dst := some 37, op := Op.binOp BinOp.lss 3 (Operand.tmp 36) (Operand.const (Value.int IntKind.i64 0)) 3, type := 4, pos := "call.go:25", after := #[{ on := 24, ground := Ground.data }, { on := 22, ground := Ground.guard }], guard := some (22, false) }) (v := .bool false) rfl (by kernel_rfl) (by kernel_rfl) (by kernel_rfl) (fun _ _ _ h => h) (Or.inl ⟨by rfl, by intro w hSw; go_simp⟩) hSA ?_
                    try simp only [Act.put, List.setIfInBounds_toArray, List.set_cons_zero, List.set_cons_succ]
                    refine wpAnyH_take (i := 26) (oi := { dst := some 38, op := Op.pick (Operand.tmp 34) (Operand.const (Value.bool true)) (Operand.tmp 37), type := 4, pos := "call.go:25", after := #[{ on := 22, ground := Ground.data }, { on := 25, ground := Ground.data }], guard := none }) (v := .bool false) rfl (by kernel_rfl) (by kernel_rfl) (by kernel_rfl) (fun _ _ _ h => h) (Or.inl ⟨by rfl, by intro w hSw; go_simp⟩) hSA ?_
                    try simp only [Act.put, List.setIfInBounds_toArray, List.set_cons_zero, List.set_cons_succ]
                    refine wpAnyH_take (i := 27) (oi := { dst := some 39, op := Op.move (Operand.tmp 38), type := 4, pos := "call.go:25", after := #[{ on := 26, ground := Ground.data }, { on := 22, ground := Ground.chain }], guard := none }) (v := .bool false) rfl (by kernel_rfl) (by kernel_rfl) (by kernel_rfl) (fun _ _ _ h => h) (Or.inl ⟨by rfl, by intro w hSw; go_simp⟩) hSA ?_
                    try simp only [Act.put, List.setIfInBounds_toArray, List.set_cons_zero, List.set_cons_succ]
                    refine wpAnyH_take (i := 28) (oi := { dst := some 40, op := Op.fieldAddr 28 (Operand.tmp 4) 1, type := 0, pos := "call.go:25", after := #[{ on := 27, ground := Ground.guard }], guard := some (27, false) }) (v := .pointer (some ⟨gc, 3, none⟩)) rfl (by kernel_rfl) (by kernel_rfl) (by kernel_rfl) (fun _ _ _ h => h) (Or.inl ⟨by rfl, by intro w hSw; go_simp⟩) hSA ?_
                    try simp only [Act.put, List.setIfInBounds_toArray, List.set_cons_zero, List.set_cons_succ]
                    refine wpAnyH_take (i := 29) (oi := { dst := some 41, op := Op.load 3 (Operand.tmp 40), type := 3, pos := "call.go:25", after := #[{ on := 28, ground := Ground.data }, { on := 27, ground := Ground.guard }], guard := some (27, false) }) (v := .int .i64 ct) rfl (by kernel_rfl) (by kernel_rfl) (by kernel_rfl) (fun _ _ _ h => h) (Or.inl ⟨by rfl, by intro w hSw; obtain ⟨h0, h1, h2, h3, g0, g1, g2, g3, _⟩ := hSw; go_simp⟩) hSA ?_
                    try simp only [Act.put, List.setIfInBounds_toArray, List.set_cons_zero, List.set_cons_succ]
                    refine wpAnyH_take (i := 30) (oi := { dst := some 42, op := Op.binOp BinOp.gtr 3 (Operand.tmp 41) (Operand.const (Value.int IntKind.i64 1099511627776)) 3, type := 4, pos := "call.go:25", after := #[{ on := 29, ground := Ground.data }, { on := 27, ground := Ground.guard }], guard := some (27, false) }) (v := .bool false) rfl (by kernel_rfl) (by kernel_rfl) (by kernel_rfl) (fun _ _ _ h => h) (Or.inl ⟨by rfl, by intro w hSw; go_simp⟩) hSA ?_
                    try simp only [Act.put, List.setIfInBounds_toArray, List.set_cons_zero, List.set_cons_succ]
                    refine wpAnyH_take (i := 31) (oi := { dst := some 43, op := Op.pick (Operand.tmp 39) (Operand.const (Value.bool true)) (Operand.tmp 42), type := 4, pos := "call.go:25", after := #[{ on := 27, ground := Ground.data }, { on := 30, ground := Ground.data }], guard := none }) (v := .bool false) rfl (by kernel_rfl) (by kernel_rfl) (by kernel_rfl) (fun _ _ _ h => h) (Or.inl ⟨by rfl, by intro w hSw; go_simp⟩) hSA ?_
                    try simp only [Act.put, List.setIfInBounds_toArray, List.set_cons_zero, List.set_cons_succ]
                    refine wpAnyH_take (i := 32) (oi := { dst := some 44, op := Op.move (Operand.tmp 43), type := 4, pos := "call.go:25", after := #[{ on := 31, ground := Ground.data }, { on := 27, ground := Ground.chain }], guard := none }) (v := .bool false) rfl (by kernel_rfl) (by kernel_rfl) (by kernel_rfl) (fun _ _ _ h => h) (Or.inl ⟨by rfl, by intro w hSw; go_simp⟩) hSA ?_
                    try simp only [Act.put, List.setIfInBounds_toArray, List.set_cons_zero, List.set_cons_succ]
                    refine wpAnyH_take (i := 33) (oi := { dst := some 45, op := Op.move (Operand.tmp 3), type := 3, pos := "call.go:25", after := #[{ on := 32, ground := Ground.guard }], guard := some (32, false) }) (v := .int .i64 ((q : Int) + 1)) rfl (by kernel_rfl) (by kernel_rfl) (by kernel_rfl) (fun _ _ _ h => h) (Or.inl ⟨by rfl, by intro w hSw; go_simp⟩) hSA ?_
                    try simp only [Act.put, List.setIfInBounds_toArray, List.set_cons_zero, List.set_cons_succ]
                    refine wpAnyH_take (i := 34) (oi := { dst := some 46, op := Op.binOp BinOp.gtr 3 (Operand.tmp 45) (Operand.const (Value.int IntKind.i64 0)) 3, type := 4, pos := "call.go:25", after := #[{ on := 33, ground := Ground.data }, { on := 32, ground := Ground.guard }], guard := some (32, false) }) (v := .bool true) rfl (by kernel_rfl) (by kernel_rfl) (by kernel_rfl) (fun _ _ _ h => h) (Or.inl ⟨by rfl, by intro w hSw; go_simp⟩) hSA ?_
                    try simp only [Act.put, List.setIfInBounds_toArray, List.set_cons_zero, List.set_cons_succ]
                    refine wpAnyH_take (i := 35) (oi := { dst := some 47, op := Op.move (Operand.tmp 46), type := 4, pos := "call.go:25", after := #[{ on := 34, ground := Ground.data }, { on := 32, ground := Ground.chain }, { on := 32, ground := Ground.guard }], guard := some (32, false) }) (v := .bool true) rfl (by kernel_rfl) (by kernel_rfl) (by kernel_rfl) (fun _ _ _ h => h) (Or.inl ⟨by rfl, by intro w hSw; go_simp⟩) hSA ?_
                    try simp only [Act.put, List.setIfInBounds_toArray, List.set_cons_zero, List.set_cons_succ]
                    refine wpAnyH_take (i := 36) (oi := { dst := some 48, op := Op.move (Operand.tmp 0), type := 22, pos := "call.go:25", after := #[{ on := 35, ground := Ground.guard }], guard := some (35, true) }) (v := .slice (some ⟨bl, off, none⟩) n cap) rfl (by kernel_rfl) (by kernel_rfl) (by kernel_rfl) (fun _ _ _ h => h) (Or.inl ⟨by rfl, by intro w hSw; go_simp⟩) hSA ?_
                    try simp only [Act.put, List.setIfInBounds_toArray, List.set_cons_zero, List.set_cons_succ]
                    refine wpAnyH_take (i := 37) (oi := { dst := some 49, op := Op.move (Operand.tmp 3), type := 3, pos := "call.go:25", after := #[{ on := 35, ground := Ground.guard }], guard := some (35, true) }) (v := .int .i64 ((q : Int) + 1)) rfl (by kernel_rfl) (by kernel_rfl) (by kernel_rfl) (fun _ _ _ h => h) (Or.inl ⟨by rfl, by intro w hSw; go_simp⟩) hSA ?_
                    try simp only [Act.put, List.setIfInBounds_toArray, List.set_cons_zero, List.set_cons_succ]
                    refine wpAnyH_take (i := 38) (oi := { dst := some 50, op := Op.binOp BinOp.sub 3 (Operand.tmp 49) (Operand.const (Value.int IntKind.i64 1)) 3, type := 3, pos := "call.go:25", after := #[{ on := 37, ground := Ground.data }, { on := 35, ground := Ground.guard }], guard := some (35, true) }) (v := .int .i64 (q : Int)) rfl (by kernel_rfl) (by kernel_rfl) (by kernel_rfl) (fun _ _ _ h => h) (Or.inl ⟨by rfl, by intro w hSw; go_simp; exact IntWalk.i64_in _ (by omega)⟩) hSA ?_
                    try simp only [Act.put, List.setIfInBounds_toArray, List.set_cons_zero, List.set_cons_succ]
                    refine wpAnyH_take (i := 39) (oi := { dst := some 51, op := Op.indexAddr 22 (Operand.tmp 48) (Operand.tmp 50), type := 0, pos := "call.go:25", after := #[{ on := 36, ground := Ground.data }, { on := 38, ground := Ground.data }, { on := 35, ground := Ground.guard }], guard := some (35, true) }) (v := .pointer (some ⟨bl, off + q * 4, none⟩)) rfl (by kernel_rfl) (by kernel_rfl) (by kernel_rfl) (fun _ _ _ h => h) (Or.inl ⟨by rfl, by intro w hSw; go_simp⟩) hSA ?_
                    try simp only [Act.put, List.setIfInBounds_toArray, List.set_cons_zero, List.set_cons_succ]
                    refine wpAnyH_take (i := 40) (oi := { dst := some 52, op := Op.load 28 (Operand.tmp 51), type := 28, pos := "call.go:25", after := #[{ on := 39, ground := Ground.data }, { on := 35, ground := Ground.guard }], guard := some (35, true) }) (v := .agg #[.int .i64 pw, .int .i64 pc, .int .i64 pa, .int .i64 pt]) rfl (by kernel_rfl) (by kernel_rfl) (by kernel_rfl) (fun _ _ _ h => h) (Or.inl ⟨by rfl, by intro w hSw; obtain ⟨h0, h1, h2, h3, g0, g1, g2, g3, _⟩ := hSw; go_simp⟩) hSA ?_
                    try simp only [Act.put, List.setIfInBounds_toArray, List.set_cons_zero, List.set_cons_succ]
                    refine wpAnyH_take (i := 41) (oi := { dst := some 53, op := Op.fieldAddr 28 (Operand.tmp 4) 0, type := 0, pos := "call.go:25", after := #[{ on := 35, ground := Ground.guard }], guard := some (35, true) }) (v := .pointer (some ⟨gc, 0, none⟩)) rfl (by kernel_rfl) (by kernel_rfl) (by kernel_rfl) (fun _ _ _ h => h) (Or.inl ⟨by rfl, by intro w hSw; go_simp⟩) hSA ?_
                    try simp only [Act.put, List.setIfInBounds_toArray, List.set_cons_zero, List.set_cons_succ]
                    refine wpAnyH_take (i := 42) (oi := { dst := some 54, op := Op.fieldAddr 26 (Operand.tmp 53) 0, type := 0, pos := "call.go:25", after := #[{ on := 41, ground := Ground.data }, { on := 35, ground := Ground.guard }], guard := some (35, true) }) (v := .pointer (some ⟨gc, 0, none⟩)) rfl (by kernel_rfl) (by kernel_rfl) (by kernel_rfl) (fun _ _ _ h => h) (Or.inl ⟨by rfl, by intro w hSw; go_simp⟩) hSA ?_
                    try simp only [Act.put, List.setIfInBounds_toArray, List.set_cons_zero, List.set_cons_succ]
                    refine wpAnyH_take (i := 43) (oi := { dst := some 55, op := Op.load 3 (Operand.tmp 54), type := 3, pos := "call.go:25", after := #[{ on := 42, ground := Ground.data }, { on := 35, ground := Ground.guard }], guard := some (35, true) }) (v := .int .i64 cw) rfl (by kernel_rfl) (by kernel_rfl) (by kernel_rfl) (fun _ _ _ h => h) (Or.inl ⟨by rfl, by intro w hSw; obtain ⟨h0, h1, h2, h3, g0, g1, g2, g3, _⟩ := hSw; go_simp⟩) hSA ?_
                    try simp only [Act.put, List.setIfInBounds_toArray, List.set_cons_zero, List.set_cons_succ]
                    refine wpAnyH_take (i := 44) (oi := { dst := some 56, op := Op.fieldAddr 28 (Operand.tmp 4) 0, type := 0, pos := "call.go:25", after := #[{ on := 35, ground := Ground.guard }], guard := some (35, true) }) (v := .pointer (some ⟨gc, 0, none⟩)) rfl (by kernel_rfl) (by kernel_rfl) (by kernel_rfl) (fun _ _ _ h => h) (Or.inl ⟨by rfl, by intro w hSw; go_simp⟩) hSA ?_
                    try simp only [Act.put, List.setIfInBounds_toArray, List.set_cons_zero, List.set_cons_succ]
                    refine wpAnyH_take (i := 45) (oi := { dst := some 57, op := Op.fieldAddr 26 (Operand.tmp 56) 1, type := 0, pos := "call.go:25", after := #[{ on := 44, ground := Ground.data }, { on := 35, ground := Ground.guard }], guard := some (35, true) }) (v := .pointer (some ⟨gc, 1, none⟩)) rfl (by kernel_rfl) (by kernel_rfl) (by kernel_rfl) (fun _ _ _ h => h) (Or.inl ⟨by rfl, by intro w hSw; go_simp⟩) hSA ?_
                    try simp only [Act.put, List.setIfInBounds_toArray, List.set_cons_zero, List.set_cons_succ]
                    refine wpAnyH_take (i := 46) (oi := { dst := some 58, op := Op.load 3 (Operand.tmp 57), type := 3, pos := "call.go:25", after := #[{ on := 45, ground := Ground.data }, { on := 35, ground := Ground.guard }], guard := some (35, true) }) (v := .int .i64 cc) rfl (by kernel_rfl) (by kernel_rfl) (by kernel_rfl) (fun _ _ _ h => h) (Or.inl ⟨by rfl, by intro w hSw; obtain ⟨h0, h1, h2, h3, g0, g1, g2, g3, _⟩ := hSw; go_simp⟩) hSA ?_
                    try simp only [Act.put, List.setIfInBounds_toArray, List.set_cons_zero, List.set_cons_succ]
                    refine wpAnyH_ready (rs := [47]) (by kernel_rfl) (by simp) ?_
                    refine AllReadyH.cons (o := { dst := some 59, op := Op.call { callee := Callee.value (Operand.func 35), args := #[Operand.tmp 52, Operand.tmp 55, Operand.tmp 58], argTypes := #[28, 3, 3] }, type := 3, pos := "call.go:25", after := #[{ on := 40, ground := Ground.data }, { on := 43, ground := Ground.data }, { on := 46, ground := Ground.data }, { on := 35, ground := Ground.chain }, { on := 35, ground := Ground.guard }], guard := some (35, true) }) rfl (fun K hK => ?_) AllReadyH.nil
                    go_simp
                    go_at_call 35
                    (with_reducible refine (co _).mono ?_)
                    rintro e w9 ⟨rfl, hb9⟩
                    have hS9 := keepK hb9 hSA
                    clear hb9
                    go_simp
                    refine hK.out _ _ hS9 (fun _ => ?_)
                    clear hK K
                    try simp only [Act.put, List.setIfInBounds_toArray, List.set_cons_zero, List.set_cons_succ]
                    refine wpAnyH_take (i := 48) (oi := { dst := some 60, op := Op.binOp BinOp.geq 3 (Operand.tmp 59) (Operand.const (Value.int IntKind.i64 0)) 3, type := 4, pos := "call.go:25", after := #[{ on := 47, ground := Ground.data }, { on := 35, ground := Ground.guard }], guard := some (35, true) }) (v := .bool true) rfl (by kernel_rfl) (by kernel_rfl) (by kernel_rfl) (fun _ _ _ h => h) (Or.inl ⟨by rfl, by intro w hSw; go_simp⟩) hS9 ?_
                    try simp only [Act.put, List.setIfInBounds_toArray, List.set_cons_zero, List.set_cons_succ]
                    refine wpAnyH_take (i := 49) (oi := { dst := some 61, op := Op.pick (Operand.tmp 47) (Operand.tmp 60) (Operand.const (Value.bool false)), type := 4, pos := "call.go:25", after := #[{ on := 35, ground := Ground.data }, { on := 48, ground := Ground.data }, { on := 32, ground := Ground.guard }], guard := some (32, false) }) (v := .bool true) rfl (by kernel_rfl) (by kernel_rfl) (by kernel_rfl) (fun _ _ _ h => h) (Or.inl ⟨by rfl, by intro w hSw; go_simp⟩) hS9 ?_
                    try simp only [Act.put, List.setIfInBounds_toArray, List.set_cons_zero, List.set_cons_succ]
                    refine wpAnyH_take (i := 50) (oi := { dst := some 62, op := Op.pick (Operand.tmp 44) (Operand.const (Value.bool true)) (Operand.tmp 61), type := 4, pos := "call.go:25", after := #[{ on := 32, ground := Ground.data }, { on := 49, ground := Ground.data }], guard := none }) (v := .bool true) rfl (by kernel_rfl) (by kernel_rfl) (by kernel_rfl) (fun _ _ _ h => h) (Or.inl ⟨by rfl, by intro w hSw; go_simp⟩) hS9 ?_
                    try simp only [Act.put, List.setIfInBounds_toArray, List.set_cons_zero, List.set_cons_succ]
                    refine wpAnyH_done (by kernel_rfl) ?_ _
                    have hbe := hS9.2.2.2.2.2.2.2.2
                    clear hlit rg nr
                    go_wp2_with fail
                    go_ret
                    exact ⟨by rw [HBAD.out]; rfl, hbe⟩
    · have HE : Hid (chkE l = 0) := by
        show _ = _
        exact chkE_ok (fun q hq => HO.out q (by have := HN.out; omega))
      go_wp2_with fail
      go_ret
      exact ⟨by rw [HE.out]; rfl, hbel⟩

end Cam
