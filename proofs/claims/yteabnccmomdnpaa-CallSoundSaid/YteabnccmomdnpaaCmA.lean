import Derived.Test.YteabnccmomdnpaaClR
import Derived.Test.YteabnccmomdnpaaClA
import Derived.Test.YteabnccmomdnpaaClF
import Derived.Test.YteabnccmomdnpaaUni
/- call.Ask, call.Meet in full. -/
namespace Cam
open Go Go.RowKit Go.Proofs

def askL (l : List CT) (who cur amt at0 : Int) : List CT := if wrongE l who cur amt at0 = 0 then putL l who cur amt at0 else []
def AskP (w : World) (E : Int) (r : List CT) (e : Ending) (w' : World) : Prop := ∃ a n c, e = .returned (.tuple #[.slice a n c, .int .i64 E]) ∧ OwnC w' w.heap.size (.slice a n c) r ∧ Below w.heap.size w w'
theorem wrongE_zero {l : List CT} {who cur amt at0 : Int} (h : wrongE l who cur amt at0 = 0) : Goods l ∧ argB who cur amt at0 = true := by
  unfold wrongE at h
  split at h
  · next hc =>
    refine ⟨(chkE_goods l).1 hc, ?_⟩
    split at h
    · assumption
    · cases h
  · next hc => exact absurd h hc
theorem Ask_any (w : World) (v : Value) (l : List CT) (who cur amt at0 : Int) (h : Cs w v l) (hl : l.length ≤ 100000) :
    Calls Try.prog 11 #[v, .agg #[.int .i64 who, .int .i64 cur, .int .i64 amt], .int .i64 at0] w (AskP w (wrongE l who cur amt at0) (askL l who cur amt at0)) := by
  by_cases hw : wrongE l who cur amt at0 = 0
  · obtain ⟨hg, ha⟩ := wrongE_zero hw
    unfold askL
    rw [if_pos hw, hw]
    exact Ask_of w v l _ who cur amt at0 h hl hw (fun w1 h1 => put_any w1 v l who cur amt at0 h1 hl hg ha)
  · unfold askL
    rw [if_neg hw]
    have hbW := (Below.refl w.heap.size w).alloc (Nat.le_refl _) (.cells #[.int .i64 who, .int .i64 cur, .int .i64 amt] 26)
    have hn0 := heap_alloc_new w (.cells #[.int .i64 who, .int .i64 cur, .int .i64 amt] 26)
    have hcl : ∀ j u, #[Value.int .i64 who, .int .i64 cur, .int .i64 amt][j]? = some u → (w.alloc (.cells #[.int .i64 who, .int .i64 cur, .int .i64 amt] 26)).cell? ⟨w.heap.size, j, none⟩ = some u := by
      intro j u hu
      unfold World.cell?
      rw [hn0]
      exact hu
    have c0 := hcl 0 _ rfl
    have c1 := hcl 1 _ rfl
    have c2 := hcl 2 _ rfl
    have hv := h.mono hbW
    obtain ⟨av, cap, rfl, _, _⟩ := h.shape
    obtain ⟨m, hm⟩ : ∃ m, m = l.length := ⟨_, rfl⟩
    have wr0 := wrong_any (w.alloc (.cells #[.int .i64 who, .int .i64 cur, .int .i64 amt] 26)) (.slice av l.length cap) l who cur amt at0 hv hl
    obtain ⟨x, hx⟩ : ∃ x, x = wrongE l who cur amt at0 := ⟨_, rfl⟩
    rw [← hx] at wr0 hw ⊢
    rw [← hm] at wr0 ⊢
    have hx' : (x != 0) = true := by rw [bne_iff_ne]; exact hw
    have HBE := Lib.hid hbW
    clear hcl hn0 hbW h hm hv hx hw
    go_enter Try.func11, Try.ntmps11
    go_wp2_with fail
    refine wr0.mono ?_
    clear wr0
    rintro e w1 ⟨rfl, hb1⟩
    have HB := Lib.hid (HBE.out.trans (hb1.mono HBE.out.size))
    clear hb1 c0 c1 c2
    go_wp2_with fail
    go_ret2
    exact ⟨none, 0, 0, rfl, OwnR.empty CT.len _ _ _, HB.out⟩

def meetL (l : List CT) (who cur amt : Int) : List CT := if wrongE l who cur amt 0 = 0 then putL l who cur (max (ofL who cur l - amt) 0) 0 else []
theorem ofL_bd' {l : List CT} (h : ∀ c ∈ l, okB c = true) (who cur : Int) : 0 ≤ ofL who cur l ∧ ofL who cur l ≤ 4611686018427387904 := by
  induction l with
  | nil => exact ⟨Int.le_refl _, by show (0 : Int) ≤ _; omega⟩
  | cons c l ih =>
    unfold ofL
    split
    · have := okB_amt (h c (by simp))
      omega
    · exact ih (fun d hd => h d (by simp [hd]))
theorem ofL_bd {l : List CT} (h : Goods l) (who cur : Int) : 0 ≤ ofL who cur l ∧ ofL who cur l ≤ 4611686018427387904 := ofL_bd' h.1 who cur
theorem argB_max {who cur amt x : Int} (h : argB who cur amt 0 = true) (hx : x ≤ 4611686018427387904) : argB who cur (max (x - amt) 0) 0 = true := by
  unfold argB rightB at *
  simp only [Bool.and_eq_true, decide_eq_true_eq] at *
  obtain ⟨⟨⟨⟨h1, h2⟩, h3⟩, h4⟩, h5⟩ := h
  exact ⟨⟨⟨⟨h1, by omega⟩, by omega⟩, h4⟩, h5⟩
set_option maxRecDepth 100000 in
set_option maxHeartbeats 1600000 in
theorem Meet_any (w : World) (v : Value) (l : List CT) (who cur amt : Int) (h : Cs w v l) (hl : l.length ≤ 100000) :
    Calls Try.prog 12 #[v, .agg #[.int .i64 who, .int .i64 cur, .int .i64 amt]] w (AskP w (wrongE l who cur amt 0) (meetL l who cur amt)) := by
  have hbW := (Below.refl w.heap.size w).alloc (Nat.le_refl _) (.cells #[.int .i64 who, .int .i64 cur, .int .i64 amt] 26)
  have hn0 := heap_alloc_new w (.cells #[.int .i64 who, .int .i64 cur, .int .i64 amt] 26)
  have hcl : ∀ j u, #[Value.int .i64 who, .int .i64 cur, .int .i64 amt][j]? = some u → (w.alloc (.cells #[.int .i64 who, .int .i64 cur, .int .i64 amt] 26)).cell? ⟨w.heap.size, j, none⟩ = some u := by
    intro j u hu
    unfold World.cell?
    rw [hn0]
    exact hu
  have c0 : _ = some (Value.int .i64 who) := hcl 0 _ rfl
  have c1 : _ = some (Value.int .i64 cur) := hcl 1 _ rfl
  have c2 : _ = some (Value.int .i64 amt) := hcl 2 _ rfl
  have HH := Lib.hid h
  have cf : (w.alloc (.cells #[.int .i64 who, .int .i64 cur, .int .i64 amt] 26)).frozen? ⟨w.heap.size, 2, none⟩ = false := by
    unfold World.frozen?
    rw [hn0]
    rfl
  have hv := h.mono hbW
  obtain ⟨av, cap, rfl, _, _⟩ := h.shape
  obtain ⟨m, hm⟩ : ∃ m, m = l.length := ⟨_, rfl⟩
  have wr0 := wrong_any (w.alloc (.cells #[.int .i64 who, .int .i64 cur, .int .i64 amt] 26)) (.slice av l.length cap) l who cur amt 0 hv hl
  have cOf := fun w1 h1 => Of_any w1 who cur (.slice av l.length cap) l h1 hl
  have HV0 := Lib.hid hv
  have HCF := Lib.hid cf
  have HBE := Lib.hid hbW
  rw [← hm] at wr0 cOf HV0 HH ⊢
  clear hcl hn0 hbW h hm hv cf
  by_cases hw : wrongE l who cur amt 0 = 0
  · obtain ⟨hg, ha⟩ := wrongE_zero hw
    have hbd := ofL_bd hg who cur
    have hamt : 0 ≤ amt ∧ amt ≤ 4611686018427387904 := by
      unfold argB rightB at ha
      simp only [Bool.and_eq_true, decide_eq_true_eq] at ha
      omega
    have hm2 : meetL l who cur amt = putL l who cur (max (ofL who cur l - amt) 0) 0 := by unfold meetL; rw [if_pos hw]
    have pu := fun w1 h1 => put_any w1 (.slice av m cap) l who cur (max (ofL who cur l - amt) 0) 0 h1 hl hg (argB_max ha hbd.2)
    rw [hm2, hw]
    rw [hw] at wr0
    obtain ⟨ov, hov⟩ : ∃ ov, ov = ofL who cur l := ⟨_, rfl⟩
    obtain ⟨mx, hmx⟩ : ∃ mx, mx = max (ov - amt) 0 := ⟨_, rfl⟩
    rw [← hov] at cOf pu hbd ⊢
    rw [← hmx] at pu ⊢
    have HMX := Lib.hid hmx
    obtain ⟨r, hr⟩ : ∃ r, r = putL l who cur mx 0 := ⟨_, rfl⟩
    rw [← hr] at pu ⊢
    clear hov hmx hr hw hm2 hg ha
    go_enter Try.func12, Try.ntmps12
    go_wp2_with fail
    refine wr0.mono ?_
    clear wr0
    rintro e W ⟨rfl, hb1⟩
    have d0 := (Below.cell hb1 (World.block_lt_of_cell? _ _ c0)).trans c0
    have d1 := (Below.cell hb1 (World.block_lt_of_cell? _ _ c1)).trans c1
    have d2 := (Below.cell hb1 (World.block_lt_of_cell? _ _ c2)).trans c2
    have HFR := Lib.hid ((Below.frozen hb1 (World.block_lt_of_cell? _ _ c2)).trans HCF.out)
    have HV := Lib.hid (HV0.out.mono hb1)
    have HB := Lib.hid (HBE.out.trans (hb1.mono HBE.out.size))
    clear hb1 c0 c1 c2 HCF HV0
    have HBS := Lib.hid HB.out.size
    go_wp2_with fail
    generalize hgd : w.heap.size = gd at *
    have HGE : Hid (gd = w.heap.size) := hgd.symm
    clear hgd
    refine wp_region_bl 11 (by kernel_rfl) ?_
    refine wpAnyU_take (i := 0) (oi := { dst := some 13, op := Op.fieldAddr 26 (Operand.tmp 3) 0, type := 0, pos := "call.go:84", after := #[], guard := none }) (v := (.pointer (some ⟨gd, 0, none⟩))) rfl (by kernel_rfl) (by kernel_rfl) (by kernel_rfl) (by kernel_rfl) (by kernel_rfl) (fun _ _ _ h => h) (BL.cls W) ?_ ?_
    · refine Or.inl ⟨rfl, fun w hSw => ?_⟩
      exact EffR.same (by go_simp)
    try simp only [Act.put, List.setIfInBounds_toArray, List.set_cons_zero, List.set_cons_succ]
    refine wpAnyU_take (i := 1) (oi := { dst := some 14, op := Op.load 3 (Operand.tmp 13), type := 3, pos := "call.go:84", after := #[{ on := 0, ground := Ground.data }], guard := none }) (v := (.int .i64 who)) rfl (by kernel_rfl) (by kernel_rfl) (by kernel_rfl) (by kernel_rfl) (by kernel_rfl) (fun _ _ _ h => h) (BL.cls W) ?_ ?_
    · refine Or.inl ⟨rfl, fun w hSw => ?_⟩
      have e0 := BL.cell hSw d0
      exact EffR.same (by go_simp)
    try simp only [Act.put, List.setIfInBounds_toArray, List.set_cons_zero, List.set_cons_succ]
    refine wpAnyU_take (i := 2) (oi := { dst := some 15, op := Op.fieldAddr 26 (Operand.tmp 3) 1, type := 0, pos := "call.go:84", after := #[], guard := none }) (v := (.pointer (some ⟨gd, 1, none⟩))) rfl (by kernel_rfl) (by kernel_rfl) (by kernel_rfl) (by kernel_rfl) (by kernel_rfl) (fun _ _ _ h => h) (BL.cls W) ?_ ?_
    · refine Or.inl ⟨rfl, fun w hSw => ?_⟩
      exact EffR.same (by go_simp)
    try simp only [Act.put, List.setIfInBounds_toArray, List.set_cons_zero, List.set_cons_succ]
    refine wpAnyU_take (i := 3) (oi := { dst := some 16, op := Op.load 3 (Operand.tmp 15), type := 3, pos := "call.go:84", after := #[{ on := 2, ground := Ground.data }], guard := none }) (v := (.int .i64 cur)) rfl (by kernel_rfl) (by kernel_rfl) (by kernel_rfl) (by kernel_rfl) (by kernel_rfl) (fun _ _ _ h => h) (BL.cls W) ?_ ?_
    · refine Or.inl ⟨rfl, fun w hSw => ?_⟩
      have e0 := BL.cell hSw d1
      exact EffR.same (by go_simp)
    try simp only [Act.put, List.setIfInBounds_toArray, List.set_cons_zero, List.set_cons_succ]
    refine wpAnyU_take (i := 4) (oi := { dst := some 17, op := Op.move (Operand.tmp 0), type := 22, pos := "call.go:84", after := #[], guard := none }) (v := (.slice av m cap)) rfl (by kernel_rfl) (by kernel_rfl) (by kernel_rfl) (by kernel_rfl) (by kernel_rfl) (fun _ _ _ h => h) (BL.cls W) ?_ ?_
    · refine Or.inl ⟨rfl, fun w hSw => ?_⟩
      exact EffR.same (by go_simp)
    try simp only [Act.put, List.setIfInBounds_toArray, List.set_cons_zero, List.set_cons_succ]
    refine wpAnyU_take (i := 5) (oi := { dst := some 18, op := Op.call { callee := Callee.value (Operand.func 13), args := #[Operand.tmp 14, Operand.tmp 16, Operand.tmp 17], argTypes := #[3, 3, 22] }, type := 3, pos := "call.go:84", after := #[{ on := 1, ground := Ground.data }, { on := 3, ground := Ground.data }, { on := 4, ground := Ground.data }], guard := none }) (v := (.int .i64 ov)) rfl (by kernel_rfl) (by kernel_rfl) (by kernel_rfl) (by kernel_rfl) (by kernel_rfl) (fun _ _ _ h => h) (BL.cls W) ?_ ?_
    · refine Or.inl ⟨rfl, fun w hSw => ?_⟩
      go_simp
      show Calls _ _ _ _ _
      refine (cOf _ (HV.out.mono hSw)).mono ?_
      rintro e w1 ⟨rfl, hb⟩
      exact ⟨rfl, hb⟩
    try simp only [Act.put, List.setIfInBounds_toArray, List.set_cons_zero, List.set_cons_succ]
    refine wpAnyU_take (i := 6) (oi := { dst := some 19, op := Op.fieldAddr 26 (Operand.tmp 3) 2, type := 0, pos := "call.go:84", after := #[], guard := none }) (v := (.pointer (some ⟨gd, 2, none⟩))) rfl (by kernel_rfl) (by kernel_rfl) (by kernel_rfl) (by kernel_rfl) (by kernel_rfl) (fun _ _ _ h => h) (BL.cls W) ?_ ?_
    · refine Or.inl ⟨rfl, fun w hSw => ?_⟩
      exact EffR.same (by go_simp)
    try simp only [Act.put, List.setIfInBounds_toArray, List.set_cons_zero, List.set_cons_succ]
    refine wpAnyU_take (i := 7) (oi := { dst := some 20, op := Op.load 3 (Operand.tmp 19), type := 3, pos := "call.go:84", after := #[{ on := 6, ground := Ground.data }], guard := none }) (v := (.int .i64 amt)) rfl (by kernel_rfl) (by kernel_rfl) (by kernel_rfl) (by kernel_rfl) (by kernel_rfl) (fun _ _ _ h => h) (BL.cls W) ?_ ?_
    · refine Or.inl ⟨rfl, fun w hSw => ?_⟩
      have e0 := BL.cell hSw d2
      exact EffR.same (by go_simp)
    try simp only [Act.put, List.setIfInBounds_toArray, List.set_cons_zero, List.set_cons_succ]
    refine wpAnyU_take (i := 8) (oi := { dst := some 21, op := Op.binOp BinOp.sub 3 (Operand.tmp 18) (Operand.tmp 20) 3, type := 3, pos := "call.go:84", after := #[{ on := 5, ground := Ground.data }, { on := 7, ground := Ground.data }], guard := none }) (v := (.int .i64 (ov - amt))) rfl (by kernel_rfl) (by kernel_rfl) (by kernel_rfl) (by kernel_rfl) (by kernel_rfl) (fun _ _ _ h => h) (BL.cls W) ?_ ?_
    · refine Or.inl ⟨rfl, fun w hSw => ?_⟩
      exact EffR.same (by go_simp; exact IntWalk.i64_in _ (by omega))
    try simp only [Act.put, List.setIfInBounds_toArray, List.set_cons_zero, List.set_cons_succ]
    refine wpAnyU_take (i := 9) (oi := { dst := some 22, op := Op.call { callee := Callee.builtin Builtin.max, args := #[Operand.tmp 21, Operand.const (Value.int IntKind.i64 0)], argTypes := #[3, 3] }, type := 3, pos := "call.go:84", after := #[{ on := 8, ground := Ground.data }], guard := none }) (v := (.int .i64 mx)) rfl (by kernel_rfl) (by kernel_rfl) (by kernel_rfl) (by kernel_rfl) (by kernel_rfl) (fun _ _ _ h => h) (BL.cls W) ?_ ?_
    · refine Or.inl ⟨rfl, fun w hSw => ?_⟩
      exact EffR.same (by go_simp; rw [HMX.out]; split <;> omega)
    try simp only [Act.put, List.setIfInBounds_toArray, List.set_cons_zero, List.set_cons_succ]
    refine wpAnyU_take (i := 10) (oi := { dst := some 23, op := Op.fieldAddr 26 (Operand.tmp 3) 2, type := 0, pos := "call.go:84", after := #[{ on := 0, ground := Ground.phase }, { on := 1, ground := Ground.phase }, { on := 2, ground := Ground.phase }, { on := 3, ground := Ground.phase }, { on := 4, ground := Ground.phase }, { on := 5, ground := Ground.phase }, { on := 6, ground := Ground.phase }, { on := 7, ground := Ground.phase }, { on := 8, ground := Ground.phase }, { on := 9, ground := Ground.phase }], guard := none }) (v := (.pointer (some ⟨gd, 2, none⟩))) rfl (by kernel_rfl) (by kernel_rfl) (by kernel_rfl) (by kernel_rfl) (by kernel_rfl) (fun _ _ _ h => h) (BL.cls W) ?_ ?_
    · refine Or.inl ⟨rfl, fun w hSw => ?_⟩
      exact EffR.same (by go_simp)
    try simp only [Act.put, List.setIfInBounds_toArray, List.set_cons_zero, List.set_cons_succ]
    refine wpAnyU_last (o := { dst := none, op := Op.store 3 (Operand.tmp 23) (Operand.tmp 22), type := 0, pos := "call.go:84", after := #[{ on := 10, ground := Ground.data }, { on := 9, ground := Ground.data }, { on := 5, ground := Ground.chain }, { on := 0, ground := Ground.phase }, { on := 1, ground := Ground.phase }, { on := 2, ground := Ground.phase }, { on := 3, ground := Ground.phase }, { on := 4, ground := Ground.phase }, { on := 5, ground := Ground.phase }, { on := 6, ground := Ground.phase }, { on := 7, ground := Ground.phase }, { on := 8, ground := Ground.phase }, { on := 9, ground := Ground.phase }], guard := none }) (by kernel_rfl) (by kernel_rfl) rfl (fun w1 hb1 K hK => ?_)
    have e2 := BL.cell hb1 d2
    have ef : w1.frozen? ⟨gd, 2, none⟩ = false := (Below.frozen hb1 (World.block_lt_of_cell? _ _ d2)).trans HFR.out
    go_simp
    refine hK.out _ _ ?_
    clear hK K
    try simp only [Act.put, List.setIfInBounds_toArray, List.set_cons_zero, List.set_cons_succ]
    have HB2 := Lib.hid ((HB.out.trans (hb1.mono HBS.out)).setCell (p := ⟨gd, 2, none⟩) (Nat.le_refl _) (.int .i64 mx))
    have e0 := BL.cell hb1 d0
    have e1 := BL.cell hb1 d1
    have f0 : (w1.setCell ⟨gd, 2, none⟩ (.int .i64 mx)).cell? ⟨gd, 0, none⟩ = some (.int .i64 who) := (World.cell?_setCell_other _ _ _ _ (by simp)).trans e0
    have f1 : (w1.setCell ⟨gd, 2, none⟩ (.int .i64 mx)).cell? ⟨gd, 1, none⟩ = some (.int .i64 cur) := (World.cell?_setCell_other _ _ _ _ (by simp)).trans e1
    have f2 : (w1.setCell ⟨gd, 2, none⟩ (.int .i64 mx)).cell? ⟨gd, 2, none⟩ = some (.int .i64 mx) := World.cell?_setCell_same _ _ _ e2
    generalize w1.setCell ⟨gd, 2, none⟩ (.int .i64 mx) = W2 at *
    have pu2 := pu W2 (HH.out.mono (HGE.out ▸ HB2.out))
    clear e0 e1 e2 ef hb1 d0 d1 d2 pu cOf
    go_wp2_with fail
    refine pu2.mono ?_
    clear pu2
    rintro e w3 ⟨a, n, c, rfl, ho, hb3⟩
    have HO := Lib.hid ho
    clear ho
    go_wp2_with fail
    go_ret2
    have hs := HB2.out.size
    exact ⟨a, n, c, rfl, HO.out.base hs, (HGE.out ▸ HB2.out).trans (hb3.mono hs)⟩
  · have hm2 : meetL l who cur amt = [] := by unfold meetL; rw [if_neg hw]
    rw [hm2]
    obtain ⟨x, hx⟩ : ∃ x, x = wrongE l who cur amt 0 := ⟨_, rfl⟩
    rw [← hx] at wr0 hw ⊢
    have hx' : (x != 0) = true := by rw [bne_iff_ne]; exact hw
    clear hx hw hm2 cOf
    go_enter Try.func12, Try.ntmps12
    go_wp2_with fail
    refine wr0.mono ?_
    clear wr0
    rintro e w1 ⟨rfl, hb1⟩
    have HB := Lib.hid (HBE.out.trans (hb1.mono HBE.out.size))
    clear hb1 c0 c1 c2
    go_wp2_with fail
    go_ret2
    exact ⟨none, 0, 0, rfl, OwnR.empty CT.len _ _ _, HB.out⟩
end Cam
