import Derived.Test.YteabnccmomdnpaaCmK
import Derived.Test.YteabnccmomdnpaaCmC
import Derived.Test.YteabnccmomdnpaaUni
/- CallSound: the walk. -/
namespace Cam
open Go Go.RowKit Go.Proofs

/-- an act's numbers -/
structure AT where
  dv : Int
  av : Int
  who : Int
  cur : Int
  amt : Int
def AT.vs (c : AT) : List Value := [.int .i64 c.dv, .int .i64 c.av, .int .i64 c.who, .int .i64 c.cur, .int .i64 c.amt]
theorem AT.len (c : AT) : c.vs.length = 5 := rfl
theorem at5 {w : World} {a : Option Addr} {len cap : Nat} {l : List AT} (h : Rs AT.vs 5 w (.slice a len cap) l) (hp : 0 < l.length) :
    ∃ b off, a = some ⟨b, off, none⟩ ∧ b < w.heap.size ∧ ∀ i (hi : i < l.length), w.cell? ⟨b, off + i * 5, none⟩ = some (.int .i64 l[i].dv) ∧ w.cell? ⟨b, off + i * 5 + 1, none⟩ = some (.int .i64 l[i].av) ∧ w.cell? ⟨b, off + i * 5 + 2, none⟩ = some (.int .i64 l[i].who) ∧ w.cell? ⟨b, off + i * 5 + 3, none⟩ = some (.int .i64 l[i].cur) ∧ w.cell? ⟨b, off + i * 5 + 4, none⟩ = some (.int .i64 l[i].amt) := by
  obtain ⟨b, off, h1, h2, h3⟩ := Rs.at h hp (by decide)
  exact ⟨b, off, h1, h2, fun i hi => ⟨h3 i hi 0 _ rfl, h3 i hi 1 _ rfl, h3 i hi 2 _ rfl, h3 i hi 3 _ rfl, h3 i hi 4 _ rfl⟩⟩
def ck5 (k : Int) : Int := (IntKind.u64.wrap k).tmod 5
theorem ck5_cases (k : Int) : ck5 k = 0 ∨ ck5 k = 1 ∨ ck5 k = 2 ∨ ck5 k = 3 ∨ ck5 k = 4 := by
  unfold ck5
  rw [IntKind.wrap_u64, Int.tmod_eq_emod_of_nonneg (by omega)]
  omega

set_option maxRecDepth 100000 in
set_option maxHeartbeats 12800000 in
theorem CallSound_walk (W : World) (v0 : Value) (l0 : List AT) (h : Rs AT.vs 5 W v0 l0) (hamt : ∀ c ∈ l0, -9223372036854775808 ≤ c.amt ∧ c.amt ≤ 9223372036854775807) :
    Calls Try.prog 6 #[v0] W fun e w' => e = .returned (.bool true) ∧ Below W.heap.size W w' := by
  obtain ⟨av0, cap, rfl, hcap, hm⟩ := h.shape
  obtain ⟨n, hn⟩ : ∃ n, n = l0.length := ⟨_, rfl⟩
  have HN := Lib.hid hn
  rw [← hn] at hcap h ⊢
  have H0 := Lib.hid h
  have HAM := Lib.hid hamt
  clear hn h hamt
  by_cases hlong : 1000 < n
  · go_enter Try.func6, Try.ntmps6
    go_wp2_with fail
    go_ret
    exact ⟨rfl, Below.refl _ _⟩
  · go_enter Try.func6, Try.ntmps6
    go_wp2_with fail
    go_loopw [3, 4] (fun v3 v4 wr => ∃ (k : Nat) (L : List CT) (a3 : Option Addr) (n3 c3 : Nat), k ≤ n ∧ v4 = .int .i64 k ∧ v3 = .slice a3 n3 c3 ∧ OwnC wr W.heap.size (.slice a3 n3 c3) L ∧ Hid (Goods L) ∧ Below W.heap.size W wr) (fun _ i _ => n - (intOf i).toNat)
    case atStart => exact ⟨0, [], none, 0, 0, Nat.zero_le _, rfl, rfl, OwnR.empty CT.len _ _ _, ⟨fun c hc => (by cases hc), List.Pairwise.nil⟩, Below.refl _ _⟩
    case round =>
      obtain ⟨k, L, a3, n3, c3, hk, rfl, rfl, ho, HG, hbel⟩ := hrel
      by_cases hlt : k < n ∧ k < 300
      · obtain ⟨hkn, hk3⟩ := hlt
        have hkl : k < l0.length := by have := HN.out; omega
        obtain ⟨bl, off, rfl, _, hc⟩ := at5 (H0.out.mono hbel) (by omega)
        obtain ⟨c, hcx⟩ : ∃ c, c = l0[k] := ⟨_, rfl⟩
        obtain ⟨m0, m1, m2, m3, m4⟩ := hc k hkl
        rw [← hcx] at m0 m1 m2 m3 m4
        have ham := HAM.out c (by rw [hcx]; exact List.getElem_mem _)
        obtain ⟨dv, av, who, cur, amt⟩ := c
        simp only at m0 m1 m2 m3 m4 ham
        have hbA := (Below.refl wr.heap.size wr).alloc (Nat.le_refl _) (.cells #[.int .i64 dv, .int .i64 av, .int .i64 who, .int .i64 cur, .int .i64 amt] 44)
        have hn0 := heap_alloc_new wr (.cells #[.int .i64 dv, .int .i64 av, .int .i64 who, .int .i64 cur, .int .i64 amt] 44)
        have hcl : ∀ j u, #[Value.int .i64 dv, .int .i64 av, .int .i64 who, .int .i64 cur, .int .i64 amt][j]? = some u → (wr.alloc (.cells #[.int .i64 dv, .int .i64 av, .int .i64 who, .int .i64 cur, .int .i64 amt] 44)).cell? ⟨wr.heap.size, j, none⟩ = some u := by
          intro j u hu
          unfold World.cell?
          rw [hn0]
          exact hu
        have hD : ∀ W2, Below (wr.alloc (.cells #[.int .i64 dv, .int .i64 av, .int .i64 who, .int .i64 cur, .int .i64 amt] 44)).heap.size (wr.alloc (.cells #[.int .i64 dv, .int .i64 av, .int .i64 who, .int .i64 cur, .int .i64 amt] 44)) W2 → W2.cell? ⟨wr.heap.size, 0, none⟩ = some (.int .i64 dv) ∧ W2.cell? ⟨wr.heap.size, 1, none⟩ = some (.int .i64 av) ∧ W2.cell? ⟨wr.heap.size, 2, none⟩ = some (.int .i64 who) ∧ W2.cell? ⟨wr.heap.size, 3, none⟩ = some (.int .i64 cur) ∧ W2.cell? ⟨wr.heap.size, 4, none⟩ = some (.int .i64 amt) := fun W2 hb =>
          have c : ∀ {p : Addr} {x : Value}, (wr.alloc (.cells #[.int .i64 dv, .int .i64 av, .int .i64 who, .int .i64 cur, .int .i64 amt] 44)).cell? p = some x → W2.cell? p = some x := fun h => (hb.cell (World.block_lt_of_cell? _ _ h)).trans h
          ⟨c (hcl 0 _ rfl), c (hcl 1 _ rfl), c (hcl 2 _ rfl), c (hcl 3 _ rfl), c (hcl 4 _ rfl)⟩
        have hoA := ho.below hbA
        have of0 := Of_any (wr.alloc (.cells #[.int .i64 dv, .int .i64 av, .int .i64 who, .int .i64 cur, .int .i64 amt] 44)) who cur _ L hoA.rs (by have := goods_len HG.out; omega)
        obtain ⟨ov, hov⟩ : ∃ ov, ov = ofL who cur L := ⟨_, rfl⟩
        rw [← hov] at of0
        have hovb := ofL_bd HG.out who cur
        rw [← hov] at hovb
        have HOV := Lib.hid hov
        have HO := Lib.hid hoA
        have HD := Lib.hid hD
        have HBA := Lib.hid (hbel.trans (hbA.mono hbel.size))
        clear hc hcx hn0 hcl hD hoA hov ho hbA hbel
        have hck := ck5_cases dv
        obtain ⟨r, hr⟩ : ∃ r, r = ck5 dv := ⟨_, rfl⟩
        rw [← hr] at hck
        unfold ck5 at hr
        have HR := Lib.hid hr
        have HCK := Lib.hid hck
        clear hr hck
        go_wp2_with fail
        clear m0 m1 m2 m3 m4
        generalize hA : (wr.alloc (.cells #[.int .i64 dv, .int .i64 av, .int .i64 who, .int .i64 cur, .int .i64 amt] 44)) = A at *
        have HSA : Hid (wr.heap.size < A.heap.size) := by show _ < _; rw [← hA]; simp
        clear hA
        refine of0.mono ?_
        clear of0
        rintro e w2 ⟨rfl, hb2⟩
        obtain ⟨d0, d1, d2, d3, d4⟩ := HD.out _ hb2
        have HLL := Lib.hid (HO.out.below hb2)
        have HB2 := Lib.hid (HBA.out.trans (hb2.mono HBA.out.size))
        have HC2 := Lib.hid hb2
        clear hb2 HO
        generalize hga : wr.heap.size = ga at *
        clear hga
        rcases HCK.out with rfl | rfl | rfl | rfl | rfl
        · have hr := HR.out.symm
          have HLE := Lib.hid (goods_len HG.out)
          have ask0 := Ask_any w2 _ L who cur amt av HLL.out.rs (by have := HLE.out; omega)
          obtain ⟨E, hE⟩ : ∃ E, E = wrongE L who cur amt av := ⟨_, rfl⟩
          rw [← hE] at ask0
          have HE := Lib.hid hE
          clear hE
          go_wp2_with fail
          refine ask0.mono ?_
          clear ask0
          rintro e w3 ⟨a7, n7, c7, rfl, ho7, hb3⟩
          obtain ⟨e0, e1, e2, e3, e4⟩ := HD.out _ (HC2.out.next hb3)
          clear d0 d1 d2 d3 d4
          have HX := Lib.hid (ho7.base HB2.out.size)
          have HLL3 := Lib.hid (HLL.out.below hb3)
          have HB3 := Lib.hid (HB2.out.trans (hb3.mono HB2.out.size))
          clear ho7 hb3
          have d2 := e2
          have d3 := e3
          have d4 := e4
          clear e0 e1 e2 e3 e4
          by_cases hz : E = 0
          · subst hz
            obtain ⟨_, harg⟩ := wrongE_zero HE.out.symm
            have hL2 : askL L who cur amt av = putL L who cur amt av := by unfold askL; rw [if_pos HE.out.symm]
            rw [hL2] at HX
            have HG2 := Lib.hid (put_goods HG.out harg)
            have HKP := Lib.hid (kept_put HG.out who cur amt av)
            have cOf := fun w h => Of_any w who cur (.slice a7 n7 c7) (putL L who cur amt av) h (by have := goods_len HG2.out; omega)
            rw [ofL_put HG.out harg] at cOf
            clear hL2 harg
            go_wp2_with fail
            refine wp_region_bl 16 (by kernel_rfl) ?_
            refine wpAnyU_take (i := 0) (oi := { dst := some 65, op := Op.move (Operand.tmp 8), type := 33, pos := "law.go:83", after := #[], guard := none }) (v := (.int .i64 0)) rfl (by kernel_rfl) (by kernel_rfl) (by kernel_rfl) (by kernel_rfl) (by kernel_rfl) (fun _ _ _ h => h) (BL.cls w3) ?_ ?_
            · refine Or.inl ⟨rfl, fun w hSw => ?_⟩
              exact EffR.same (by go_simp)
            try simp only [Act.put, List.setIfInBounds_toArray, List.set_cons_zero, List.set_cons_succ]
            refine wpAnyU_take (i := 1) (oi := { dst := some 66, op := Op.binOp BinOp.eql 33 (Operand.tmp 65) (Operand.const (Value.int IntKind.i64 0)) 33, type := 4, pos := "law.go:83", after := #[{ on := 0, ground := Ground.data }], guard := none }) (v := (.bool true)) rfl (by kernel_rfl) (by kernel_rfl) (by kernel_rfl) (by kernel_rfl) (by kernel_rfl) (fun _ _ _ h => h) (BL.cls w3) ?_ ?_
            · refine Or.inl ⟨rfl, fun w hSw => ?_⟩
              exact EffR.same (by go_simp)
            try simp only [Act.put, List.setIfInBounds_toArray, List.set_cons_zero, List.set_cons_succ]
            refine wpAnyU_take (i := 2) (oi := { dst := some 67, op := Op.move (Operand.tmp 66), type := 4, pos := "law.go:83", after := #[{ on := 1, ground := Ground.data }], guard := none }) (v := (.bool true)) rfl (by kernel_rfl) (by kernel_rfl) (by kernel_rfl) (by kernel_rfl) (by kernel_rfl) (fun _ _ _ h => h) (BL.cls w3) ?_ ?_
            · refine Or.inl ⟨rfl, fun w hSw => ?_⟩
              exact EffR.same (by go_simp)
            try simp only [Act.put, List.setIfInBounds_toArray, List.set_cons_zero, List.set_cons_succ]
            refine wpAnyU_take (i := 3) (oi := { dst := some 68, op := Op.fieldAddr 44 (Operand.tmp 5) 2, type := 0, pos := "law.go:83", after := #[{ on := 2, ground := Ground.guard }], guard := some (2, true) }) (v := (.pointer (some ⟨ga, 2, none⟩))) rfl (by kernel_rfl) (by kernel_rfl) (by kernel_rfl) (by kernel_rfl) (by kernel_rfl) (fun _ _ _ h => h) (BL.cls w3) ?_ ?_
            · refine Or.inl ⟨rfl, fun w hSw => ?_⟩
              exact EffR.same (by go_simp)
            try simp only [Act.put, List.setIfInBounds_toArray, List.set_cons_zero, List.set_cons_succ]
            refine wpAnyU_take (i := 4) (oi := { dst := some 69, op := Op.fieldAddr 26 (Operand.tmp 68) 0, type := 0, pos := "law.go:83", after := #[{ on := 3, ground := Ground.data }, { on := 2, ground := Ground.guard }], guard := some (2, true) }) (v := (.pointer (some ⟨ga, 2, none⟩))) rfl (by kernel_rfl) (by kernel_rfl) (by kernel_rfl) (by kernel_rfl) (by kernel_rfl) (fun _ _ _ h => h) (BL.cls w3) ?_ ?_
            · refine Or.inl ⟨rfl, fun w hSw => ?_⟩
              exact EffR.same (by go_simp)
            try simp only [Act.put, List.setIfInBounds_toArray, List.set_cons_zero, List.set_cons_succ]
            refine wpAnyU_take (i := 5) (oi := { dst := some 70, op := Op.load 3 (Operand.tmp 69), type := 3, pos := "law.go:83", after := #[{ on := 4, ground := Ground.data }, { on := 2, ground := Ground.guard }], guard := some (2, true) }) (v := (.int .i64 who)) rfl (by kernel_rfl) (by kernel_rfl) (by kernel_rfl) (by kernel_rfl) (by kernel_rfl) (fun _ _ _ h => h) (BL.cls w3) ?_ ?_
            · refine Or.inl ⟨rfl, fun w hSw => ?_⟩
              have e0 := BL.cell hSw d2
              exact EffR.same (by go_simp)
            try simp only [Act.put, List.setIfInBounds_toArray, List.set_cons_zero, List.set_cons_succ]
            refine wpAnyU_take (i := 6) (oi := { dst := some 71, op := Op.fieldAddr 44 (Operand.tmp 5) 2, type := 0, pos := "law.go:83", after := #[{ on := 2, ground := Ground.guard }], guard := some (2, true) }) (v := (.pointer (some ⟨ga, 2, none⟩))) rfl (by kernel_rfl) (by kernel_rfl) (by kernel_rfl) (by kernel_rfl) (by kernel_rfl) (fun _ _ _ h => h) (BL.cls w3) ?_ ?_
            · refine Or.inl ⟨rfl, fun w hSw => ?_⟩
              exact EffR.same (by go_simp)
            try simp only [Act.put, List.setIfInBounds_toArray, List.set_cons_zero, List.set_cons_succ]
            refine wpAnyU_take (i := 7) (oi := { dst := some 72, op := Op.fieldAddr 26 (Operand.tmp 71) 1, type := 0, pos := "law.go:83", after := #[{ on := 6, ground := Ground.data }, { on := 2, ground := Ground.guard }], guard := some (2, true) }) (v := (.pointer (some ⟨ga, 3, none⟩))) rfl (by kernel_rfl) (by kernel_rfl) (by kernel_rfl) (by kernel_rfl) (by kernel_rfl) (fun _ _ _ h => h) (BL.cls w3) ?_ ?_
            · refine Or.inl ⟨rfl, fun w hSw => ?_⟩
              exact EffR.same (by go_simp)
            try simp only [Act.put, List.setIfInBounds_toArray, List.set_cons_zero, List.set_cons_succ]
            refine wpAnyU_take (i := 8) (oi := { dst := some 73, op := Op.load 3 (Operand.tmp 72), type := 3, pos := "law.go:83", after := #[{ on := 7, ground := Ground.data }, { on := 2, ground := Ground.guard }], guard := some (2, true) }) (v := (.int .i64 cur)) rfl (by kernel_rfl) (by kernel_rfl) (by kernel_rfl) (by kernel_rfl) (by kernel_rfl) (fun _ _ _ h => h) (BL.cls w3) ?_ ?_
            · refine Or.inl ⟨rfl, fun w hSw => ?_⟩
              have e0 := BL.cell hSw d3
              exact EffR.same (by go_simp)
            try simp only [Act.put, List.setIfInBounds_toArray, List.set_cons_zero, List.set_cons_succ]
            refine wpAnyU_take (i := 9) (oi := { dst := some 74, op := Op.move (Operand.tmp 7), type := 22, pos := "law.go:83", after := #[{ on := 2, ground := Ground.guard }], guard := some (2, true) }) (v := (.slice a7 n7 c7)) rfl (by kernel_rfl) (by kernel_rfl) (by kernel_rfl) (by kernel_rfl) (by kernel_rfl) (fun _ _ _ h => h) (BL.cls w3) ?_ ?_
            · refine Or.inl ⟨rfl, fun w hSw => ?_⟩
              exact EffR.same (by go_simp)
            try simp only [Act.put, List.setIfInBounds_toArray, List.set_cons_zero, List.set_cons_succ]
            refine wpAnyU_take (i := 10) (oi := { dst := some 75, op := Op.call { callee := Callee.value (Operand.func 13), args := #[Operand.tmp 70, Operand.tmp 73, Operand.tmp 74], argTypes := #[3, 3, 22] }, type := 3, pos := "law.go:83", after := #[{ on := 5, ground := Ground.data }, { on := 8, ground := Ground.data }, { on := 9, ground := Ground.data }, { on := 2, ground := Ground.chain }, { on := 2, ground := Ground.guard }], guard := some (2, true) }) (v := (.int .i64 amt)) rfl (by kernel_rfl) (by kernel_rfl) (by kernel_rfl) (by kernel_rfl) (by kernel_rfl) (fun _ _ _ h => h) (BL.cls w3) ?_ ?_
            · refine Or.inl ⟨rfl, fun w hSw => ?_⟩
              go_simp
              show Calls _ _ _ _ _
              refine (cOf _ (HX.out.rs.mono hSw)).mono ?_
              rintro e w1 ⟨rfl, hb⟩
              exact ⟨rfl, hb⟩
            try simp only [Act.put, List.setIfInBounds_toArray, List.set_cons_zero, List.set_cons_succ]
            refine wpAnyU_take (i := 11) (oi := { dst := some 76, op := Op.fieldAddr 44 (Operand.tmp 5) 2, type := 0, pos := "law.go:83", after := #[{ on := 2, ground := Ground.guard }], guard := some (2, true) }) (v := (.pointer (some ⟨ga, 2, none⟩))) rfl (by kernel_rfl) (by kernel_rfl) (by kernel_rfl) (by kernel_rfl) (by kernel_rfl) (fun _ _ _ h => h) (BL.cls w3) ?_ ?_
            · refine Or.inl ⟨rfl, fun w hSw => ?_⟩
              exact EffR.same (by go_simp)
            try simp only [Act.put, List.setIfInBounds_toArray, List.set_cons_zero, List.set_cons_succ]
            refine wpAnyU_take (i := 12) (oi := { dst := some 77, op := Op.fieldAddr 26 (Operand.tmp 76) 2, type := 0, pos := "law.go:83", after := #[{ on := 11, ground := Ground.data }, { on := 2, ground := Ground.guard }], guard := some (2, true) }) (v := (.pointer (some ⟨ga, 4, none⟩))) rfl (by kernel_rfl) (by kernel_rfl) (by kernel_rfl) (by kernel_rfl) (by kernel_rfl) (fun _ _ _ h => h) (BL.cls w3) ?_ ?_
            · refine Or.inl ⟨rfl, fun w hSw => ?_⟩
              exact EffR.same (by go_simp)
            try simp only [Act.put, List.setIfInBounds_toArray, List.set_cons_zero, List.set_cons_succ]
            refine wpAnyU_take (i := 13) (oi := { dst := some 78, op := Op.load 3 (Operand.tmp 77), type := 3, pos := "law.go:83", after := #[{ on := 12, ground := Ground.data }, { on := 2, ground := Ground.guard }], guard := some (2, true) }) (v := (.int .i64 amt)) rfl (by kernel_rfl) (by kernel_rfl) (by kernel_rfl) (by kernel_rfl) (by kernel_rfl) (fun _ _ _ h => h) (BL.cls w3) ?_ ?_
            · refine Or.inl ⟨rfl, fun w hSw => ?_⟩
              have e0 := BL.cell hSw d4
              exact EffR.same (by go_simp)
            try simp only [Act.put, List.setIfInBounds_toArray, List.set_cons_zero, List.set_cons_succ]
            refine wpAnyU_take (i := 14) (oi := { dst := some 79, op := Op.binOp BinOp.neq 3 (Operand.tmp 75) (Operand.tmp 78) 3, type := 4, pos := "law.go:83", after := #[{ on := 10, ground := Ground.data }, { on := 13, ground := Ground.data }, { on := 2, ground := Ground.guard }], guard := some (2, true) }) (v := (.bool false)) rfl (by kernel_rfl) (by kernel_rfl) (by kernel_rfl) (by kernel_rfl) (by kernel_rfl) (fun _ _ _ h => h) (BL.cls w3) ?_ ?_
            · refine Or.inl ⟨rfl, fun w hSw => ?_⟩
              exact EffR.same (by go_simp)
            try simp only [Act.put, List.setIfInBounds_toArray, List.set_cons_zero, List.set_cons_succ]
            refine wpAnyU_take (i := 15) (oi := { dst := some 80, op := Op.pick (Operand.tmp 67) (Operand.tmp 79) (Operand.const (Value.bool false)), type := 4, pos := "law.go:83", after := #[{ on := 2, ground := Ground.data }, { on := 14, ground := Ground.data }], guard := none }) (v := (.bool false)) rfl (by kernel_rfl) (by kernel_rfl) (by kernel_rfl) (by kernel_rfl) (by kernel_rfl) (fun _ _ _ h => h) (BL.cls w3) ?_ ?_
            · refine Or.inl ⟨rfl, fun w hSw => ?_⟩
              exact EffR.same (by go_simp)
            try simp only [Act.put, List.setIfInBounds_toArray, List.set_cons_zero, List.set_cons_succ]
            refine wpAnyU_done (by kernel_rfl) (fun w1 hb1 => ?_) _
            have HXn := Lib.hid (HX.out.below hb1)
            have HLLn := Lib.hid (HLL3.out.below hb1)
            have HBn := Lib.hid (HB3.out.trans (hb1.mono HB3.out.size))
            clear HX HLL3 HB3 hb1 cOf d2 d3 d4
            have ch := Check_any w1 (.slice a7 n7 c7) (putL L who cur amt av) HXn.out.rs (by have := goods_len HG2.out; omega)
            rw [(chkE_goods _).2 HG2.out] at ch
            go_wp2_with fail
            refine ch.mono ?_
            clear ch
            rintro e wt ⟨rfl, hbt⟩
            have HX2 := Lib.hid (HXn.out.below hbt)
            have HLT := Lib.hid (HLLn.out.below hbt)
            have HBT := Lib.hid (HBn.out.trans (hbt.mono HBn.out.size))
            clear hbt
            have kp := kept_any wt _ _ L (putL L who cur amt av) HLT.out.rs HX2.out.rs (by have := HLE.out; omega) (by have := goods_len HG2.out; omega) HKP.out
            go_wp2_with fail
            refine kp.mono ?_
            clear kp
            rintro e wu ⟨rfl, hbu⟩
            have HX3 := Lib.hid (HX2.out.below hbu)
            have HBU := Lib.hid (HBT.out.trans (hbu.mono HBT.out.size))
            clear hbu
            go_wp2_with fail
            exact ⟨⟨k + 1, (putL L who cur amt av), a7, n7, c7, by omega, by push_cast; rfl, rfl, HX3.out, HG2.out, HBU.out⟩, by simp [intOf]; omega⟩
          · have hL2 : askL L who cur amt av = [] := by unfold askL; rw [if_neg (fun e => hz (HE.out.trans e))]
            rw [hL2] at HX
            obtain rfl : n7 = 0 := own_len HX.out
            have hz1 : (E == 0) = false := by simpa using hz
            have hz2 : (E != 0) = true := by simpa using hz
            clear hL2 hz
            go_wp2_with fail
            refine wp_region_bl 16 (by kernel_rfl) ?_
            refine wpAnyU_take (i := 0) (oi := { dst := some 65, op := Op.move (Operand.tmp 8), type := 33, pos := "law.go:83", after := #[], guard := none }) (v := (.int .i64 E)) rfl (by kernel_rfl) (by kernel_rfl) (by kernel_rfl) (by kernel_rfl) (by kernel_rfl) (fun _ _ _ h => h) (BL.cls w3) ?_ ?_
            · refine Or.inl ⟨rfl, fun w hSw => ?_⟩
              exact EffR.same (by go_simp)
            try simp only [Act.put, List.setIfInBounds_toArray, List.set_cons_zero, List.set_cons_succ]
            refine wpAnyU_take (i := 1) (oi := { dst := some 66, op := Op.binOp BinOp.eql 33 (Operand.tmp 65) (Operand.const (Value.int IntKind.i64 0)) 33, type := 4, pos := "law.go:83", after := #[{ on := 0, ground := Ground.data }], guard := none }) (v := (.bool false)) rfl (by kernel_rfl) (by kernel_rfl) (by kernel_rfl) (by kernel_rfl) (by kernel_rfl) (fun _ _ _ h => h) (BL.cls w3) ?_ ?_
            · refine Or.inl ⟨rfl, fun w hSw => ?_⟩
              exact EffR.same (by go_simp)
            try simp only [Act.put, List.setIfInBounds_toArray, List.set_cons_zero, List.set_cons_succ]
            refine wpAnyU_take (i := 2) (oi := { dst := some 67, op := Op.move (Operand.tmp 66), type := 4, pos := "law.go:83", after := #[{ on := 1, ground := Ground.data }], guard := none }) (v := (.bool false)) rfl (by kernel_rfl) (by kernel_rfl) (by kernel_rfl) (by kernel_rfl) (by kernel_rfl) (fun _ _ _ h => h) (BL.cls w3) ?_ ?_
            · refine Or.inl ⟨rfl, fun w hSw => ?_⟩
              exact EffR.same (by go_simp)
            try simp only [Act.put, List.setIfInBounds_toArray, List.set_cons_zero, List.set_cons_succ]
            refine wpAnyU_take (i := 3) (oi := { dst := some 68, op := Op.fieldAddr 44 (Operand.tmp 5) 2, type := 0, pos := "law.go:83", after := #[{ on := 2, ground := Ground.guard }], guard := some (2, true) }) (v := undef) rfl (by kernel_rfl) (by kernel_rfl) (by kernel_rfl) (by kernel_rfl) (by kernel_rfl) (fun _ _ _ h => h) (BL.cls w3) ?_ ?_
            · exact Or.inr ⟨rfl, rfl⟩
            try simp only [Act.put, List.setIfInBounds_toArray, List.set_cons_zero, List.set_cons_succ]
            refine wpAnyU_take (i := 4) (oi := { dst := some 69, op := Op.fieldAddr 26 (Operand.tmp 68) 0, type := 0, pos := "law.go:83", after := #[{ on := 3, ground := Ground.data }, { on := 2, ground := Ground.guard }], guard := some (2, true) }) (v := undef) rfl (by kernel_rfl) (by kernel_rfl) (by kernel_rfl) (by kernel_rfl) (by kernel_rfl) (fun _ _ _ h => h) (BL.cls w3) ?_ ?_
            · exact Or.inr ⟨rfl, rfl⟩
            try simp only [Act.put, List.setIfInBounds_toArray, List.set_cons_zero, List.set_cons_succ]
            refine wpAnyU_take (i := 5) (oi := { dst := some 70, op := Op.load 3 (Operand.tmp 69), type := 3, pos := "law.go:83", after := #[{ on := 4, ground := Ground.data }, { on := 2, ground := Ground.guard }], guard := some (2, true) }) (v := undef) rfl (by kernel_rfl) (by kernel_rfl) (by kernel_rfl) (by kernel_rfl) (by kernel_rfl) (fun _ _ _ h => h) (BL.cls w3) ?_ ?_
            · exact Or.inr ⟨rfl, rfl⟩
            try simp only [Act.put, List.setIfInBounds_toArray, List.set_cons_zero, List.set_cons_succ]
            refine wpAnyU_take (i := 6) (oi := { dst := some 71, op := Op.fieldAddr 44 (Operand.tmp 5) 2, type := 0, pos := "law.go:83", after := #[{ on := 2, ground := Ground.guard }], guard := some (2, true) }) (v := undef) rfl (by kernel_rfl) (by kernel_rfl) (by kernel_rfl) (by kernel_rfl) (by kernel_rfl) (fun _ _ _ h => h) (BL.cls w3) ?_ ?_
            · exact Or.inr ⟨rfl, rfl⟩
            try simp only [Act.put, List.setIfInBounds_toArray, List.set_cons_zero, List.set_cons_succ]
            refine wpAnyU_take (i := 7) (oi := { dst := some 72, op := Op.fieldAddr 26 (Operand.tmp 71) 1, type := 0, pos := "law.go:83", after := #[{ on := 6, ground := Ground.data }, { on := 2, ground := Ground.guard }], guard := some (2, true) }) (v := undef) rfl (by kernel_rfl) (by kernel_rfl) (by kernel_rfl) (by kernel_rfl) (by kernel_rfl) (fun _ _ _ h => h) (BL.cls w3) ?_ ?_
            · exact Or.inr ⟨rfl, rfl⟩
            try simp only [Act.put, List.setIfInBounds_toArray, List.set_cons_zero, List.set_cons_succ]
            refine wpAnyU_take (i := 8) (oi := { dst := some 73, op := Op.load 3 (Operand.tmp 72), type := 3, pos := "law.go:83", after := #[{ on := 7, ground := Ground.data }, { on := 2, ground := Ground.guard }], guard := some (2, true) }) (v := undef) rfl (by kernel_rfl) (by kernel_rfl) (by kernel_rfl) (by kernel_rfl) (by kernel_rfl) (fun _ _ _ h => h) (BL.cls w3) ?_ ?_
            · exact Or.inr ⟨rfl, rfl⟩
            try simp only [Act.put, List.setIfInBounds_toArray, List.set_cons_zero, List.set_cons_succ]
            refine wpAnyU_take (i := 9) (oi := { dst := some 74, op := Op.move (Operand.tmp 7), type := 22, pos := "law.go:83", after := #[{ on := 2, ground := Ground.guard }], guard := some (2, true) }) (v := undef) rfl (by kernel_rfl) (by kernel_rfl) (by kernel_rfl) (by kernel_rfl) (by kernel_rfl) (fun _ _ _ h => h) (BL.cls w3) ?_ ?_
            · exact Or.inr ⟨rfl, rfl⟩
            try simp only [Act.put, List.setIfInBounds_toArray, List.set_cons_zero, List.set_cons_succ]
            refine wpAnyU_take (i := 10) (oi := { dst := some 75, op := Op.call { callee := Callee.value (Operand.func 13), args := #[Operand.tmp 70, Operand.tmp 73, Operand.tmp 74], argTypes := #[3, 3, 22] }, type := 3, pos := "law.go:83", after := #[{ on := 5, ground := Ground.data }, { on := 8, ground := Ground.data }, { on := 9, ground := Ground.data }, { on := 2, ground := Ground.chain }, { on := 2, ground := Ground.guard }], guard := some (2, true) }) (v := undef) rfl (by kernel_rfl) (by kernel_rfl) (by kernel_rfl) (by kernel_rfl) (by kernel_rfl) (fun _ _ _ h => h) (BL.cls w3) ?_ ?_
            · exact Or.inr ⟨rfl, rfl⟩
            try simp only [Act.put, List.setIfInBounds_toArray, List.set_cons_zero, List.set_cons_succ]
            refine wpAnyU_take (i := 11) (oi := { dst := some 76, op := Op.fieldAddr 44 (Operand.tmp 5) 2, type := 0, pos := "law.go:83", after := #[{ on := 2, ground := Ground.guard }], guard := some (2, true) }) (v := undef) rfl (by kernel_rfl) (by kernel_rfl) (by kernel_rfl) (by kernel_rfl) (by kernel_rfl) (fun _ _ _ h => h) (BL.cls w3) ?_ ?_
            · exact Or.inr ⟨rfl, rfl⟩
            try simp only [Act.put, List.setIfInBounds_toArray, List.set_cons_zero, List.set_cons_succ]
            refine wpAnyU_take (i := 12) (oi := { dst := some 77, op := Op.fieldAddr 26 (Operand.tmp 76) 2, type := 0, pos := "law.go:83", after := #[{ on := 11, ground := Ground.data }, { on := 2, ground := Ground.guard }], guard := some (2, true) }) (v := undef) rfl (by kernel_rfl) (by kernel_rfl) (by kernel_rfl) (by kernel_rfl) (by kernel_rfl) (fun _ _ _ h => h) (BL.cls w3) ?_ ?_
            · exact Or.inr ⟨rfl, rfl⟩
            try simp only [Act.put, List.setIfInBounds_toArray, List.set_cons_zero, List.set_cons_succ]
            refine wpAnyU_take (i := 13) (oi := { dst := some 78, op := Op.load 3 (Operand.tmp 77), type := 3, pos := "law.go:83", after := #[{ on := 12, ground := Ground.data }, { on := 2, ground := Ground.guard }], guard := some (2, true) }) (v := undef) rfl (by kernel_rfl) (by kernel_rfl) (by kernel_rfl) (by kernel_rfl) (by kernel_rfl) (fun _ _ _ h => h) (BL.cls w3) ?_ ?_
            · exact Or.inr ⟨rfl, rfl⟩
            try simp only [Act.put, List.setIfInBounds_toArray, List.set_cons_zero, List.set_cons_succ]
            refine wpAnyU_take (i := 14) (oi := { dst := some 79, op := Op.binOp BinOp.neq 3 (Operand.tmp 75) (Operand.tmp 78) 3, type := 4, pos := "law.go:83", after := #[{ on := 10, ground := Ground.data }, { on := 13, ground := Ground.data }, { on := 2, ground := Ground.guard }], guard := some (2, true) }) (v := undef) rfl (by kernel_rfl) (by kernel_rfl) (by kernel_rfl) (by kernel_rfl) (by kernel_rfl) (fun _ _ _ h => h) (BL.cls w3) ?_ ?_
            · exact Or.inr ⟨rfl, rfl⟩
            try simp only [Act.put, List.setIfInBounds_toArray, List.set_cons_zero, List.set_cons_succ]
            refine wpAnyU_take (i := 15) (oi := { dst := some 80, op := Op.pick (Operand.tmp 67) (Operand.tmp 79) (Operand.const (Value.bool false)), type := 4, pos := "law.go:83", after := #[{ on := 2, ground := Ground.data }, { on := 14, ground := Ground.data }], guard := none }) (v := (.bool false)) rfl (by kernel_rfl) (by kernel_rfl) (by kernel_rfl) (by kernel_rfl) (by kernel_rfl) (fun _ _ _ h => h) (BL.cls w3) ?_ ?_
            · refine Or.inl ⟨rfl, fun w hSw => ?_⟩
              exact EffR.same (by go_simp)
            try simp only [Act.put, List.setIfInBounds_toArray, List.set_cons_zero, List.set_cons_succ]
            refine wpAnyU_done (by kernel_rfl) (fun w1 hb1 => ?_) _
            have HLLn := Lib.hid (HLL3.out.below hb1)
            have HBn := Lib.hid (HB3.out.trans (hb1.mono HB3.out.size))
            clear hb1 d2 d3 d4
            go_wp2_with fail
            exact ⟨⟨k + 1, L, a3, n3, c3, by omega, by push_cast; rfl, rfl, HLLn.out, HG.out, HBn.out⟩, by simp [intOf]; omega⟩
        · have hr := HR.out.symm
          have HLE := Lib.hid (goods_len HG.out)
          have ask0 := Ask_any w2 _ L who cur amt av HLL.out.rs (by have := HLE.out; omega)
          obtain ⟨E, hE⟩ : ∃ E, E = wrongE L who cur amt av := ⟨_, rfl⟩
          rw [← hE] at ask0
          have HE := Lib.hid hE
          clear hE
          go_wp2_with fail
          refine ask0.mono ?_
          clear ask0
          rintro e w3 ⟨a7, n7, c7, rfl, ho7, hb3⟩
          obtain ⟨e0, e1, e2, e3, e4⟩ := HD.out _ (HC2.out.next hb3)
          clear d0 d1 d2 d3 d4
          have HX := Lib.hid (ho7.base HB2.out.size)
          have HLL3 := Lib.hid (HLL.out.below hb3)
          have HB3 := Lib.hid (HB2.out.trans (hb3.mono HB2.out.size))
          clear ho7 hb3
          have d2 := e2
          have d3 := e3
          have d4 := e4
          clear e0 e1 e2 e3 e4
          by_cases hz : E = 0
          · subst hz
            obtain ⟨_, harg⟩ := wrongE_zero HE.out.symm
            have hL2 : askL L who cur amt av = putL L who cur amt av := by unfold askL; rw [if_pos HE.out.symm]
            rw [hL2] at HX
            have HG2 := Lib.hid (put_goods HG.out harg)
            have HKP := Lib.hid (kept_put HG.out who cur amt av)
            have cOf := fun w h => Of_any w who cur (.slice a7 n7 c7) (putL L who cur amt av) h (by have := goods_len HG2.out; omega)
            rw [ofL_put HG.out harg] at cOf
            clear hL2 harg
            go_wp2_with fail
            refine wp_region_bl 16 (by kernel_rfl) ?_
            refine wpAnyU_take (i := 0) (oi := { dst := some 65, op := Op.move (Operand.tmp 8), type := 33, pos := "law.go:83", after := #[], guard := none }) (v := (.int .i64 0)) rfl (by kernel_rfl) (by kernel_rfl) (by kernel_rfl) (by kernel_rfl) (by kernel_rfl) (fun _ _ _ h => h) (BL.cls w3) ?_ ?_
            · refine Or.inl ⟨rfl, fun w hSw => ?_⟩
              exact EffR.same (by go_simp)
            try simp only [Act.put, List.setIfInBounds_toArray, List.set_cons_zero, List.set_cons_succ]
            refine wpAnyU_take (i := 1) (oi := { dst := some 66, op := Op.binOp BinOp.eql 33 (Operand.tmp 65) (Operand.const (Value.int IntKind.i64 0)) 33, type := 4, pos := "law.go:83", after := #[{ on := 0, ground := Ground.data }], guard := none }) (v := (.bool true)) rfl (by kernel_rfl) (by kernel_rfl) (by kernel_rfl) (by kernel_rfl) (by kernel_rfl) (fun _ _ _ h => h) (BL.cls w3) ?_ ?_
            · refine Or.inl ⟨rfl, fun w hSw => ?_⟩
              exact EffR.same (by go_simp)
            try simp only [Act.put, List.setIfInBounds_toArray, List.set_cons_zero, List.set_cons_succ]
            refine wpAnyU_take (i := 2) (oi := { dst := some 67, op := Op.move (Operand.tmp 66), type := 4, pos := "law.go:83", after := #[{ on := 1, ground := Ground.data }], guard := none }) (v := (.bool true)) rfl (by kernel_rfl) (by kernel_rfl) (by kernel_rfl) (by kernel_rfl) (by kernel_rfl) (fun _ _ _ h => h) (BL.cls w3) ?_ ?_
            · refine Or.inl ⟨rfl, fun w hSw => ?_⟩
              exact EffR.same (by go_simp)
            try simp only [Act.put, List.setIfInBounds_toArray, List.set_cons_zero, List.set_cons_succ]
            refine wpAnyU_take (i := 3) (oi := { dst := some 68, op := Op.fieldAddr 44 (Operand.tmp 5) 2, type := 0, pos := "law.go:83", after := #[{ on := 2, ground := Ground.guard }], guard := some (2, true) }) (v := (.pointer (some ⟨ga, 2, none⟩))) rfl (by kernel_rfl) (by kernel_rfl) (by kernel_rfl) (by kernel_rfl) (by kernel_rfl) (fun _ _ _ h => h) (BL.cls w3) ?_ ?_
            · refine Or.inl ⟨rfl, fun w hSw => ?_⟩
              exact EffR.same (by go_simp)
            try simp only [Act.put, List.setIfInBounds_toArray, List.set_cons_zero, List.set_cons_succ]
            refine wpAnyU_take (i := 4) (oi := { dst := some 69, op := Op.fieldAddr 26 (Operand.tmp 68) 0, type := 0, pos := "law.go:83", after := #[{ on := 3, ground := Ground.data }, { on := 2, ground := Ground.guard }], guard := some (2, true) }) (v := (.pointer (some ⟨ga, 2, none⟩))) rfl (by kernel_rfl) (by kernel_rfl) (by kernel_rfl) (by kernel_rfl) (by kernel_rfl) (fun _ _ _ h => h) (BL.cls w3) ?_ ?_
            · refine Or.inl ⟨rfl, fun w hSw => ?_⟩
              exact EffR.same (by go_simp)
            try simp only [Act.put, List.setIfInBounds_toArray, List.set_cons_zero, List.set_cons_succ]
            refine wpAnyU_take (i := 5) (oi := { dst := some 70, op := Op.load 3 (Operand.tmp 69), type := 3, pos := "law.go:83", after := #[{ on := 4, ground := Ground.data }, { on := 2, ground := Ground.guard }], guard := some (2, true) }) (v := (.int .i64 who)) rfl (by kernel_rfl) (by kernel_rfl) (by kernel_rfl) (by kernel_rfl) (by kernel_rfl) (fun _ _ _ h => h) (BL.cls w3) ?_ ?_
            · refine Or.inl ⟨rfl, fun w hSw => ?_⟩
              have e0 := BL.cell hSw d2
              exact EffR.same (by go_simp)
            try simp only [Act.put, List.setIfInBounds_toArray, List.set_cons_zero, List.set_cons_succ]
            refine wpAnyU_take (i := 6) (oi := { dst := some 71, op := Op.fieldAddr 44 (Operand.tmp 5) 2, type := 0, pos := "law.go:83", after := #[{ on := 2, ground := Ground.guard }], guard := some (2, true) }) (v := (.pointer (some ⟨ga, 2, none⟩))) rfl (by kernel_rfl) (by kernel_rfl) (by kernel_rfl) (by kernel_rfl) (by kernel_rfl) (fun _ _ _ h => h) (BL.cls w3) ?_ ?_
            · refine Or.inl ⟨rfl, fun w hSw => ?_⟩
              exact EffR.same (by go_simp)
            try simp only [Act.put, List.setIfInBounds_toArray, List.set_cons_zero, List.set_cons_succ]
            refine wpAnyU_take (i := 7) (oi := { dst := some 72, op := Op.fieldAddr 26 (Operand.tmp 71) 1, type := 0, pos := "law.go:83", after := #[{ on := 6, ground := Ground.data }, { on := 2, ground := Ground.guard }], guard := some (2, true) }) (v := (.pointer (some ⟨ga, 3, none⟩))) rfl (by kernel_rfl) (by kernel_rfl) (by kernel_rfl) (by kernel_rfl) (by kernel_rfl) (fun _ _ _ h => h) (BL.cls w3) ?_ ?_
            · refine Or.inl ⟨rfl, fun w hSw => ?_⟩
              exact EffR.same (by go_simp)
            try simp only [Act.put, List.setIfInBounds_toArray, List.set_cons_zero, List.set_cons_succ]
            refine wpAnyU_take (i := 8) (oi := { dst := some 73, op := Op.load 3 (Operand.tmp 72), type := 3, pos := "law.go:83", after := #[{ on := 7, ground := Ground.data }, { on := 2, ground := Ground.guard }], guard := some (2, true) }) (v := (.int .i64 cur)) rfl (by kernel_rfl) (by kernel_rfl) (by kernel_rfl) (by kernel_rfl) (by kernel_rfl) (fun _ _ _ h => h) (BL.cls w3) ?_ ?_
            · refine Or.inl ⟨rfl, fun w hSw => ?_⟩
              have e0 := BL.cell hSw d3
              exact EffR.same (by go_simp)
            try simp only [Act.put, List.setIfInBounds_toArray, List.set_cons_zero, List.set_cons_succ]
            refine wpAnyU_take (i := 9) (oi := { dst := some 74, op := Op.move (Operand.tmp 7), type := 22, pos := "law.go:83", after := #[{ on := 2, ground := Ground.guard }], guard := some (2, true) }) (v := (.slice a7 n7 c7)) rfl (by kernel_rfl) (by kernel_rfl) (by kernel_rfl) (by kernel_rfl) (by kernel_rfl) (fun _ _ _ h => h) (BL.cls w3) ?_ ?_
            · refine Or.inl ⟨rfl, fun w hSw => ?_⟩
              exact EffR.same (by go_simp)
            try simp only [Act.put, List.setIfInBounds_toArray, List.set_cons_zero, List.set_cons_succ]
            refine wpAnyU_take (i := 10) (oi := { dst := some 75, op := Op.call { callee := Callee.value (Operand.func 13), args := #[Operand.tmp 70, Operand.tmp 73, Operand.tmp 74], argTypes := #[3, 3, 22] }, type := 3, pos := "law.go:83", after := #[{ on := 5, ground := Ground.data }, { on := 8, ground := Ground.data }, { on := 9, ground := Ground.data }, { on := 2, ground := Ground.chain }, { on := 2, ground := Ground.guard }], guard := some (2, true) }) (v := (.int .i64 amt)) rfl (by kernel_rfl) (by kernel_rfl) (by kernel_rfl) (by kernel_rfl) (by kernel_rfl) (fun _ _ _ h => h) (BL.cls w3) ?_ ?_
            · refine Or.inl ⟨rfl, fun w hSw => ?_⟩
              go_simp
              show Calls _ _ _ _ _
              refine (cOf _ (HX.out.rs.mono hSw)).mono ?_
              rintro e w1 ⟨rfl, hb⟩
              exact ⟨rfl, hb⟩
            try simp only [Act.put, List.setIfInBounds_toArray, List.set_cons_zero, List.set_cons_succ]
            refine wpAnyU_take (i := 11) (oi := { dst := some 76, op := Op.fieldAddr 44 (Operand.tmp 5) 2, type := 0, pos := "law.go:83", after := #[{ on := 2, ground := Ground.guard }], guard := some (2, true) }) (v := (.pointer (some ⟨ga, 2, none⟩))) rfl (by kernel_rfl) (by kernel_rfl) (by kernel_rfl) (by kernel_rfl) (by kernel_rfl) (fun _ _ _ h => h) (BL.cls w3) ?_ ?_
            · refine Or.inl ⟨rfl, fun w hSw => ?_⟩
              exact EffR.same (by go_simp)
            try simp only [Act.put, List.setIfInBounds_toArray, List.set_cons_zero, List.set_cons_succ]
            refine wpAnyU_take (i := 12) (oi := { dst := some 77, op := Op.fieldAddr 26 (Operand.tmp 76) 2, type := 0, pos := "law.go:83", after := #[{ on := 11, ground := Ground.data }, { on := 2, ground := Ground.guard }], guard := some (2, true) }) (v := (.pointer (some ⟨ga, 4, none⟩))) rfl (by kernel_rfl) (by kernel_rfl) (by kernel_rfl) (by kernel_rfl) (by kernel_rfl) (fun _ _ _ h => h) (BL.cls w3) ?_ ?_
            · refine Or.inl ⟨rfl, fun w hSw => ?_⟩
              exact EffR.same (by go_simp)
            try simp only [Act.put, List.setIfInBounds_toArray, List.set_cons_zero, List.set_cons_succ]
            refine wpAnyU_take (i := 13) (oi := { dst := some 78, op := Op.load 3 (Operand.tmp 77), type := 3, pos := "law.go:83", after := #[{ on := 12, ground := Ground.data }, { on := 2, ground := Ground.guard }], guard := some (2, true) }) (v := (.int .i64 amt)) rfl (by kernel_rfl) (by kernel_rfl) (by kernel_rfl) (by kernel_rfl) (by kernel_rfl) (fun _ _ _ h => h) (BL.cls w3) ?_ ?_
            · refine Or.inl ⟨rfl, fun w hSw => ?_⟩
              have e0 := BL.cell hSw d4
              exact EffR.same (by go_simp)
            try simp only [Act.put, List.setIfInBounds_toArray, List.set_cons_zero, List.set_cons_succ]
            refine wpAnyU_take (i := 14) (oi := { dst := some 79, op := Op.binOp BinOp.neq 3 (Operand.tmp 75) (Operand.tmp 78) 3, type := 4, pos := "law.go:83", after := #[{ on := 10, ground := Ground.data }, { on := 13, ground := Ground.data }, { on := 2, ground := Ground.guard }], guard := some (2, true) }) (v := (.bool false)) rfl (by kernel_rfl) (by kernel_rfl) (by kernel_rfl) (by kernel_rfl) (by kernel_rfl) (fun _ _ _ h => h) (BL.cls w3) ?_ ?_
            · refine Or.inl ⟨rfl, fun w hSw => ?_⟩
              exact EffR.same (by go_simp)
            try simp only [Act.put, List.setIfInBounds_toArray, List.set_cons_zero, List.set_cons_succ]
            refine wpAnyU_take (i := 15) (oi := { dst := some 80, op := Op.pick (Operand.tmp 67) (Operand.tmp 79) (Operand.const (Value.bool false)), type := 4, pos := "law.go:83", after := #[{ on := 2, ground := Ground.data }, { on := 14, ground := Ground.data }], guard := none }) (v := (.bool false)) rfl (by kernel_rfl) (by kernel_rfl) (by kernel_rfl) (by kernel_rfl) (by kernel_rfl) (fun _ _ _ h => h) (BL.cls w3) ?_ ?_
            · refine Or.inl ⟨rfl, fun w hSw => ?_⟩
              exact EffR.same (by go_simp)
            try simp only [Act.put, List.setIfInBounds_toArray, List.set_cons_zero, List.set_cons_succ]
            refine wpAnyU_done (by kernel_rfl) (fun w1 hb1 => ?_) _
            have HXn := Lib.hid (HX.out.below hb1)
            have HLLn := Lib.hid (HLL3.out.below hb1)
            have HBn := Lib.hid (HB3.out.trans (hb1.mono HB3.out.size))
            clear HX HLL3 HB3 hb1 cOf d2 d3 d4
            have ch := Check_any w1 (.slice a7 n7 c7) (putL L who cur amt av) HXn.out.rs (by have := goods_len HG2.out; omega)
            rw [(chkE_goods _).2 HG2.out] at ch
            go_wp2_with fail
            refine ch.mono ?_
            clear ch
            rintro e wt ⟨rfl, hbt⟩
            have HX2 := Lib.hid (HXn.out.below hbt)
            have HLT := Lib.hid (HLLn.out.below hbt)
            have HBT := Lib.hid (HBn.out.trans (hbt.mono HBn.out.size))
            clear hbt
            have kp := kept_any wt _ _ L (putL L who cur amt av) HLT.out.rs HX2.out.rs (by have := HLE.out; omega) (by have := goods_len HG2.out; omega) HKP.out
            go_wp2_with fail
            refine kp.mono ?_
            clear kp
            rintro e wu ⟨rfl, hbu⟩
            have HX3 := Lib.hid (HX2.out.below hbu)
            have HBU := Lib.hid (HBT.out.trans (hbu.mono HBT.out.size))
            clear hbu
            go_wp2_with fail
            exact ⟨⟨k + 1, (putL L who cur amt av), a7, n7, c7, by omega, by push_cast; rfl, rfl, HX3.out, HG2.out, HBU.out⟩, by simp [intOf]; omega⟩
          · have hL2 : askL L who cur amt av = [] := by unfold askL; rw [if_neg (fun e => hz (HE.out.trans e))]
            rw [hL2] at HX
            obtain rfl : n7 = 0 := own_len HX.out
            have hz1 : (E == 0) = false := by simpa using hz
            have hz2 : (E != 0) = true := by simpa using hz
            clear hL2 hz
            go_wp2_with fail
            refine wp_region_bl 16 (by kernel_rfl) ?_
            refine wpAnyU_take (i := 0) (oi := { dst := some 65, op := Op.move (Operand.tmp 8), type := 33, pos := "law.go:83", after := #[], guard := none }) (v := (.int .i64 E)) rfl (by kernel_rfl) (by kernel_rfl) (by kernel_rfl) (by kernel_rfl) (by kernel_rfl) (fun _ _ _ h => h) (BL.cls w3) ?_ ?_
            · refine Or.inl ⟨rfl, fun w hSw => ?_⟩
              exact EffR.same (by go_simp)
            try simp only [Act.put, List.setIfInBounds_toArray, List.set_cons_zero, List.set_cons_succ]
            refine wpAnyU_take (i := 1) (oi := { dst := some 66, op := Op.binOp BinOp.eql 33 (Operand.tmp 65) (Operand.const (Value.int IntKind.i64 0)) 33, type := 4, pos := "law.go:83", after := #[{ on := 0, ground := Ground.data }], guard := none }) (v := (.bool false)) rfl (by kernel_rfl) (by kernel_rfl) (by kernel_rfl) (by kernel_rfl) (by kernel_rfl) (fun _ _ _ h => h) (BL.cls w3) ?_ ?_
            · refine Or.inl ⟨rfl, fun w hSw => ?_⟩
              exact EffR.same (by go_simp)
            try simp only [Act.put, List.setIfInBounds_toArray, List.set_cons_zero, List.set_cons_succ]
            refine wpAnyU_take (i := 2) (oi := { dst := some 67, op := Op.move (Operand.tmp 66), type := 4, pos := "law.go:83", after := #[{ on := 1, ground := Ground.data }], guard := none }) (v := (.bool false)) rfl (by kernel_rfl) (by kernel_rfl) (by kernel_rfl) (by kernel_rfl) (by kernel_rfl) (fun _ _ _ h => h) (BL.cls w3) ?_ ?_
            · refine Or.inl ⟨rfl, fun w hSw => ?_⟩
              exact EffR.same (by go_simp)
            try simp only [Act.put, List.setIfInBounds_toArray, List.set_cons_zero, List.set_cons_succ]
            refine wpAnyU_take (i := 3) (oi := { dst := some 68, op := Op.fieldAddr 44 (Operand.tmp 5) 2, type := 0, pos := "law.go:83", after := #[{ on := 2, ground := Ground.guard }], guard := some (2, true) }) (v := undef) rfl (by kernel_rfl) (by kernel_rfl) (by kernel_rfl) (by kernel_rfl) (by kernel_rfl) (fun _ _ _ h => h) (BL.cls w3) ?_ ?_
            · exact Or.inr ⟨rfl, rfl⟩
            try simp only [Act.put, List.setIfInBounds_toArray, List.set_cons_zero, List.set_cons_succ]
            refine wpAnyU_take (i := 4) (oi := { dst := some 69, op := Op.fieldAddr 26 (Operand.tmp 68) 0, type := 0, pos := "law.go:83", after := #[{ on := 3, ground := Ground.data }, { on := 2, ground := Ground.guard }], guard := some (2, true) }) (v := undef) rfl (by kernel_rfl) (by kernel_rfl) (by kernel_rfl) (by kernel_rfl) (by kernel_rfl) (fun _ _ _ h => h) (BL.cls w3) ?_ ?_
            · exact Or.inr ⟨rfl, rfl⟩
            try simp only [Act.put, List.setIfInBounds_toArray, List.set_cons_zero, List.set_cons_succ]
            refine wpAnyU_take (i := 5) (oi := { dst := some 70, op := Op.load 3 (Operand.tmp 69), type := 3, pos := "law.go:83", after := #[{ on := 4, ground := Ground.data }, { on := 2, ground := Ground.guard }], guard := some (2, true) }) (v := undef) rfl (by kernel_rfl) (by kernel_rfl) (by kernel_rfl) (by kernel_rfl) (by kernel_rfl) (fun _ _ _ h => h) (BL.cls w3) ?_ ?_
            · exact Or.inr ⟨rfl, rfl⟩
            try simp only [Act.put, List.setIfInBounds_toArray, List.set_cons_zero, List.set_cons_succ]
            refine wpAnyU_take (i := 6) (oi := { dst := some 71, op := Op.fieldAddr 44 (Operand.tmp 5) 2, type := 0, pos := "law.go:83", after := #[{ on := 2, ground := Ground.guard }], guard := some (2, true) }) (v := undef) rfl (by kernel_rfl) (by kernel_rfl) (by kernel_rfl) (by kernel_rfl) (by kernel_rfl) (fun _ _ _ h => h) (BL.cls w3) ?_ ?_
            · exact Or.inr ⟨rfl, rfl⟩
            try simp only [Act.put, List.setIfInBounds_toArray, List.set_cons_zero, List.set_cons_succ]
            refine wpAnyU_take (i := 7) (oi := { dst := some 72, op := Op.fieldAddr 26 (Operand.tmp 71) 1, type := 0, pos := "law.go:83", after := #[{ on := 6, ground := Ground.data }, { on := 2, ground := Ground.guard }], guard := some (2, true) }) (v := undef) rfl (by kernel_rfl) (by kernel_rfl) (by kernel_rfl) (by kernel_rfl) (by kernel_rfl) (fun _ _ _ h => h) (BL.cls w3) ?_ ?_
            · exact Or.inr ⟨rfl, rfl⟩
            try simp only [Act.put, List.setIfInBounds_toArray, List.set_cons_zero, List.set_cons_succ]
            refine wpAnyU_take (i := 8) (oi := { dst := some 73, op := Op.load 3 (Operand.tmp 72), type := 3, pos := "law.go:83", after := #[{ on := 7, ground := Ground.data }, { on := 2, ground := Ground.guard }], guard := some (2, true) }) (v := undef) rfl (by kernel_rfl) (by kernel_rfl) (by kernel_rfl) (by kernel_rfl) (by kernel_rfl) (fun _ _ _ h => h) (BL.cls w3) ?_ ?_
            · exact Or.inr ⟨rfl, rfl⟩
            try simp only [Act.put, List.setIfInBounds_toArray, List.set_cons_zero, List.set_cons_succ]
            refine wpAnyU_take (i := 9) (oi := { dst := some 74, op := Op.move (Operand.tmp 7), type := 22, pos := "law.go:83", after := #[{ on := 2, ground := Ground.guard }], guard := some (2, true) }) (v := undef) rfl (by kernel_rfl) (by kernel_rfl) (by kernel_rfl) (by kernel_rfl) (by kernel_rfl) (fun _ _ _ h => h) (BL.cls w3) ?_ ?_
            · exact Or.inr ⟨rfl, rfl⟩
            try simp only [Act.put, List.setIfInBounds_toArray, List.set_cons_zero, List.set_cons_succ]
            refine wpAnyU_take (i := 10) (oi := { dst := some 75, op := Op.call { callee := Callee.value (Operand.func 13), args := #[Operand.tmp 70, Operand.tmp 73, Operand.tmp 74], argTypes := #[3, 3, 22] }, type := 3, pos := "law.go:83", after := #[{ on := 5, ground := Ground.data }, { on := 8, ground := Ground.data }, { on := 9, ground := Ground.data }, { on := 2, ground := Ground.chain }, { on := 2, ground := Ground.guard }], guard := some (2, true) }) (v := undef) rfl (by kernel_rfl) (by kernel_rfl) (by kernel_rfl) (by kernel_rfl) (by kernel_rfl) (fun _ _ _ h => h) (BL.cls w3) ?_ ?_
            · exact Or.inr ⟨rfl, rfl⟩
            try simp only [Act.put, List.setIfInBounds_toArray, List.set_cons_zero, List.set_cons_succ]
            refine wpAnyU_take (i := 11) (oi := { dst := some 76, op := Op.fieldAddr 44 (Operand.tmp 5) 2, type := 0, pos := "law.go:83", after := #[{ on := 2, ground := Ground.guard }], guard := some (2, true) }) (v := undef) rfl (by kernel_rfl) (by kernel_rfl) (by kernel_rfl) (by kernel_rfl) (by kernel_rfl) (fun _ _ _ h => h) (BL.cls w3) ?_ ?_
            · exact Or.inr ⟨rfl, rfl⟩
            try simp only [Act.put, List.setIfInBounds_toArray, List.set_cons_zero, List.set_cons_succ]
            refine wpAnyU_take (i := 12) (oi := { dst := some 77, op := Op.fieldAddr 26 (Operand.tmp 76) 2, type := 0, pos := "law.go:83", after := #[{ on := 11, ground := Ground.data }, { on := 2, ground := Ground.guard }], guard := some (2, true) }) (v := undef) rfl (by kernel_rfl) (by kernel_rfl) (by kernel_rfl) (by kernel_rfl) (by kernel_rfl) (fun _ _ _ h => h) (BL.cls w3) ?_ ?_
            · exact Or.inr ⟨rfl, rfl⟩
            try simp only [Act.put, List.setIfInBounds_toArray, List.set_cons_zero, List.set_cons_succ]
            refine wpAnyU_take (i := 13) (oi := { dst := some 78, op := Op.load 3 (Operand.tmp 77), type := 3, pos := "law.go:83", after := #[{ on := 12, ground := Ground.data }, { on := 2, ground := Ground.guard }], guard := some (2, true) }) (v := undef) rfl (by kernel_rfl) (by kernel_rfl) (by kernel_rfl) (by kernel_rfl) (by kernel_rfl) (fun _ _ _ h => h) (BL.cls w3) ?_ ?_
            · exact Or.inr ⟨rfl, rfl⟩
            try simp only [Act.put, List.setIfInBounds_toArray, List.set_cons_zero, List.set_cons_succ]
            refine wpAnyU_take (i := 14) (oi := { dst := some 79, op := Op.binOp BinOp.neq 3 (Operand.tmp 75) (Operand.tmp 78) 3, type := 4, pos := "law.go:83", after := #[{ on := 10, ground := Ground.data }, { on := 13, ground := Ground.data }, { on := 2, ground := Ground.guard }], guard := some (2, true) }) (v := undef) rfl (by kernel_rfl) (by kernel_rfl) (by kernel_rfl) (by kernel_rfl) (by kernel_rfl) (fun _ _ _ h => h) (BL.cls w3) ?_ ?_
            · exact Or.inr ⟨rfl, rfl⟩
            try simp only [Act.put, List.setIfInBounds_toArray, List.set_cons_zero, List.set_cons_succ]
            refine wpAnyU_take (i := 15) (oi := { dst := some 80, op := Op.pick (Operand.tmp 67) (Operand.tmp 79) (Operand.const (Value.bool false)), type := 4, pos := "law.go:83", after := #[{ on := 2, ground := Ground.data }, { on := 14, ground := Ground.data }], guard := none }) (v := (.bool false)) rfl (by kernel_rfl) (by kernel_rfl) (by kernel_rfl) (by kernel_rfl) (by kernel_rfl) (fun _ _ _ h => h) (BL.cls w3) ?_ ?_
            · refine Or.inl ⟨rfl, fun w hSw => ?_⟩
              exact EffR.same (by go_simp)
            try simp only [Act.put, List.setIfInBounds_toArray, List.set_cons_zero, List.set_cons_succ]
            refine wpAnyU_done (by kernel_rfl) (fun w1 hb1 => ?_) _
            have HLLn := Lib.hid (HLL3.out.below hb1)
            have HBn := Lib.hid (HB3.out.trans (hb1.mono HB3.out.size))
            clear hb1 d2 d3 d4
            go_wp2_with fail
            exact ⟨⟨k + 1, L, a3, n3, c3, by omega, by push_cast; rfl, rfl, HLLn.out, HG.out, HBn.out⟩, by simp [intOf]; omega⟩
        · have hr := HR.out.symm
          have HLE := Lib.hid (goods_len HG.out)
          have ask0 := Meet_any w2 _ L who cur amt HLL.out.rs (by have := HLE.out; omega)
          obtain ⟨E, hE⟩ : ∃ E, E = wrongE L who cur amt 0 := ⟨_, rfl⟩
          rw [← hE] at ask0
          have HE := Lib.hid hE
          clear hE
          go_wp2_with fail
          refine ask0.mono ?_
          clear ask0
          rintro e w3 ⟨a7, n7, c7, rfl, ho7, hb3⟩
          obtain ⟨e0, e1, e2, e3, e4⟩ := HD.out _ (HC2.out.next hb3)
          clear d0 d1 d2 d3 d4
          have HX := Lib.hid (ho7.base HB2.out.size)
          have HLL3 := Lib.hid (HLL.out.below hb3)
          have HB3 := Lib.hid (HB2.out.trans (hb3.mono HB2.out.size))
          clear ho7 hb3
          have d2 := e2
          have d3 := e3
          have d4 := e4
          clear e0 e1 e2 e3 e4
          by_cases hz : E = 0
          · subst hz
            obtain ⟨_, harg⟩ := wrongE_zero HE.out.symm
            have hpar := (argB_parts harg).1.2
            have hmx := argB_max harg hovb.2
            have hL2 : meetL L who cur amt = putL L who cur (max (ov - amt) 0) 0 := by unfold meetL; rw [if_pos HE.out.symm, HOV.out]
            rw [hL2] at HX
            obtain ⟨mx, hm3⟩ : ∃ mx, mx = max (ov - amt) 0 := ⟨_, rfl⟩
            rw [← hm3] at HX hmx
            have HMX := Lib.hid hm3
            have HG2 := Lib.hid (put_goods HG.out hmx)
            have HKP := Lib.hid (kept_put HG.out who cur mx 0)
            have cOf := fun w h => Of_any w who cur (.slice a7 n7 c7) (putL L who cur mx 0) h (by have := goods_len HG2.out; omega)
            rw [ofL_put HG.out hmx] at cOf
            clear hL2 harg hm3 hmx
            go_wp2_with fail
            refine wp_region_bl 19 (by kernel_rfl) ?_
            refine wpAnyU_take (i := 0) (oi := { dst := some 91, op := Op.move (Operand.tmp 8), type := 33, pos := "law.go:88", after := #[], guard := none }) (v := (.int .i64 0)) rfl (by kernel_rfl) (by kernel_rfl) (by kernel_rfl) (by kernel_rfl) (by kernel_rfl) (fun _ _ _ h => h) (BL.cls w3) ?_ ?_
            · refine Or.inl ⟨rfl, fun w hSw => ?_⟩
              exact EffR.same (by go_simp)
            try simp only [Act.put, List.setIfInBounds_toArray, List.set_cons_zero, List.set_cons_succ]
            refine wpAnyU_take (i := 1) (oi := { dst := some 92, op := Op.binOp BinOp.eql 33 (Operand.tmp 91) (Operand.const (Value.int IntKind.i64 0)) 33, type := 4, pos := "law.go:88", after := #[{ on := 0, ground := Ground.data }], guard := none }) (v := (.bool true)) rfl (by kernel_rfl) (by kernel_rfl) (by kernel_rfl) (by kernel_rfl) (by kernel_rfl) (fun _ _ _ h => h) (BL.cls w3) ?_ ?_
            · refine Or.inl ⟨rfl, fun w hSw => ?_⟩
              exact EffR.same (by go_simp)
            try simp only [Act.put, List.setIfInBounds_toArray, List.set_cons_zero, List.set_cons_succ]
            refine wpAnyU_take (i := 2) (oi := { dst := some 93, op := Op.move (Operand.tmp 92), type := 4, pos := "law.go:88", after := #[{ on := 1, ground := Ground.data }], guard := none }) (v := (.bool true)) rfl (by kernel_rfl) (by kernel_rfl) (by kernel_rfl) (by kernel_rfl) (by kernel_rfl) (fun _ _ _ h => h) (BL.cls w3) ?_ ?_
            · refine Or.inl ⟨rfl, fun w hSw => ?_⟩
              exact EffR.same (by go_simp)
            try simp only [Act.put, List.setIfInBounds_toArray, List.set_cons_zero, List.set_cons_succ]
            refine wpAnyU_take (i := 3) (oi := { dst := some 94, op := Op.fieldAddr 44 (Operand.tmp 5) 2, type := 0, pos := "law.go:88", after := #[{ on := 2, ground := Ground.guard }], guard := some (2, true) }) (v := (.pointer (some ⟨ga, 2, none⟩))) rfl (by kernel_rfl) (by kernel_rfl) (by kernel_rfl) (by kernel_rfl) (by kernel_rfl) (fun _ _ _ h => h) (BL.cls w3) ?_ ?_
            · refine Or.inl ⟨rfl, fun w hSw => ?_⟩
              exact EffR.same (by go_simp)
            try simp only [Act.put, List.setIfInBounds_toArray, List.set_cons_zero, List.set_cons_succ]
            refine wpAnyU_take (i := 4) (oi := { dst := some 95, op := Op.fieldAddr 26 (Operand.tmp 94) 0, type := 0, pos := "law.go:88", after := #[{ on := 3, ground := Ground.data }, { on := 2, ground := Ground.guard }], guard := some (2, true) }) (v := (.pointer (some ⟨ga, 2, none⟩))) rfl (by kernel_rfl) (by kernel_rfl) (by kernel_rfl) (by kernel_rfl) (by kernel_rfl) (fun _ _ _ h => h) (BL.cls w3) ?_ ?_
            · refine Or.inl ⟨rfl, fun w hSw => ?_⟩
              exact EffR.same (by go_simp)
            try simp only [Act.put, List.setIfInBounds_toArray, List.set_cons_zero, List.set_cons_succ]
            refine wpAnyU_take (i := 5) (oi := { dst := some 96, op := Op.load 3 (Operand.tmp 95), type := 3, pos := "law.go:88", after := #[{ on := 4, ground := Ground.data }, { on := 2, ground := Ground.guard }], guard := some (2, true) }) (v := (.int .i64 who)) rfl (by kernel_rfl) (by kernel_rfl) (by kernel_rfl) (by kernel_rfl) (by kernel_rfl) (fun _ _ _ h => h) (BL.cls w3) ?_ ?_
            · refine Or.inl ⟨rfl, fun w hSw => ?_⟩
              have e0 := BL.cell hSw d2
              exact EffR.same (by go_simp)
            try simp only [Act.put, List.setIfInBounds_toArray, List.set_cons_zero, List.set_cons_succ]
            refine wpAnyU_take (i := 6) (oi := { dst := some 97, op := Op.fieldAddr 44 (Operand.tmp 5) 2, type := 0, pos := "law.go:88", after := #[{ on := 2, ground := Ground.guard }], guard := some (2, true) }) (v := (.pointer (some ⟨ga, 2, none⟩))) rfl (by kernel_rfl) (by kernel_rfl) (by kernel_rfl) (by kernel_rfl) (by kernel_rfl) (fun _ _ _ h => h) (BL.cls w3) ?_ ?_
            · refine Or.inl ⟨rfl, fun w hSw => ?_⟩
              exact EffR.same (by go_simp)
            try simp only [Act.put, List.setIfInBounds_toArray, List.set_cons_zero, List.set_cons_succ]
            refine wpAnyU_take (i := 7) (oi := { dst := some 98, op := Op.fieldAddr 26 (Operand.tmp 97) 1, type := 0, pos := "law.go:88", after := #[{ on := 6, ground := Ground.data }, { on := 2, ground := Ground.guard }], guard := some (2, true) }) (v := (.pointer (some ⟨ga, 3, none⟩))) rfl (by kernel_rfl) (by kernel_rfl) (by kernel_rfl) (by kernel_rfl) (by kernel_rfl) (fun _ _ _ h => h) (BL.cls w3) ?_ ?_
            · refine Or.inl ⟨rfl, fun w hSw => ?_⟩
              exact EffR.same (by go_simp)
            try simp only [Act.put, List.setIfInBounds_toArray, List.set_cons_zero, List.set_cons_succ]
            refine wpAnyU_take (i := 8) (oi := { dst := some 99, op := Op.load 3 (Operand.tmp 98), type := 3, pos := "law.go:88", after := #[{ on := 7, ground := Ground.data }, { on := 2, ground := Ground.guard }], guard := some (2, true) }) (v := (.int .i64 cur)) rfl (by kernel_rfl) (by kernel_rfl) (by kernel_rfl) (by kernel_rfl) (by kernel_rfl) (fun _ _ _ h => h) (BL.cls w3) ?_ ?_
            · refine Or.inl ⟨rfl, fun w hSw => ?_⟩
              have e0 := BL.cell hSw d3
              exact EffR.same (by go_simp)
            try simp only [Act.put, List.setIfInBounds_toArray, List.set_cons_zero, List.set_cons_succ]
            refine wpAnyU_take (i := 9) (oi := { dst := some 100, op := Op.move (Operand.tmp 7), type := 22, pos := "law.go:88", after := #[{ on := 2, ground := Ground.guard }], guard := some (2, true) }) (v := (.slice a7 n7 c7)) rfl (by kernel_rfl) (by kernel_rfl) (by kernel_rfl) (by kernel_rfl) (by kernel_rfl) (fun _ _ _ h => h) (BL.cls w3) ?_ ?_
            · refine Or.inl ⟨rfl, fun w hSw => ?_⟩
              exact EffR.same (by go_simp)
            try simp only [Act.put, List.setIfInBounds_toArray, List.set_cons_zero, List.set_cons_succ]
            refine wpAnyU_take (i := 10) (oi := { dst := some 101, op := Op.call { callee := Callee.value (Operand.func 13), args := #[Operand.tmp 96, Operand.tmp 99, Operand.tmp 100], argTypes := #[3, 3, 22] }, type := 3, pos := "law.go:88", after := #[{ on := 5, ground := Ground.data }, { on := 8, ground := Ground.data }, { on := 9, ground := Ground.data }, { on := 2, ground := Ground.chain }, { on := 2, ground := Ground.guard }], guard := some (2, true) }) (v := (.int .i64 mx)) rfl (by kernel_rfl) (by kernel_rfl) (by kernel_rfl) (by kernel_rfl) (by kernel_rfl) (fun _ _ _ h => h) (BL.cls w3) ?_ ?_
            · refine Or.inl ⟨rfl, fun w hSw => ?_⟩
              go_simp
              show Calls _ _ _ _ _
              refine (cOf _ (HX.out.rs.mono hSw)).mono ?_
              rintro e w1 ⟨rfl, hb⟩
              exact ⟨rfl, hb⟩
            try simp only [Act.put, List.setIfInBounds_toArray, List.set_cons_zero, List.set_cons_succ]
            refine wpAnyU_take (i := 11) (oi := { dst := some 102, op := Op.move (Operand.tmp 6), type := 3, pos := "law.go:88", after := #[{ on := 2, ground := Ground.guard }], guard := some (2, true) }) (v := (.int .i64 ov)) rfl (by kernel_rfl) (by kernel_rfl) (by kernel_rfl) (by kernel_rfl) (by kernel_rfl) (fun _ _ _ h => h) (BL.cls w3) ?_ ?_
            · refine Or.inl ⟨rfl, fun w hSw => ?_⟩
              exact EffR.same (by go_simp)
            try simp only [Act.put, List.setIfInBounds_toArray, List.set_cons_zero, List.set_cons_succ]
            refine wpAnyU_take (i := 12) (oi := { dst := some 103, op := Op.fieldAddr 44 (Operand.tmp 5) 2, type := 0, pos := "law.go:88", after := #[{ on := 2, ground := Ground.guard }], guard := some (2, true) }) (v := (.pointer (some ⟨ga, 2, none⟩))) rfl (by kernel_rfl) (by kernel_rfl) (by kernel_rfl) (by kernel_rfl) (by kernel_rfl) (fun _ _ _ h => h) (BL.cls w3) ?_ ?_
            · refine Or.inl ⟨rfl, fun w hSw => ?_⟩
              exact EffR.same (by go_simp)
            try simp only [Act.put, List.setIfInBounds_toArray, List.set_cons_zero, List.set_cons_succ]
            refine wpAnyU_take (i := 13) (oi := { dst := some 104, op := Op.fieldAddr 26 (Operand.tmp 103) 2, type := 0, pos := "law.go:88", after := #[{ on := 12, ground := Ground.data }, { on := 2, ground := Ground.guard }], guard := some (2, true) }) (v := (.pointer (some ⟨ga, 4, none⟩))) rfl (by kernel_rfl) (by kernel_rfl) (by kernel_rfl) (by kernel_rfl) (by kernel_rfl) (fun _ _ _ h => h) (BL.cls w3) ?_ ?_
            · refine Or.inl ⟨rfl, fun w hSw => ?_⟩
              exact EffR.same (by go_simp)
            try simp only [Act.put, List.setIfInBounds_toArray, List.set_cons_zero, List.set_cons_succ]
            refine wpAnyU_take (i := 14) (oi := { dst := some 105, op := Op.load 3 (Operand.tmp 104), type := 3, pos := "law.go:88", after := #[{ on := 13, ground := Ground.data }, { on := 2, ground := Ground.guard }], guard := some (2, true) }) (v := (.int .i64 amt)) rfl (by kernel_rfl) (by kernel_rfl) (by kernel_rfl) (by kernel_rfl) (by kernel_rfl) (fun _ _ _ h => h) (BL.cls w3) ?_ ?_
            · refine Or.inl ⟨rfl, fun w hSw => ?_⟩
              have e0 := BL.cell hSw d4
              exact EffR.same (by go_simp)
            try simp only [Act.put, List.setIfInBounds_toArray, List.set_cons_zero, List.set_cons_succ]
            refine wpAnyU_take (i := 15) (oi := { dst := some 106, op := Op.binOp BinOp.sub 3 (Operand.tmp 102) (Operand.tmp 105) 3, type := 3, pos := "law.go:88", after := #[{ on := 11, ground := Ground.data }, { on := 14, ground := Ground.data }, { on := 2, ground := Ground.guard }], guard := some (2, true) }) (v := (.int .i64 (ov - amt))) rfl (by kernel_rfl) (by kernel_rfl) (by kernel_rfl) (by kernel_rfl) (by kernel_rfl) (fun _ _ _ h => h) (BL.cls w3) ?_ ?_
            · refine Or.inl ⟨rfl, fun w hSw => ?_⟩
              exact EffR.same (by go_simp; exact IntWalk.i64_in _ (by omega))
            try simp only [Act.put, List.setIfInBounds_toArray, List.set_cons_zero, List.set_cons_succ]
            refine wpAnyU_take (i := 16) (oi := { dst := some 107, op := Op.call { callee := Callee.builtin Builtin.max, args := #[Operand.tmp 106, Operand.const (Value.int IntKind.i64 0)], argTypes := #[3, 3] }, type := 3, pos := "law.go:88", after := #[{ on := 15, ground := Ground.data }, { on := 2, ground := Ground.guard }], guard := some (2, true) }) (v := (.int .i64 mx)) rfl (by kernel_rfl) (by kernel_rfl) (by kernel_rfl) (by kernel_rfl) (by kernel_rfl) (fun _ _ _ h => h) (BL.cls w3) ?_ ?_
            · refine Or.inl ⟨rfl, fun w hSw => ?_⟩
              exact EffR.same (by go_simp; rw [HMX.out]; split <;> omega)
            try simp only [Act.put, List.setIfInBounds_toArray, List.set_cons_zero, List.set_cons_succ]
            refine wpAnyU_take (i := 17) (oi := { dst := some 108, op := Op.binOp BinOp.neq 3 (Operand.tmp 101) (Operand.tmp 107) 3, type := 4, pos := "law.go:88", after := #[{ on := 10, ground := Ground.data }, { on := 16, ground := Ground.data }, { on := 2, ground := Ground.guard }], guard := some (2, true) }) (v := (.bool false)) rfl (by kernel_rfl) (by kernel_rfl) (by kernel_rfl) (by kernel_rfl) (by kernel_rfl) (fun _ _ _ h => h) (BL.cls w3) ?_ ?_
            · refine Or.inl ⟨rfl, fun w hSw => ?_⟩
              exact EffR.same (by go_simp)
            try simp only [Act.put, List.setIfInBounds_toArray, List.set_cons_zero, List.set_cons_succ]
            refine wpAnyU_take (i := 18) (oi := { dst := some 109, op := Op.pick (Operand.tmp 93) (Operand.tmp 108) (Operand.const (Value.bool false)), type := 4, pos := "law.go:88", after := #[{ on := 2, ground := Ground.data }, { on := 17, ground := Ground.data }], guard := none }) (v := (.bool false)) rfl (by kernel_rfl) (by kernel_rfl) (by kernel_rfl) (by kernel_rfl) (by kernel_rfl) (fun _ _ _ h => h) (BL.cls w3) ?_ ?_
            · refine Or.inl ⟨rfl, fun w hSw => ?_⟩
              exact EffR.same (by go_simp)
            try simp only [Act.put, List.setIfInBounds_toArray, List.set_cons_zero, List.set_cons_succ]
            refine wpAnyU_done (by kernel_rfl) (fun w1 hb1 => ?_) _
            have HXn := Lib.hid (HX.out.below hb1)
            have HLLn := Lib.hid (HLL3.out.below hb1)
            have HBn := Lib.hid (HB3.out.trans (hb1.mono HB3.out.size))
            clear HX HLL3 HB3 hb1 cOf d2 d3 d4
            have ch := Check_any w1 (.slice a7 n7 c7) (putL L who cur mx 0) HXn.out.rs (by have := goods_len HG2.out; omega)
            rw [(chkE_goods _).2 HG2.out] at ch
            go_wp2_with fail
            refine ch.mono ?_
            clear ch
            rintro e wt ⟨rfl, hbt⟩
            have HX2 := Lib.hid (HXn.out.below hbt)
            have HLT := Lib.hid (HLLn.out.below hbt)
            have HBT := Lib.hid (HBn.out.trans (hbt.mono HBn.out.size))
            clear hbt
            have kp := kept_any wt _ _ L (putL L who cur mx 0) HLT.out.rs HX2.out.rs (by have := HLE.out; omega) (by have := goods_len HG2.out; omega) HKP.out
            go_wp2_with fail
            refine kp.mono ?_
            clear kp
            rintro e wu ⟨rfl, hbu⟩
            have HX3 := Lib.hid (HX2.out.below hbu)
            have HBU := Lib.hid (HBT.out.trans (hbu.mono HBT.out.size))
            clear hbu
            go_wp2_with fail
            exact ⟨⟨k + 1, (putL L who cur mx 0), a7, n7, c7, by omega, by push_cast; rfl, rfl, HX3.out, HG2.out, HBU.out⟩, by simp [intOf]; omega⟩
          · have hL2 : meetL L who cur amt = [] := by unfold meetL; rw [if_neg (fun e => hz (HE.out.trans e))]
            rw [hL2] at HX
            obtain rfl : n7 = 0 := own_len HX.out
            have hz1 : (E == 0) = false := by simpa using hz
            have hz2 : (E != 0) = true := by simpa using hz
            clear hL2 hz
            go_wp2_with fail
            refine wp_region_bl 19 (by kernel_rfl) ?_
            refine wpAnyU_take (i := 0) (oi := { dst := some 91, op := Op.move (Operand.tmp 8), type := 33, pos := "law.go:88", after := #[], guard := none }) (v := (.int .i64 E)) rfl (by kernel_rfl) (by kernel_rfl) (by kernel_rfl) (by kernel_rfl) (by kernel_rfl) (fun _ _ _ h => h) (BL.cls w3) ?_ ?_
            · refine Or.inl ⟨rfl, fun w hSw => ?_⟩
              exact EffR.same (by go_simp)
            try simp only [Act.put, List.setIfInBounds_toArray, List.set_cons_zero, List.set_cons_succ]
            refine wpAnyU_take (i := 1) (oi := { dst := some 92, op := Op.binOp BinOp.eql 33 (Operand.tmp 91) (Operand.const (Value.int IntKind.i64 0)) 33, type := 4, pos := "law.go:88", after := #[{ on := 0, ground := Ground.data }], guard := none }) (v := (.bool false)) rfl (by kernel_rfl) (by kernel_rfl) (by kernel_rfl) (by kernel_rfl) (by kernel_rfl) (fun _ _ _ h => h) (BL.cls w3) ?_ ?_
            · refine Or.inl ⟨rfl, fun w hSw => ?_⟩
              exact EffR.same (by go_simp)
            try simp only [Act.put, List.setIfInBounds_toArray, List.set_cons_zero, List.set_cons_succ]
            refine wpAnyU_take (i := 2) (oi := { dst := some 93, op := Op.move (Operand.tmp 92), type := 4, pos := "law.go:88", after := #[{ on := 1, ground := Ground.data }], guard := none }) (v := (.bool false)) rfl (by kernel_rfl) (by kernel_rfl) (by kernel_rfl) (by kernel_rfl) (by kernel_rfl) (fun _ _ _ h => h) (BL.cls w3) ?_ ?_
            · refine Or.inl ⟨rfl, fun w hSw => ?_⟩
              exact EffR.same (by go_simp)
            try simp only [Act.put, List.setIfInBounds_toArray, List.set_cons_zero, List.set_cons_succ]
            refine wpAnyU_take (i := 3) (oi := { dst := some 94, op := Op.fieldAddr 44 (Operand.tmp 5) 2, type := 0, pos := "law.go:88", after := #[{ on := 2, ground := Ground.guard }], guard := some (2, true) }) (v := undef) rfl (by kernel_rfl) (by kernel_rfl) (by kernel_rfl) (by kernel_rfl) (by kernel_rfl) (fun _ _ _ h => h) (BL.cls w3) ?_ ?_
            · exact Or.inr ⟨rfl, rfl⟩
            try simp only [Act.put, List.setIfInBounds_toArray, List.set_cons_zero, List.set_cons_succ]
            refine wpAnyU_take (i := 4) (oi := { dst := some 95, op := Op.fieldAddr 26 (Operand.tmp 94) 0, type := 0, pos := "law.go:88", after := #[{ on := 3, ground := Ground.data }, { on := 2, ground := Ground.guard }], guard := some (2, true) }) (v := undef) rfl (by kernel_rfl) (by kernel_rfl) (by kernel_rfl) (by kernel_rfl) (by kernel_rfl) (fun _ _ _ h => h) (BL.cls w3) ?_ ?_
            · exact Or.inr ⟨rfl, rfl⟩
            try simp only [Act.put, List.setIfInBounds_toArray, List.set_cons_zero, List.set_cons_succ]
            refine wpAnyU_take (i := 5) (oi := { dst := some 96, op := Op.load 3 (Operand.tmp 95), type := 3, pos := "law.go:88", after := #[{ on := 4, ground := Ground.data }, { on := 2, ground := Ground.guard }], guard := some (2, true) }) (v := undef) rfl (by kernel_rfl) (by kernel_rfl) (by kernel_rfl) (by kernel_rfl) (by kernel_rfl) (fun _ _ _ h => h) (BL.cls w3) ?_ ?_
            · exact Or.inr ⟨rfl, rfl⟩
            try simp only [Act.put, List.setIfInBounds_toArray, List.set_cons_zero, List.set_cons_succ]
            refine wpAnyU_take (i := 6) (oi := { dst := some 97, op := Op.fieldAddr 44 (Operand.tmp 5) 2, type := 0, pos := "law.go:88", after := #[{ on := 2, ground := Ground.guard }], guard := some (2, true) }) (v := undef) rfl (by kernel_rfl) (by kernel_rfl) (by kernel_rfl) (by kernel_rfl) (by kernel_rfl) (fun _ _ _ h => h) (BL.cls w3) ?_ ?_
            · exact Or.inr ⟨rfl, rfl⟩
            try simp only [Act.put, List.setIfInBounds_toArray, List.set_cons_zero, List.set_cons_succ]
            refine wpAnyU_take (i := 7) (oi := { dst := some 98, op := Op.fieldAddr 26 (Operand.tmp 97) 1, type := 0, pos := "law.go:88", after := #[{ on := 6, ground := Ground.data }, { on := 2, ground := Ground.guard }], guard := some (2, true) }) (v := undef) rfl (by kernel_rfl) (by kernel_rfl) (by kernel_rfl) (by kernel_rfl) (by kernel_rfl) (fun _ _ _ h => h) (BL.cls w3) ?_ ?_
            · exact Or.inr ⟨rfl, rfl⟩
            try simp only [Act.put, List.setIfInBounds_toArray, List.set_cons_zero, List.set_cons_succ]
            refine wpAnyU_take (i := 8) (oi := { dst := some 99, op := Op.load 3 (Operand.tmp 98), type := 3, pos := "law.go:88", after := #[{ on := 7, ground := Ground.data }, { on := 2, ground := Ground.guard }], guard := some (2, true) }) (v := undef) rfl (by kernel_rfl) (by kernel_rfl) (by kernel_rfl) (by kernel_rfl) (by kernel_rfl) (fun _ _ _ h => h) (BL.cls w3) ?_ ?_
            · exact Or.inr ⟨rfl, rfl⟩
            try simp only [Act.put, List.setIfInBounds_toArray, List.set_cons_zero, List.set_cons_succ]
            refine wpAnyU_take (i := 9) (oi := { dst := some 100, op := Op.move (Operand.tmp 7), type := 22, pos := "law.go:88", after := #[{ on := 2, ground := Ground.guard }], guard := some (2, true) }) (v := undef) rfl (by kernel_rfl) (by kernel_rfl) (by kernel_rfl) (by kernel_rfl) (by kernel_rfl) (fun _ _ _ h => h) (BL.cls w3) ?_ ?_
            · exact Or.inr ⟨rfl, rfl⟩
            try simp only [Act.put, List.setIfInBounds_toArray, List.set_cons_zero, List.set_cons_succ]
            refine wpAnyU_take (i := 10) (oi := { dst := some 101, op := Op.call { callee := Callee.value (Operand.func 13), args := #[Operand.tmp 96, Operand.tmp 99, Operand.tmp 100], argTypes := #[3, 3, 22] }, type := 3, pos := "law.go:88", after := #[{ on := 5, ground := Ground.data }, { on := 8, ground := Ground.data }, { on := 9, ground := Ground.data }, { on := 2, ground := Ground.chain }, { on := 2, ground := Ground.guard }], guard := some (2, true) }) (v := undef) rfl (by kernel_rfl) (by kernel_rfl) (by kernel_rfl) (by kernel_rfl) (by kernel_rfl) (fun _ _ _ h => h) (BL.cls w3) ?_ ?_
            · exact Or.inr ⟨rfl, rfl⟩
            try simp only [Act.put, List.setIfInBounds_toArray, List.set_cons_zero, List.set_cons_succ]
            refine wpAnyU_take (i := 11) (oi := { dst := some 102, op := Op.move (Operand.tmp 6), type := 3, pos := "law.go:88", after := #[{ on := 2, ground := Ground.guard }], guard := some (2, true) }) (v := undef) rfl (by kernel_rfl) (by kernel_rfl) (by kernel_rfl) (by kernel_rfl) (by kernel_rfl) (fun _ _ _ h => h) (BL.cls w3) ?_ ?_
            · exact Or.inr ⟨rfl, rfl⟩
            try simp only [Act.put, List.setIfInBounds_toArray, List.set_cons_zero, List.set_cons_succ]
            refine wpAnyU_take (i := 12) (oi := { dst := some 103, op := Op.fieldAddr 44 (Operand.tmp 5) 2, type := 0, pos := "law.go:88", after := #[{ on := 2, ground := Ground.guard }], guard := some (2, true) }) (v := undef) rfl (by kernel_rfl) (by kernel_rfl) (by kernel_rfl) (by kernel_rfl) (by kernel_rfl) (fun _ _ _ h => h) (BL.cls w3) ?_ ?_
            · exact Or.inr ⟨rfl, rfl⟩
            try simp only [Act.put, List.setIfInBounds_toArray, List.set_cons_zero, List.set_cons_succ]
            refine wpAnyU_take (i := 13) (oi := { dst := some 104, op := Op.fieldAddr 26 (Operand.tmp 103) 2, type := 0, pos := "law.go:88", after := #[{ on := 12, ground := Ground.data }, { on := 2, ground := Ground.guard }], guard := some (2, true) }) (v := undef) rfl (by kernel_rfl) (by kernel_rfl) (by kernel_rfl) (by kernel_rfl) (by kernel_rfl) (fun _ _ _ h => h) (BL.cls w3) ?_ ?_
            · exact Or.inr ⟨rfl, rfl⟩
            try simp only [Act.put, List.setIfInBounds_toArray, List.set_cons_zero, List.set_cons_succ]
            refine wpAnyU_take (i := 14) (oi := { dst := some 105, op := Op.load 3 (Operand.tmp 104), type := 3, pos := "law.go:88", after := #[{ on := 13, ground := Ground.data }, { on := 2, ground := Ground.guard }], guard := some (2, true) }) (v := undef) rfl (by kernel_rfl) (by kernel_rfl) (by kernel_rfl) (by kernel_rfl) (by kernel_rfl) (fun _ _ _ h => h) (BL.cls w3) ?_ ?_
            · exact Or.inr ⟨rfl, rfl⟩
            try simp only [Act.put, List.setIfInBounds_toArray, List.set_cons_zero, List.set_cons_succ]
            refine wpAnyU_take (i := 15) (oi := { dst := some 106, op := Op.binOp BinOp.sub 3 (Operand.tmp 102) (Operand.tmp 105) 3, type := 3, pos := "law.go:88", after := #[{ on := 11, ground := Ground.data }, { on := 14, ground := Ground.data }, { on := 2, ground := Ground.guard }], guard := some (2, true) }) (v := undef) rfl (by kernel_rfl) (by kernel_rfl) (by kernel_rfl) (by kernel_rfl) (by kernel_rfl) (fun _ _ _ h => h) (BL.cls w3) ?_ ?_
            · exact Or.inr ⟨rfl, rfl⟩
            try simp only [Act.put, List.setIfInBounds_toArray, List.set_cons_zero, List.set_cons_succ]
            refine wpAnyU_take (i := 16) (oi := { dst := some 107, op := Op.call { callee := Callee.builtin Builtin.max, args := #[Operand.tmp 106, Operand.const (Value.int IntKind.i64 0)], argTypes := #[3, 3] }, type := 3, pos := "law.go:88", after := #[{ on := 15, ground := Ground.data }, { on := 2, ground := Ground.guard }], guard := some (2, true) }) (v := undef) rfl (by kernel_rfl) (by kernel_rfl) (by kernel_rfl) (by kernel_rfl) (by kernel_rfl) (fun _ _ _ h => h) (BL.cls w3) ?_ ?_
            · exact Or.inr ⟨rfl, rfl⟩
            try simp only [Act.put, List.setIfInBounds_toArray, List.set_cons_zero, List.set_cons_succ]
            refine wpAnyU_take (i := 17) (oi := { dst := some 108, op := Op.binOp BinOp.neq 3 (Operand.tmp 101) (Operand.tmp 107) 3, type := 4, pos := "law.go:88", after := #[{ on := 10, ground := Ground.data }, { on := 16, ground := Ground.data }, { on := 2, ground := Ground.guard }], guard := some (2, true) }) (v := undef) rfl (by kernel_rfl) (by kernel_rfl) (by kernel_rfl) (by kernel_rfl) (by kernel_rfl) (fun _ _ _ h => h) (BL.cls w3) ?_ ?_
            · exact Or.inr ⟨rfl, rfl⟩
            try simp only [Act.put, List.setIfInBounds_toArray, List.set_cons_zero, List.set_cons_succ]
            refine wpAnyU_take (i := 18) (oi := { dst := some 109, op := Op.pick (Operand.tmp 93) (Operand.tmp 108) (Operand.const (Value.bool false)), type := 4, pos := "law.go:88", after := #[{ on := 2, ground := Ground.data }, { on := 17, ground := Ground.data }], guard := none }) (v := (.bool false)) rfl (by kernel_rfl) (by kernel_rfl) (by kernel_rfl) (by kernel_rfl) (by kernel_rfl) (fun _ _ _ h => h) (BL.cls w3) ?_ ?_
            · refine Or.inl ⟨rfl, fun w hSw => ?_⟩
              exact EffR.same (by go_simp)
            try simp only [Act.put, List.setIfInBounds_toArray, List.set_cons_zero, List.set_cons_succ]
            refine wpAnyU_done (by kernel_rfl) (fun w1 hb1 => ?_) _
            have HLLn := Lib.hid (HLL3.out.below hb1)
            have HBn := Lib.hid (HB3.out.trans (hb1.mono HB3.out.size))
            clear hb1 d2 d3 d4
            go_wp2_with fail
            exact ⟨⟨k + 1, L, a3, n3, c3, by omega, by push_cast; rfl, rfl, HLLn.out, HG.out, HBn.out⟩, by simp [intOf]; omega⟩
        · have hr := HR.out.symm
          have HLE := Lib.hid (goods_len HG.out)
          have ask0 := Meet_any w2 _ L who cur amt HLL.out.rs (by have := HLE.out; omega)
          obtain ⟨E, hE⟩ : ∃ E, E = wrongE L who cur amt 0 := ⟨_, rfl⟩
          rw [← hE] at ask0
          have HE := Lib.hid hE
          clear hE
          go_wp2_with fail
          refine ask0.mono ?_
          clear ask0
          rintro e w3 ⟨a7, n7, c7, rfl, ho7, hb3⟩
          obtain ⟨e0, e1, e2, e3, e4⟩ := HD.out _ (HC2.out.next hb3)
          clear d0 d1 d2 d3 d4
          have HX := Lib.hid (ho7.base HB2.out.size)
          have HLL3 := Lib.hid (HLL.out.below hb3)
          have HB3 := Lib.hid (HB2.out.trans (hb3.mono HB2.out.size))
          clear ho7 hb3
          have d2 := e2
          have d3 := e3
          have d4 := e4
          clear e0 e1 e2 e3 e4
          by_cases hz : E = 0
          · subst hz
            obtain ⟨_, harg⟩ := wrongE_zero HE.out.symm
            have hpar := (argB_parts harg).1.2
            have hmx := argB_max harg hovb.2
            have hL2 : meetL L who cur amt = putL L who cur (max (ov - amt) 0) 0 := by unfold meetL; rw [if_pos HE.out.symm, HOV.out]
            rw [hL2] at HX
            obtain ⟨mx, hm3⟩ : ∃ mx, mx = max (ov - amt) 0 := ⟨_, rfl⟩
            rw [← hm3] at HX hmx
            have HMX := Lib.hid hm3
            have HG2 := Lib.hid (put_goods HG.out hmx)
            have HKP := Lib.hid (kept_put HG.out who cur mx 0)
            have cOf := fun w h => Of_any w who cur (.slice a7 n7 c7) (putL L who cur mx 0) h (by have := goods_len HG2.out; omega)
            rw [ofL_put HG.out hmx] at cOf
            clear hL2 harg hm3 hmx
            go_wp2_with fail
            refine wp_region_bl 19 (by kernel_rfl) ?_
            refine wpAnyU_take (i := 0) (oi := { dst := some 91, op := Op.move (Operand.tmp 8), type := 33, pos := "law.go:88", after := #[], guard := none }) (v := (.int .i64 0)) rfl (by kernel_rfl) (by kernel_rfl) (by kernel_rfl) (by kernel_rfl) (by kernel_rfl) (fun _ _ _ h => h) (BL.cls w3) ?_ ?_
            · refine Or.inl ⟨rfl, fun w hSw => ?_⟩
              exact EffR.same (by go_simp)
            try simp only [Act.put, List.setIfInBounds_toArray, List.set_cons_zero, List.set_cons_succ]
            refine wpAnyU_take (i := 1) (oi := { dst := some 92, op := Op.binOp BinOp.eql 33 (Operand.tmp 91) (Operand.const (Value.int IntKind.i64 0)) 33, type := 4, pos := "law.go:88", after := #[{ on := 0, ground := Ground.data }], guard := none }) (v := (.bool true)) rfl (by kernel_rfl) (by kernel_rfl) (by kernel_rfl) (by kernel_rfl) (by kernel_rfl) (fun _ _ _ h => h) (BL.cls w3) ?_ ?_
            · refine Or.inl ⟨rfl, fun w hSw => ?_⟩
              exact EffR.same (by go_simp)
            try simp only [Act.put, List.setIfInBounds_toArray, List.set_cons_zero, List.set_cons_succ]
            refine wpAnyU_take (i := 2) (oi := { dst := some 93, op := Op.move (Operand.tmp 92), type := 4, pos := "law.go:88", after := #[{ on := 1, ground := Ground.data }], guard := none }) (v := (.bool true)) rfl (by kernel_rfl) (by kernel_rfl) (by kernel_rfl) (by kernel_rfl) (by kernel_rfl) (fun _ _ _ h => h) (BL.cls w3) ?_ ?_
            · refine Or.inl ⟨rfl, fun w hSw => ?_⟩
              exact EffR.same (by go_simp)
            try simp only [Act.put, List.setIfInBounds_toArray, List.set_cons_zero, List.set_cons_succ]
            refine wpAnyU_take (i := 3) (oi := { dst := some 94, op := Op.fieldAddr 44 (Operand.tmp 5) 2, type := 0, pos := "law.go:88", after := #[{ on := 2, ground := Ground.guard }], guard := some (2, true) }) (v := (.pointer (some ⟨ga, 2, none⟩))) rfl (by kernel_rfl) (by kernel_rfl) (by kernel_rfl) (by kernel_rfl) (by kernel_rfl) (fun _ _ _ h => h) (BL.cls w3) ?_ ?_
            · refine Or.inl ⟨rfl, fun w hSw => ?_⟩
              exact EffR.same (by go_simp)
            try simp only [Act.put, List.setIfInBounds_toArray, List.set_cons_zero, List.set_cons_succ]
            refine wpAnyU_take (i := 4) (oi := { dst := some 95, op := Op.fieldAddr 26 (Operand.tmp 94) 0, type := 0, pos := "law.go:88", after := #[{ on := 3, ground := Ground.data }, { on := 2, ground := Ground.guard }], guard := some (2, true) }) (v := (.pointer (some ⟨ga, 2, none⟩))) rfl (by kernel_rfl) (by kernel_rfl) (by kernel_rfl) (by kernel_rfl) (by kernel_rfl) (fun _ _ _ h => h) (BL.cls w3) ?_ ?_
            · refine Or.inl ⟨rfl, fun w hSw => ?_⟩
              exact EffR.same (by go_simp)
            try simp only [Act.put, List.setIfInBounds_toArray, List.set_cons_zero, List.set_cons_succ]
            refine wpAnyU_take (i := 5) (oi := { dst := some 96, op := Op.load 3 (Operand.tmp 95), type := 3, pos := "law.go:88", after := #[{ on := 4, ground := Ground.data }, { on := 2, ground := Ground.guard }], guard := some (2, true) }) (v := (.int .i64 who)) rfl (by kernel_rfl) (by kernel_rfl) (by kernel_rfl) (by kernel_rfl) (by kernel_rfl) (fun _ _ _ h => h) (BL.cls w3) ?_ ?_
            · refine Or.inl ⟨rfl, fun w hSw => ?_⟩
              have e0 := BL.cell hSw d2
              exact EffR.same (by go_simp)
            try simp only [Act.put, List.setIfInBounds_toArray, List.set_cons_zero, List.set_cons_succ]
            refine wpAnyU_take (i := 6) (oi := { dst := some 97, op := Op.fieldAddr 44 (Operand.tmp 5) 2, type := 0, pos := "law.go:88", after := #[{ on := 2, ground := Ground.guard }], guard := some (2, true) }) (v := (.pointer (some ⟨ga, 2, none⟩))) rfl (by kernel_rfl) (by kernel_rfl) (by kernel_rfl) (by kernel_rfl) (by kernel_rfl) (fun _ _ _ h => h) (BL.cls w3) ?_ ?_
            · refine Or.inl ⟨rfl, fun w hSw => ?_⟩
              exact EffR.same (by go_simp)
            try simp only [Act.put, List.setIfInBounds_toArray, List.set_cons_zero, List.set_cons_succ]
            refine wpAnyU_take (i := 7) (oi := { dst := some 98, op := Op.fieldAddr 26 (Operand.tmp 97) 1, type := 0, pos := "law.go:88", after := #[{ on := 6, ground := Ground.data }, { on := 2, ground := Ground.guard }], guard := some (2, true) }) (v := (.pointer (some ⟨ga, 3, none⟩))) rfl (by kernel_rfl) (by kernel_rfl) (by kernel_rfl) (by kernel_rfl) (by kernel_rfl) (fun _ _ _ h => h) (BL.cls w3) ?_ ?_
            · refine Or.inl ⟨rfl, fun w hSw => ?_⟩
              exact EffR.same (by go_simp)
            try simp only [Act.put, List.setIfInBounds_toArray, List.set_cons_zero, List.set_cons_succ]
            refine wpAnyU_take (i := 8) (oi := { dst := some 99, op := Op.load 3 (Operand.tmp 98), type := 3, pos := "law.go:88", after := #[{ on := 7, ground := Ground.data }, { on := 2, ground := Ground.guard }], guard := some (2, true) }) (v := (.int .i64 cur)) rfl (by kernel_rfl) (by kernel_rfl) (by kernel_rfl) (by kernel_rfl) (by kernel_rfl) (fun _ _ _ h => h) (BL.cls w3) ?_ ?_
            · refine Or.inl ⟨rfl, fun w hSw => ?_⟩
              have e0 := BL.cell hSw d3
              exact EffR.same (by go_simp)
            try simp only [Act.put, List.setIfInBounds_toArray, List.set_cons_zero, List.set_cons_succ]
            refine wpAnyU_take (i := 9) (oi := { dst := some 100, op := Op.move (Operand.tmp 7), type := 22, pos := "law.go:88", after := #[{ on := 2, ground := Ground.guard }], guard := some (2, true) }) (v := (.slice a7 n7 c7)) rfl (by kernel_rfl) (by kernel_rfl) (by kernel_rfl) (by kernel_rfl) (by kernel_rfl) (fun _ _ _ h => h) (BL.cls w3) ?_ ?_
            · refine Or.inl ⟨rfl, fun w hSw => ?_⟩
              exact EffR.same (by go_simp)
            try simp only [Act.put, List.setIfInBounds_toArray, List.set_cons_zero, List.set_cons_succ]
            refine wpAnyU_take (i := 10) (oi := { dst := some 101, op := Op.call { callee := Callee.value (Operand.func 13), args := #[Operand.tmp 96, Operand.tmp 99, Operand.tmp 100], argTypes := #[3, 3, 22] }, type := 3, pos := "law.go:88", after := #[{ on := 5, ground := Ground.data }, { on := 8, ground := Ground.data }, { on := 9, ground := Ground.data }, { on := 2, ground := Ground.chain }, { on := 2, ground := Ground.guard }], guard := some (2, true) }) (v := (.int .i64 mx)) rfl (by kernel_rfl) (by kernel_rfl) (by kernel_rfl) (by kernel_rfl) (by kernel_rfl) (fun _ _ _ h => h) (BL.cls w3) ?_ ?_
            · refine Or.inl ⟨rfl, fun w hSw => ?_⟩
              go_simp
              show Calls _ _ _ _ _
              refine (cOf _ (HX.out.rs.mono hSw)).mono ?_
              rintro e w1 ⟨rfl, hb⟩
              exact ⟨rfl, hb⟩
            try simp only [Act.put, List.setIfInBounds_toArray, List.set_cons_zero, List.set_cons_succ]
            refine wpAnyU_take (i := 11) (oi := { dst := some 102, op := Op.move (Operand.tmp 6), type := 3, pos := "law.go:88", after := #[{ on := 2, ground := Ground.guard }], guard := some (2, true) }) (v := (.int .i64 ov)) rfl (by kernel_rfl) (by kernel_rfl) (by kernel_rfl) (by kernel_rfl) (by kernel_rfl) (fun _ _ _ h => h) (BL.cls w3) ?_ ?_
            · refine Or.inl ⟨rfl, fun w hSw => ?_⟩
              exact EffR.same (by go_simp)
            try simp only [Act.put, List.setIfInBounds_toArray, List.set_cons_zero, List.set_cons_succ]
            refine wpAnyU_take (i := 12) (oi := { dst := some 103, op := Op.fieldAddr 44 (Operand.tmp 5) 2, type := 0, pos := "law.go:88", after := #[{ on := 2, ground := Ground.guard }], guard := some (2, true) }) (v := (.pointer (some ⟨ga, 2, none⟩))) rfl (by kernel_rfl) (by kernel_rfl) (by kernel_rfl) (by kernel_rfl) (by kernel_rfl) (fun _ _ _ h => h) (BL.cls w3) ?_ ?_
            · refine Or.inl ⟨rfl, fun w hSw => ?_⟩
              exact EffR.same (by go_simp)
            try simp only [Act.put, List.setIfInBounds_toArray, List.set_cons_zero, List.set_cons_succ]
            refine wpAnyU_take (i := 13) (oi := { dst := some 104, op := Op.fieldAddr 26 (Operand.tmp 103) 2, type := 0, pos := "law.go:88", after := #[{ on := 12, ground := Ground.data }, { on := 2, ground := Ground.guard }], guard := some (2, true) }) (v := (.pointer (some ⟨ga, 4, none⟩))) rfl (by kernel_rfl) (by kernel_rfl) (by kernel_rfl) (by kernel_rfl) (by kernel_rfl) (fun _ _ _ h => h) (BL.cls w3) ?_ ?_
            · refine Or.inl ⟨rfl, fun w hSw => ?_⟩
              exact EffR.same (by go_simp)
            try simp only [Act.put, List.setIfInBounds_toArray, List.set_cons_zero, List.set_cons_succ]
            refine wpAnyU_take (i := 14) (oi := { dst := some 105, op := Op.load 3 (Operand.tmp 104), type := 3, pos := "law.go:88", after := #[{ on := 13, ground := Ground.data }, { on := 2, ground := Ground.guard }], guard := some (2, true) }) (v := (.int .i64 amt)) rfl (by kernel_rfl) (by kernel_rfl) (by kernel_rfl) (by kernel_rfl) (by kernel_rfl) (fun _ _ _ h => h) (BL.cls w3) ?_ ?_
            · refine Or.inl ⟨rfl, fun w hSw => ?_⟩
              have e0 := BL.cell hSw d4
              exact EffR.same (by go_simp)
            try simp only [Act.put, List.setIfInBounds_toArray, List.set_cons_zero, List.set_cons_succ]
            refine wpAnyU_take (i := 15) (oi := { dst := some 106, op := Op.binOp BinOp.sub 3 (Operand.tmp 102) (Operand.tmp 105) 3, type := 3, pos := "law.go:88", after := #[{ on := 11, ground := Ground.data }, { on := 14, ground := Ground.data }, { on := 2, ground := Ground.guard }], guard := some (2, true) }) (v := (.int .i64 (ov - amt))) rfl (by kernel_rfl) (by kernel_rfl) (by kernel_rfl) (by kernel_rfl) (by kernel_rfl) (fun _ _ _ h => h) (BL.cls w3) ?_ ?_
            · refine Or.inl ⟨rfl, fun w hSw => ?_⟩
              exact EffR.same (by go_simp; exact IntWalk.i64_in _ (by omega))
            try simp only [Act.put, List.setIfInBounds_toArray, List.set_cons_zero, List.set_cons_succ]
            refine wpAnyU_take (i := 16) (oi := { dst := some 107, op := Op.call { callee := Callee.builtin Builtin.max, args := #[Operand.tmp 106, Operand.const (Value.int IntKind.i64 0)], argTypes := #[3, 3] }, type := 3, pos := "law.go:88", after := #[{ on := 15, ground := Ground.data }, { on := 2, ground := Ground.guard }], guard := some (2, true) }) (v := (.int .i64 mx)) rfl (by kernel_rfl) (by kernel_rfl) (by kernel_rfl) (by kernel_rfl) (by kernel_rfl) (fun _ _ _ h => h) (BL.cls w3) ?_ ?_
            · refine Or.inl ⟨rfl, fun w hSw => ?_⟩
              exact EffR.same (by go_simp; rw [HMX.out]; split <;> omega)
            try simp only [Act.put, List.setIfInBounds_toArray, List.set_cons_zero, List.set_cons_succ]
            refine wpAnyU_take (i := 17) (oi := { dst := some 108, op := Op.binOp BinOp.neq 3 (Operand.tmp 101) (Operand.tmp 107) 3, type := 4, pos := "law.go:88", after := #[{ on := 10, ground := Ground.data }, { on := 16, ground := Ground.data }, { on := 2, ground := Ground.guard }], guard := some (2, true) }) (v := (.bool false)) rfl (by kernel_rfl) (by kernel_rfl) (by kernel_rfl) (by kernel_rfl) (by kernel_rfl) (fun _ _ _ h => h) (BL.cls w3) ?_ ?_
            · refine Or.inl ⟨rfl, fun w hSw => ?_⟩
              exact EffR.same (by go_simp)
            try simp only [Act.put, List.setIfInBounds_toArray, List.set_cons_zero, List.set_cons_succ]
            refine wpAnyU_take (i := 18) (oi := { dst := some 109, op := Op.pick (Operand.tmp 93) (Operand.tmp 108) (Operand.const (Value.bool false)), type := 4, pos := "law.go:88", after := #[{ on := 2, ground := Ground.data }, { on := 17, ground := Ground.data }], guard := none }) (v := (.bool false)) rfl (by kernel_rfl) (by kernel_rfl) (by kernel_rfl) (by kernel_rfl) (by kernel_rfl) (fun _ _ _ h => h) (BL.cls w3) ?_ ?_
            · refine Or.inl ⟨rfl, fun w hSw => ?_⟩
              exact EffR.same (by go_simp)
            try simp only [Act.put, List.setIfInBounds_toArray, List.set_cons_zero, List.set_cons_succ]
            refine wpAnyU_done (by kernel_rfl) (fun w1 hb1 => ?_) _
            have HXn := Lib.hid (HX.out.below hb1)
            have HLLn := Lib.hid (HLL3.out.below hb1)
            have HBn := Lib.hid (HB3.out.trans (hb1.mono HB3.out.size))
            clear HX HLL3 HB3 hb1 cOf d2 d3 d4
            have ch := Check_any w1 (.slice a7 n7 c7) (putL L who cur mx 0) HXn.out.rs (by have := goods_len HG2.out; omega)
            rw [(chkE_goods _).2 HG2.out] at ch
            go_wp2_with fail
            refine ch.mono ?_
            clear ch
            rintro e wt ⟨rfl, hbt⟩
            have HX2 := Lib.hid (HXn.out.below hbt)
            have HLT := Lib.hid (HLLn.out.below hbt)
            have HBT := Lib.hid (HBn.out.trans (hbt.mono HBn.out.size))
            clear hbt
            have kp := kept_any wt _ _ L (putL L who cur mx 0) HLT.out.rs HX2.out.rs (by have := HLE.out; omega) (by have := goods_len HG2.out; omega) HKP.out
            go_wp2_with fail
            refine kp.mono ?_
            clear kp
            rintro e wu ⟨rfl, hbu⟩
            have HX3 := Lib.hid (HX2.out.below hbu)
            have HBU := Lib.hid (HBT.out.trans (hbu.mono HBT.out.size))
            clear hbu
            go_wp2_with fail
            exact ⟨⟨k + 1, (putL L who cur mx 0), a7, n7, c7, by omega, by push_cast; rfl, rfl, HX3.out, HG2.out, HBU.out⟩, by simp [intOf]; omega⟩
          · have hL2 : meetL L who cur amt = [] := by unfold meetL; rw [if_neg (fun e => hz (HE.out.trans e))]
            rw [hL2] at HX
            obtain rfl : n7 = 0 := own_len HX.out
            have hz1 : (E == 0) = false := by simpa using hz
            have hz2 : (E != 0) = true := by simpa using hz
            clear hL2 hz
            go_wp2_with fail
            refine wp_region_bl 19 (by kernel_rfl) ?_
            refine wpAnyU_take (i := 0) (oi := { dst := some 91, op := Op.move (Operand.tmp 8), type := 33, pos := "law.go:88", after := #[], guard := none }) (v := (.int .i64 E)) rfl (by kernel_rfl) (by kernel_rfl) (by kernel_rfl) (by kernel_rfl) (by kernel_rfl) (fun _ _ _ h => h) (BL.cls w3) ?_ ?_
            · refine Or.inl ⟨rfl, fun w hSw => ?_⟩
              exact EffR.same (by go_simp)
            try simp only [Act.put, List.setIfInBounds_toArray, List.set_cons_zero, List.set_cons_succ]
            refine wpAnyU_take (i := 1) (oi := { dst := some 92, op := Op.binOp BinOp.eql 33 (Operand.tmp 91) (Operand.const (Value.int IntKind.i64 0)) 33, type := 4, pos := "law.go:88", after := #[{ on := 0, ground := Ground.data }], guard := none }) (v := (.bool false)) rfl (by kernel_rfl) (by kernel_rfl) (by kernel_rfl) (by kernel_rfl) (by kernel_rfl) (fun _ _ _ h => h) (BL.cls w3) ?_ ?_
            · refine Or.inl ⟨rfl, fun w hSw => ?_⟩
              exact EffR.same (by go_simp)
            try simp only [Act.put, List.setIfInBounds_toArray, List.set_cons_zero, List.set_cons_succ]
            refine wpAnyU_take (i := 2) (oi := { dst := some 93, op := Op.move (Operand.tmp 92), type := 4, pos := "law.go:88", after := #[{ on := 1, ground := Ground.data }], guard := none }) (v := (.bool false)) rfl (by kernel_rfl) (by kernel_rfl) (by kernel_rfl) (by kernel_rfl) (by kernel_rfl) (fun _ _ _ h => h) (BL.cls w3) ?_ ?_
            · refine Or.inl ⟨rfl, fun w hSw => ?_⟩
              exact EffR.same (by go_simp)
            try simp only [Act.put, List.setIfInBounds_toArray, List.set_cons_zero, List.set_cons_succ]
            refine wpAnyU_take (i := 3) (oi := { dst := some 94, op := Op.fieldAddr 44 (Operand.tmp 5) 2, type := 0, pos := "law.go:88", after := #[{ on := 2, ground := Ground.guard }], guard := some (2, true) }) (v := undef) rfl (by kernel_rfl) (by kernel_rfl) (by kernel_rfl) (by kernel_rfl) (by kernel_rfl) (fun _ _ _ h => h) (BL.cls w3) ?_ ?_
            · exact Or.inr ⟨rfl, rfl⟩
            try simp only [Act.put, List.setIfInBounds_toArray, List.set_cons_zero, List.set_cons_succ]
            refine wpAnyU_take (i := 4) (oi := { dst := some 95, op := Op.fieldAddr 26 (Operand.tmp 94) 0, type := 0, pos := "law.go:88", after := #[{ on := 3, ground := Ground.data }, { on := 2, ground := Ground.guard }], guard := some (2, true) }) (v := undef) rfl (by kernel_rfl) (by kernel_rfl) (by kernel_rfl) (by kernel_rfl) (by kernel_rfl) (fun _ _ _ h => h) (BL.cls w3) ?_ ?_
            · exact Or.inr ⟨rfl, rfl⟩
            try simp only [Act.put, List.setIfInBounds_toArray, List.set_cons_zero, List.set_cons_succ]
            refine wpAnyU_take (i := 5) (oi := { dst := some 96, op := Op.load 3 (Operand.tmp 95), type := 3, pos := "law.go:88", after := #[{ on := 4, ground := Ground.data }, { on := 2, ground := Ground.guard }], guard := some (2, true) }) (v := undef) rfl (by kernel_rfl) (by kernel_rfl) (by kernel_rfl) (by kernel_rfl) (by kernel_rfl) (fun _ _ _ h => h) (BL.cls w3) ?_ ?_
            · exact Or.inr ⟨rfl, rfl⟩
            try simp only [Act.put, List.setIfInBounds_toArray, List.set_cons_zero, List.set_cons_succ]
            refine wpAnyU_take (i := 6) (oi := { dst := some 97, op := Op.fieldAddr 44 (Operand.tmp 5) 2, type := 0, pos := "law.go:88", after := #[{ on := 2, ground := Ground.guard }], guard := some (2, true) }) (v := undef) rfl (by kernel_rfl) (by kernel_rfl) (by kernel_rfl) (by kernel_rfl) (by kernel_rfl) (fun _ _ _ h => h) (BL.cls w3) ?_ ?_
            · exact Or.inr ⟨rfl, rfl⟩
            try simp only [Act.put, List.setIfInBounds_toArray, List.set_cons_zero, List.set_cons_succ]
            refine wpAnyU_take (i := 7) (oi := { dst := some 98, op := Op.fieldAddr 26 (Operand.tmp 97) 1, type := 0, pos := "law.go:88", after := #[{ on := 6, ground := Ground.data }, { on := 2, ground := Ground.guard }], guard := some (2, true) }) (v := undef) rfl (by kernel_rfl) (by kernel_rfl) (by kernel_rfl) (by kernel_rfl) (by kernel_rfl) (fun _ _ _ h => h) (BL.cls w3) ?_ ?_
            · exact Or.inr ⟨rfl, rfl⟩
            try simp only [Act.put, List.setIfInBounds_toArray, List.set_cons_zero, List.set_cons_succ]
            refine wpAnyU_take (i := 8) (oi := { dst := some 99, op := Op.load 3 (Operand.tmp 98), type := 3, pos := "law.go:88", after := #[{ on := 7, ground := Ground.data }, { on := 2, ground := Ground.guard }], guard := some (2, true) }) (v := undef) rfl (by kernel_rfl) (by kernel_rfl) (by kernel_rfl) (by kernel_rfl) (by kernel_rfl) (fun _ _ _ h => h) (BL.cls w3) ?_ ?_
            · exact Or.inr ⟨rfl, rfl⟩
            try simp only [Act.put, List.setIfInBounds_toArray, List.set_cons_zero, List.set_cons_succ]
            refine wpAnyU_take (i := 9) (oi := { dst := some 100, op := Op.move (Operand.tmp 7), type := 22, pos := "law.go:88", after := #[{ on := 2, ground := Ground.guard }], guard := some (2, true) }) (v := undef) rfl (by kernel_rfl) (by kernel_rfl) (by kernel_rfl) (by kernel_rfl) (by kernel_rfl) (fun _ _ _ h => h) (BL.cls w3) ?_ ?_
            · exact Or.inr ⟨rfl, rfl⟩
            try simp only [Act.put, List.setIfInBounds_toArray, List.set_cons_zero, List.set_cons_succ]
            refine wpAnyU_take (i := 10) (oi := { dst := some 101, op := Op.call { callee := Callee.value (Operand.func 13), args := #[Operand.tmp 96, Operand.tmp 99, Operand.tmp 100], argTypes := #[3, 3, 22] }, type := 3, pos := "law.go:88", after := #[{ on := 5, ground := Ground.data }, { on := 8, ground := Ground.data }, { on := 9, ground := Ground.data }, { on := 2, ground := Ground.chain }, { on := 2, ground := Ground.guard }], guard := some (2, true) }) (v := undef) rfl (by kernel_rfl) (by kernel_rfl) (by kernel_rfl) (by kernel_rfl) (by kernel_rfl) (fun _ _ _ h => h) (BL.cls w3) ?_ ?_
            · exact Or.inr ⟨rfl, rfl⟩
            try simp only [Act.put, List.setIfInBounds_toArray, List.set_cons_zero, List.set_cons_succ]
            refine wpAnyU_take (i := 11) (oi := { dst := some 102, op := Op.move (Operand.tmp 6), type := 3, pos := "law.go:88", after := #[{ on := 2, ground := Ground.guard }], guard := some (2, true) }) (v := undef) rfl (by kernel_rfl) (by kernel_rfl) (by kernel_rfl) (by kernel_rfl) (by kernel_rfl) (fun _ _ _ h => h) (BL.cls w3) ?_ ?_
            · exact Or.inr ⟨rfl, rfl⟩
            try simp only [Act.put, List.setIfInBounds_toArray, List.set_cons_zero, List.set_cons_succ]
            refine wpAnyU_take (i := 12) (oi := { dst := some 103, op := Op.fieldAddr 44 (Operand.tmp 5) 2, type := 0, pos := "law.go:88", after := #[{ on := 2, ground := Ground.guard }], guard := some (2, true) }) (v := undef) rfl (by kernel_rfl) (by kernel_rfl) (by kernel_rfl) (by kernel_rfl) (by kernel_rfl) (fun _ _ _ h => h) (BL.cls w3) ?_ ?_
            · exact Or.inr ⟨rfl, rfl⟩
            try simp only [Act.put, List.setIfInBounds_toArray, List.set_cons_zero, List.set_cons_succ]
            refine wpAnyU_take (i := 13) (oi := { dst := some 104, op := Op.fieldAddr 26 (Operand.tmp 103) 2, type := 0, pos := "law.go:88", after := #[{ on := 12, ground := Ground.data }, { on := 2, ground := Ground.guard }], guard := some (2, true) }) (v := undef) rfl (by kernel_rfl) (by kernel_rfl) (by kernel_rfl) (by kernel_rfl) (by kernel_rfl) (fun _ _ _ h => h) (BL.cls w3) ?_ ?_
            · exact Or.inr ⟨rfl, rfl⟩
            try simp only [Act.put, List.setIfInBounds_toArray, List.set_cons_zero, List.set_cons_succ]
            refine wpAnyU_take (i := 14) (oi := { dst := some 105, op := Op.load 3 (Operand.tmp 104), type := 3, pos := "law.go:88", after := #[{ on := 13, ground := Ground.data }, { on := 2, ground := Ground.guard }], guard := some (2, true) }) (v := undef) rfl (by kernel_rfl) (by kernel_rfl) (by kernel_rfl) (by kernel_rfl) (by kernel_rfl) (fun _ _ _ h => h) (BL.cls w3) ?_ ?_
            · exact Or.inr ⟨rfl, rfl⟩
            try simp only [Act.put, List.setIfInBounds_toArray, List.set_cons_zero, List.set_cons_succ]
            refine wpAnyU_take (i := 15) (oi := { dst := some 106, op := Op.binOp BinOp.sub 3 (Operand.tmp 102) (Operand.tmp 105) 3, type := 3, pos := "law.go:88", after := #[{ on := 11, ground := Ground.data }, { on := 14, ground := Ground.data }, { on := 2, ground := Ground.guard }], guard := some (2, true) }) (v := undef) rfl (by kernel_rfl) (by kernel_rfl) (by kernel_rfl) (by kernel_rfl) (by kernel_rfl) (fun _ _ _ h => h) (BL.cls w3) ?_ ?_
            · exact Or.inr ⟨rfl, rfl⟩
            try simp only [Act.put, List.setIfInBounds_toArray, List.set_cons_zero, List.set_cons_succ]
            refine wpAnyU_take (i := 16) (oi := { dst := some 107, op := Op.call { callee := Callee.builtin Builtin.max, args := #[Operand.tmp 106, Operand.const (Value.int IntKind.i64 0)], argTypes := #[3, 3] }, type := 3, pos := "law.go:88", after := #[{ on := 15, ground := Ground.data }, { on := 2, ground := Ground.guard }], guard := some (2, true) }) (v := undef) rfl (by kernel_rfl) (by kernel_rfl) (by kernel_rfl) (by kernel_rfl) (by kernel_rfl) (fun _ _ _ h => h) (BL.cls w3) ?_ ?_
            · exact Or.inr ⟨rfl, rfl⟩
            try simp only [Act.put, List.setIfInBounds_toArray, List.set_cons_zero, List.set_cons_succ]
            refine wpAnyU_take (i := 17) (oi := { dst := some 108, op := Op.binOp BinOp.neq 3 (Operand.tmp 101) (Operand.tmp 107) 3, type := 4, pos := "law.go:88", after := #[{ on := 10, ground := Ground.data }, { on := 16, ground := Ground.data }, { on := 2, ground := Ground.guard }], guard := some (2, true) }) (v := undef) rfl (by kernel_rfl) (by kernel_rfl) (by kernel_rfl) (by kernel_rfl) (by kernel_rfl) (fun _ _ _ h => h) (BL.cls w3) ?_ ?_
            · exact Or.inr ⟨rfl, rfl⟩
            try simp only [Act.put, List.setIfInBounds_toArray, List.set_cons_zero, List.set_cons_succ]
            refine wpAnyU_take (i := 18) (oi := { dst := some 109, op := Op.pick (Operand.tmp 93) (Operand.tmp 108) (Operand.const (Value.bool false)), type := 4, pos := "law.go:88", after := #[{ on := 2, ground := Ground.data }, { on := 17, ground := Ground.data }], guard := none }) (v := (.bool false)) rfl (by kernel_rfl) (by kernel_rfl) (by kernel_rfl) (by kernel_rfl) (by kernel_rfl) (fun _ _ _ h => h) (BL.cls w3) ?_ ?_
            · refine Or.inl ⟨rfl, fun w hSw => ?_⟩
              exact EffR.same (by go_simp)
            try simp only [Act.put, List.setIfInBounds_toArray, List.set_cons_zero, List.set_cons_succ]
            refine wpAnyU_done (by kernel_rfl) (fun w1 hb1 => ?_) _
            have HLLn := Lib.hid (HLL3.out.below hb1)
            have HBn := Lib.hid (HB3.out.trans (hb1.mono HB3.out.size))
            clear hb1 d2 d3 d4
            go_wp2_with fail
            exact ⟨⟨k + 1, L, a3, n3, c3, by omega, by push_cast; rfl, rfl, HLLn.out, HG.out, HBn.out⟩, by simp [intOf]; omega⟩
        · have hr := HR.out.symm
          have HLE := Lib.hid (goods_len HG.out)
          have hlit : Is (w2.alloc (.cells #[.int .i64 who] 3)) (.slice (some ⟨w2.heap.size, 0, none⟩) 1 1) [who] := Is.lit1 w2 who 3
          have hba := (Below.refl w2.heap.size w2).alloc (Nat.le_refl _) (.cells #[.int .i64 who] 3)
          have ask0 := Without_any _ _ _ L [who] (HLL.out.below hba).rs hlit (by have := HLE.out; omega)
          have HBA2 := Lib.hid hba
          clear hlit hba
          go_wp2_with fail
          refine ask0.mono ?_
          clear ask0
          rintro e w3 ⟨v7, rfl, ho7, hb3⟩
          obtain ⟨a7, n7, c7, rfl, _, ho7⟩ := ho7.named
          have hb4 := HBA2.out.next hb3
          obtain ⟨e0, e1, e2, e3, e4⟩ := HD.out _ (HC2.out.next hb4)
          clear d0 d1 d2 d3 d4
          have HX := Lib.hid (ho7.base (Nat.le_trans HB2.out.size HBA2.out.size))
          have HLL3 := Lib.hid (HLL.out.below hb4)
          have HB3 := Lib.hid (HB2.out.trans (hb4.mono HB2.out.size))
          clear ho7 hb3 hb4
          have HG2 := Lib.hid (wo_goods [who] HG.out)
          have HKP := Lib.hid (kept_wo [who] HG.out)
          have cOf := Of_any w3 who cur (.slice a7 n7 c7) (withoutL [who] L) HX.out.rs (by have := goods_len HG2.out; omega)
          rw [ofL_wo] at cOf
          go_wp2_with fail
          refine cOf.mono ?_
          clear cOf
          rintro e w1 ⟨rfl, hb1⟩
          have HXn := Lib.hid (HX.out.below hb1)
          have HLLn := Lib.hid (HLL3.out.below hb1)
          have HBn := Lib.hid (HB3.out.trans (hb1.mono HB3.out.size))
          clear HX HLL3 HB3 hb1 e0 e1 e2 e3 e4
          have ch := Check_any w1 (.slice a7 n7 c7) (withoutL [who] L) HXn.out.rs (by have := goods_len HG2.out; omega)
          rw [(chkE_goods _).2 HG2.out] at ch
          go_wp2_with fail
          refine ch.mono ?_
          clear ch
          rintro e wt ⟨rfl, hbt⟩
          have HX2 := Lib.hid (HXn.out.below hbt)
          have HLT := Lib.hid (HLLn.out.below hbt)
          have HBT := Lib.hid (HBn.out.trans (hbt.mono HBn.out.size))
          clear hbt
          have kp := kept_any wt _ _ L (withoutL [who] L) HLT.out.rs HX2.out.rs (by have := HLE.out; omega) (by have := goods_len HG2.out; omega) HKP.out
          go_wp2_with fail
          refine kp.mono ?_
          clear kp
          rintro e wu ⟨rfl, hbu⟩
          have HX3 := Lib.hid (HX2.out.below hbu)
          have HBU := Lib.hid (HBT.out.trans (hbu.mono HBT.out.size))
          clear hbu
          go_wp2_with fail
          exact ⟨⟨k + 1, (withoutL [who] L), a7, n7, c7, by omega, by push_cast; rfl, rfl, HX3.out, HG2.out, HBU.out⟩, by simp [intOf]; omega⟩
      · have HB := Lib.hid hbel
        have hor : (k < n ∧ ¬ k < 300) ∨ ¬ k < n := by omega
        clear ho hbel hlt
        rcases hor with ⟨h1, h2⟩ | h1
        all_goals
          go_wp2_with fail
          refine (wakes18_any wr).mono ?_
          rintro e w2 ⟨rfl, hb2⟩
          go_wp2_with fail
          go_ret
          exact ⟨rfl, HB.out.trans (hb2.mono HB.out.size)⟩
end Cam
