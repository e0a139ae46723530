import Derived.Test.YtilbijekmmkiaaaRlW
/- the page: Those. -/
namespace Cam
open Go Go.RowKit Go.Proofs

theorem inB_next {sts : List Int} {s : Int} {j : Nat} (h : j < sts.length) : inB (sts.take (j + 1)) s = (inB (sts.take j) s || (sts[j] == s)) := by
  unfold inB
  rw [List.take_succ_eq_append_getElem h, Bool.eq_iff_iff]
  simp only [decide_eq_true_eq, List.mem_append, List.mem_singleton, Bool.or_eq_true, beq_iff_eq]
  exact ⟨Or.imp_right Eq.symm, Or.imp_right Eq.symm⟩
set_option maxRecDepth 100000 in
set_option maxHeartbeats 3200000 in
theorem rThose_any (w : World) (va vb vc vs : Value) (R : RollT) (sts : List Int) (h : RollIn w va vb vc R) (hf : few R) (hs : Is w vs sts) (hsl : sts.length ≤ 100) :
    Calls Try.prog 28 #[.agg #[va, vb, vc], vs] w (IntsPost w (thoseR R sts)) := by
  obtain ⟨aM, cM, rfl, hcap, hm⟩ := h.1.shape
  obtain ⟨n, hn⟩ : ∃ n, n = R.M.length := ⟨_, rfl⟩
  rw [← hn] at h hcap ⊢
  obtain ⟨av1, cap1, rfl, hcap1, hm1⟩ := hs.shape
  obtain ⟨m, hmm⟩ : ∃ m, m = sts.length := ⟨_, rfl⟩
  rw [← hmm] at hs hcap1 ⊢
  have hf2 : n ≤ 1000 := by have := hf.1; omega
  have hm2 : m ≤ 100 := by omega
  have hb0 : Below w.heap.size w (w.alloc (.cells #[.slice aM n cM, vb, vc] 26)) := (Below.refl _ _).alloc (Nat.le_refl _) _
  have hx0 : HT (w.alloc (.cells #[.slice aM n cM, vb, vc] 26)) w.heap.size 26 [.slice aM n cM, vb, vc] := HT.new (w := w) (t := 26) (C := [.slice aM n cM, vb, vc])
  have hlt0 : w.heap.size < (w.alloc (.cells #[.slice aM n cM, vb, vc] 26)).heap.size := by simp
  have HR := Lib.hid (h.1.mono hb0)
  have HS := Lib.hid (hs.mono hb0)
  have HN := Lib.hid hn
  have HMM := Lib.hid hmm
  have HB0 := Lib.hid hb0
  have HX := Lib.hid hx0
  have HLT := Lib.hid hlt0
  clear h hf hs hn hmm hb0 hx0 hlt0 hm hm1 hsl
  go_enter Try.func28, Try.ntmps28
  go_upto_region 1 with fail
  generalize hW : w.alloc (.cells #[.slice aM n cM, vb, vc] 26) = W1 at *
  clear hW
  obtain ⟨gr, hgr⟩ : ∃ g, g = w.heap.size := ⟨_, rfl⟩
  rw [← hgr] at HX HLT ⊢
  have HGR := Lib.hid hgr
  clear hgr
  have hcx := HX.out.cell (j := 0) rfl
  go_wp2_with fail
  clear hcx
  go_loopw [5, 6] (fun v5 v6 wr => ∃ (k : Nat) (a : Option Addr) (n5 c5 : Nat), k ≤ n ∧ v6 = .int .i64 k ∧ v5 = .slice a n5 c5 ∧ OwnI 3 wr W1.heap.size (.slice a n5 c5) (thoseTo R sts k) ∧ Below W1.heap.size W1 wr) (fun _ v _ => n - (intOf v).toNat)
  case atStart => exact ⟨0, none, 0, 0, Nat.zero_le _, rfl, rfl, OwnI.empty _ _ _, Below.refl _ _⟩
  case round =>
    obtain ⟨k, a5, n5, c5, hk, rfl, rfl, ho, hbel⟩ := hrel
    have HO := Lib.hid ho
    have HBi := Lib.hid hbel
    clear ho hbel
    have HRi : Hid (HT wr gr 26 [.slice aM n cM, vb, vc]) := HX.out.belowB HBi.out HLT.out
    have hd0 := HRi.out.cell (j := 0) rfl
    by_cases hlt : k < n
    · have hkR : k < R.M.length := by rw [← HN.out]; exact hlt
      obtain ⟨gb, ob, rfl, _, hcb⟩ := (HR.out.mono HBi.out).at (by omega) (by decide)
      obtain ⟨c, hc⟩ : ∃ c, c = R.M[k] := ⟨_, rfl⟩
      have HCB : Hid (∀ j v, [.int .i64 c.no, .int .i64 c.state, .int .i64 c.need][j]? = some v → wr.cell? ⟨gb, ob + k * 3 + j, none⟩ = some v) := fun j v h => hcb k hkR j v (by rw [← hc]; exact h)
      have hk0 : (0 : Int) ≤ k := by omega
      have hk1 : (k : Int) < n := by omega
      have HCC := Lib.hid hc
      clear hcb hc
      go_wp2_with fail
      clear hd0
      generalize wr = wo at *
      go_loopw [7, 8] (fun v7 v8 wr => ∃ j : Nat, j ≤ m ∧ v8 = .int .i64 (j : Int) ∧ v7 = .bool (inB (sts.take j) c.state) ∧ Below wo.heap.size wo wr) (fun _ v _ => m - (intOf v).toNat)
      case atStart => exact ⟨0, Nat.zero_le _, rfl, rfl, Below.refl _ _⟩
      case round =>
        obtain ⟨j, hj, rfl, rfl, hbel⟩ := hrel
        have HBk := Lib.hid hbel
        clear hbel
        obtain ⟨b, hb⟩ : ∃ b, b = inB (sts.take j) c.state := ⟨_, rfl⟩
        rw [← hb]
        have HBV := Lib.hid hb
        clear hb
        by_cases hjm : j < m
        · have hjs : j < sts.length := by rw [← HMM.out]; exact hjm
          obtain ⟨ga, oa, rfl, _, hca⟩ := (HS.out.mono (HBi.out.trans (HBk.out.mono HBi.out.size))).at (by omega)
          obtain ⟨x, hx⟩ : ∃ x, x = sts[j] := ⟨_, rfl⟩
          have hxc := hca j hjs
          rw [← hx] at hxc
          have HX0 := Lib.hid hxc
          have HR0 := Lib.hid ((HRi.out.below HBk.out).cell (j := 0) rfl)
          have HC1 : Hid (wr.cell? ⟨gb, ob + k * 3 + 1, none⟩ = some (.int .i64 c.state)) := BL.cell (W := wo) HBk.out (HCB.out 1 _ rfl)
          have hnx := inB_next (s := c.state) hjs
          rw [← HBV.out, ← hx] at hnx
          have hj0 : (0 : Int) ≤ j := by omega
          have hj1 : (j : Int) < m := by omega
          clear hca hx hxc
          cases b
          case true =>
            have HNX : Hid (inB (sts.take (j + 1)) c.state = true) := by show _ = _; rw [hnx]; rfl
            clear hnx HBV
            go_wp2_with fail
            refine wp_region_bl 15 (by kernel_rfl) ?_
            refine wpAnyU_take (i := 0) (oi := { dst := some 22, op := Op.move (Operand.tmp 7), type := 4, pos := "ref.go:208", after := #[], guard := none }) (v := (.bool true)) rfl (by kernel_rfl) (by kernel_rfl) (by kernel_rfl) (by kernel_rfl) (by kernel_rfl) (fun _ _ _ h => h) (BL.cls wr) ?_ ?_
            · refine Or.inl ⟨rfl, fun w hSw => ?_⟩
              exact EffR.same (by go_simp)
            try simp only [Act.put, List.setIfInBounds_toArray, List.set_cons_zero, List.set_cons_succ]
            refine wpAnyU_take (i := 1) (oi := { dst := some 23, op := Op.move (Operand.tmp 22), type := 4, pos := "ref.go:208", after := #[{ on := 0, ground := Ground.data }], guard := none }) (v := (.bool true)) rfl (by kernel_rfl) (by kernel_rfl) (by kernel_rfl) (by kernel_rfl) (by kernel_rfl) (fun _ _ _ h => h) (BL.cls wr) ?_ ?_
            · refine Or.inl ⟨rfl, fun w hSw => ?_⟩
              exact EffR.same (by go_simp)
            try simp only [Act.put, List.setIfInBounds_toArray, List.set_cons_zero, List.set_cons_succ]
            refine wpAnyU_take (i := 2) (oi := { dst := some 24, op := Op.move (Operand.tmp 1), type := 27, pos := "ref.go:208", after := #[{ on := 1, ground := Ground.guard }], guard := some (1, false) }) (v := undef) rfl (by kernel_rfl) (by kernel_rfl) (by kernel_rfl) (by kernel_rfl) (by kernel_rfl) (fun _ _ _ h => h) (BL.cls wr) ?_ ?_
            · exact Or.inr ⟨rfl, rfl⟩
            try simp only [Act.put, List.setIfInBounds_toArray, List.set_cons_zero, List.set_cons_succ]
            refine wpAnyU_take (i := 3) (oi := { dst := some 25, op := Op.move (Operand.tmp 8), type := 3, pos := "ref.go:208", after := #[{ on := 1, ground := Ground.guard }], guard := some (1, false) }) (v := undef) rfl (by kernel_rfl) (by kernel_rfl) (by kernel_rfl) (by kernel_rfl) (by kernel_rfl) (fun _ _ _ h => h) (BL.cls wr) ?_ ?_
            · exact Or.inr ⟨rfl, rfl⟩
            try simp only [Act.put, List.setIfInBounds_toArray, List.set_cons_zero, List.set_cons_succ]
            refine wpAnyU_take (i := 4) (oi := { dst := some 26, op := Op.indexAddr 27 (Operand.tmp 24) (Operand.tmp 25), type := 0, pos := "ref.go:208", after := #[{ on := 2, ground := Ground.data }, { on := 3, ground := Ground.data }, { on := 1, ground := Ground.guard }], guard := some (1, false) }) (v := undef) rfl (by kernel_rfl) (by kernel_rfl) (by kernel_rfl) (by kernel_rfl) (by kernel_rfl) (fun _ _ _ h => h) (BL.cls wr) ?_ ?_
            · exact Or.inr ⟨rfl, rfl⟩
            try simp only [Act.put, List.setIfInBounds_toArray, List.set_cons_zero, List.set_cons_succ]
            refine wpAnyU_take (i := 5) (oi := { dst := some 27, op := Op.load 3 (Operand.tmp 26), type := 3, pos := "ref.go:208", after := #[{ on := 4, ground := Ground.data }, { on := 1, ground := Ground.guard }], guard := some (1, false) }) (v := undef) rfl (by kernel_rfl) (by kernel_rfl) (by kernel_rfl) (by kernel_rfl) (by kernel_rfl) (fun _ _ _ h => h) (BL.cls wr) ?_ ?_
            · exact Or.inr ⟨rfl, rfl⟩
            try simp only [Act.put, List.setIfInBounds_toArray, List.set_cons_zero, List.set_cons_succ]
            refine wpAnyU_take (i := 6) (oi := { dst := some 28, op := Op.fieldAddr 26 (Operand.tmp 2) 0, type := 0, pos := "ref.go:208", after := #[{ on := 1, ground := Ground.guard }], guard := some (1, false) }) (v := undef) rfl (by kernel_rfl) (by kernel_rfl) (by kernel_rfl) (by kernel_rfl) (by kernel_rfl) (fun _ _ _ h => h) (BL.cls wr) ?_ ?_
            · exact Or.inr ⟨rfl, rfl⟩
            try simp only [Act.put, List.setIfInBounds_toArray, List.set_cons_zero, List.set_cons_succ]
            refine wpAnyU_take (i := 7) (oi := { dst := some 29, op := Op.load 22 (Operand.tmp 28), type := 22, pos := "ref.go:208", after := #[{ on := 6, ground := Ground.data }, { on := 1, ground := Ground.guard }], guard := some (1, false) }) (v := undef) rfl (by kernel_rfl) (by kernel_rfl) (by kernel_rfl) (by kernel_rfl) (by kernel_rfl) (fun _ _ _ h => h) (BL.cls wr) ?_ ?_
            · exact Or.inr ⟨rfl, rfl⟩
            try simp only [Act.put, List.setIfInBounds_toArray, List.set_cons_zero, List.set_cons_succ]
            refine wpAnyU_take (i := 8) (oi := { dst := some 30, op := Op.move (Operand.tmp 6), type := 3, pos := "ref.go:208", after := #[{ on := 1, ground := Ground.guard }], guard := some (1, false) }) (v := undef) rfl (by kernel_rfl) (by kernel_rfl) (by kernel_rfl) (by kernel_rfl) (by kernel_rfl) (fun _ _ _ h => h) (BL.cls wr) ?_ ?_
            · exact Or.inr ⟨rfl, rfl⟩
            try simp only [Act.put, List.setIfInBounds_toArray, List.set_cons_zero, List.set_cons_succ]
            refine wpAnyU_take (i := 9) (oi := { dst := some 31, op := Op.indexAddr 22 (Operand.tmp 29) (Operand.tmp 30), type := 0, pos := "ref.go:208", after := #[{ on := 7, ground := Ground.data }, { on := 8, ground := Ground.data }, { on := 1, ground := Ground.guard }], guard := some (1, false) }) (v := undef) rfl (by kernel_rfl) (by kernel_rfl) (by kernel_rfl) (by kernel_rfl) (by kernel_rfl) (fun _ _ _ h => h) (BL.cls wr) ?_ ?_
            · exact Or.inr ⟨rfl, rfl⟩
            try simp only [Act.put, List.setIfInBounds_toArray, List.set_cons_zero, List.set_cons_succ]
            refine wpAnyU_take (i := 10) (oi := { dst := some 32, op := Op.fieldAddr 33 (Operand.tmp 31) 1, type := 0, pos := "ref.go:208", after := #[{ on := 9, ground := Ground.data }, { on := 1, ground := Ground.guard }], guard := some (1, false) }) (v := undef) rfl (by kernel_rfl) (by kernel_rfl) (by kernel_rfl) (by kernel_rfl) (by kernel_rfl) (fun _ _ _ h => h) (BL.cls wr) ?_ ?_
            · exact Or.inr ⟨rfl, rfl⟩
            try simp only [Act.put, List.setIfInBounds_toArray, List.set_cons_zero, List.set_cons_succ]
            refine wpAnyU_take (i := 11) (oi := { dst := some 33, op := Op.load 3 (Operand.tmp 32), type := 3, pos := "ref.go:208", after := #[{ on := 10, ground := Ground.data }, { on := 1, ground := Ground.guard }], guard := some (1, false) }) (v := undef) rfl (by kernel_rfl) (by kernel_rfl) (by kernel_rfl) (by kernel_rfl) (by kernel_rfl) (fun _ _ _ h => h) (BL.cls wr) ?_ ?_
            · exact Or.inr ⟨rfl, rfl⟩
            try simp only [Act.put, List.setIfInBounds_toArray, List.set_cons_zero, List.set_cons_succ]
            refine wpAnyU_take (i := 12) (oi := { dst := some 34, op := Op.binOp BinOp.eql 3 (Operand.tmp 27) (Operand.tmp 33) 3, type := 4, pos := "ref.go:208", after := #[{ on := 5, ground := Ground.data }, { on := 11, ground := Ground.data }, { on := 1, ground := Ground.guard }], guard := some (1, false) }) (v := undef) rfl (by kernel_rfl) (by kernel_rfl) (by kernel_rfl) (by kernel_rfl) (by kernel_rfl) (fun _ _ _ h => h) (BL.cls wr) ?_ ?_
            · exact Or.inr ⟨rfl, rfl⟩
            try simp only [Act.put, List.setIfInBounds_toArray, List.set_cons_zero, List.set_cons_succ]
            refine wpAnyU_take (i := 13) (oi := { dst := some 35, op := Op.pick (Operand.tmp 23) (Operand.const (Value.bool true)) (Operand.tmp 34), type := 4, pos := "ref.go:208", after := #[{ on := 1, ground := Ground.data }, { on := 12, ground := Ground.data }], guard := none }) (v := (.bool true)) rfl (by kernel_rfl) (by kernel_rfl) (by kernel_rfl) (by kernel_rfl) (by kernel_rfl) (fun _ _ _ h => h) (BL.cls wr) ?_ ?_
            · refine Or.inl ⟨rfl, fun w hSw => ?_⟩
              exact EffR.same (by go_simp)
            try simp only [Act.put, List.setIfInBounds_toArray, List.set_cons_zero, List.set_cons_succ]
            refine wpAnyU_take (i := 14) (oi := { dst := some 7, op := Op.assign (Operand.tmp 35), type := 4, pos := "ref.go:208", after := #[{ on := 13, ground := Ground.data }, { on := 1, ground := Ground.chain }, { on := 0, ground := Ground.phase }, { on := 1, ground := Ground.phase }, { on := 2, ground := Ground.phase }, { on := 3, ground := Ground.phase }, { on := 4, ground := Ground.phase }, { on := 5, ground := Ground.phase }, { on := 6, ground := Ground.phase }, { on := 7, ground := Ground.phase }, { on := 8, ground := Ground.phase }, { on := 9, ground := Ground.phase }, { on := 10, ground := Ground.phase }, { on := 11, ground := Ground.phase }, { on := 12, ground := Ground.phase }, { on := 13, ground := Ground.phase }], guard := none }) (v := (.bool true)) rfl (by kernel_rfl) (by kernel_rfl) (by kernel_rfl) (by kernel_rfl) (by kernel_rfl) (fun _ _ _ h => h) (BL.cls wr) ?_ ?_
            · refine Or.inl ⟨rfl, fun w hSw => ?_⟩
              exact EffR.same (by go_simp)
            try simp only [Act.put, List.setIfInBounds_toArray, List.set_cons_zero, List.set_cons_succ]
            refine wpAnyU_done (by kernel_rfl) (fun w1 hb1 => ?_) _
            have HBn := Lib.hid (HBk.out.next hb1)
            clear hb1
            go_wp2_with fail
            exact ⟨⟨j + 1, by omega, by push_cast; rfl, by rw [HNX.out], HBn.out⟩, by simp [intOf]; omega⟩
          case false =>
            by_cases hxe : x = c.state
            · have hxe2 : (x == c.state) = true := by simpa using hxe
              have HNX : Hid (inB (sts.take (j + 1)) c.state = true) := by show _ = _; rw [hnx, hxe2]; rfl
              clear hnx HBV hxe
              go_wp2_with fail
              refine wp_region_bl 15 (by kernel_rfl) ?_
              refine wpAnyU_take (i := 0) (oi := { dst := some 22, op := Op.move (Operand.tmp 7), type := 4, pos := "ref.go:208", after := #[], guard := none }) (v := (.bool false)) rfl (by kernel_rfl) (by kernel_rfl) (by kernel_rfl) (by kernel_rfl) (by kernel_rfl) (fun _ _ _ h => h) (BL.cls wr) ?_ ?_
              · refine Or.inl ⟨rfl, fun w hSw => ?_⟩
                exact EffR.same (by go_simp)
              try simp only [Act.put, List.setIfInBounds_toArray, List.set_cons_zero, List.set_cons_succ]
              refine wpAnyU_take (i := 1) (oi := { dst := some 23, op := Op.move (Operand.tmp 22), type := 4, pos := "ref.go:208", after := #[{ on := 0, ground := Ground.data }], guard := none }) (v := (.bool false)) rfl (by kernel_rfl) (by kernel_rfl) (by kernel_rfl) (by kernel_rfl) (by kernel_rfl) (fun _ _ _ h => h) (BL.cls wr) ?_ ?_
              · refine Or.inl ⟨rfl, fun w hSw => ?_⟩
                exact EffR.same (by go_simp)
              try simp only [Act.put, List.setIfInBounds_toArray, List.set_cons_zero, List.set_cons_succ]
              refine wpAnyU_take (i := 2) (oi := { dst := some 24, op := Op.move (Operand.tmp 1), type := 27, pos := "ref.go:208", after := #[{ on := 1, ground := Ground.guard }], guard := some (1, false) }) (v := (.slice (some ⟨ga, oa, none⟩) m cap1)) rfl (by kernel_rfl) (by kernel_rfl) (by kernel_rfl) (by kernel_rfl) (by kernel_rfl) (fun _ _ _ h => h) (BL.cls wr) ?_ ?_
              · refine Or.inl ⟨rfl, fun w hSw => ?_⟩
                exact EffR.same (by go_simp)
              try simp only [Act.put, List.setIfInBounds_toArray, List.set_cons_zero, List.set_cons_succ]
              refine wpAnyU_take (i := 3) (oi := { dst := some 25, op := Op.move (Operand.tmp 8), type := 3, pos := "ref.go:208", after := #[{ on := 1, ground := Ground.guard }], guard := some (1, false) }) (v := (.int .i64 (j : Int))) rfl (by kernel_rfl) (by kernel_rfl) (by kernel_rfl) (by kernel_rfl) (by kernel_rfl) (fun _ _ _ h => h) (BL.cls wr) ?_ ?_
              · refine Or.inl ⟨rfl, fun w hSw => ?_⟩
                exact EffR.same (by go_simp)
              try simp only [Act.put, List.setIfInBounds_toArray, List.set_cons_zero, List.set_cons_succ]
              refine wpAnyU_take (i := 4) (oi := { dst := some 26, op := Op.indexAddr 27 (Operand.tmp 24) (Operand.tmp 25), type := 0, pos := "ref.go:208", after := #[{ on := 2, ground := Ground.data }, { on := 3, ground := Ground.data }, { on := 1, ground := Ground.guard }], guard := some (1, false) }) (v := (.pointer (some ⟨ga, oa + j, none⟩))) rfl (by kernel_rfl) (by kernel_rfl) (by kernel_rfl) (by kernel_rfl) (by kernel_rfl) (fun _ _ _ h => h) (BL.cls wr) ?_ ?_
              · refine Or.inl ⟨rfl, fun w hSw => ?_⟩
                exact EffR.same (by go_simp)
              try simp only [Act.put, List.setIfInBounds_toArray, List.set_cons_zero, List.set_cons_succ]
              refine wpAnyU_take (i := 5) (oi := { dst := some 27, op := Op.load 3 (Operand.tmp 26), type := 3, pos := "ref.go:208", after := #[{ on := 4, ground := Ground.data }, { on := 1, ground := Ground.guard }], guard := some (1, false) }) (v := (.int .i64 x)) rfl (by kernel_rfl) (by kernel_rfl) (by kernel_rfl) (by kernel_rfl) (by kernel_rfl) (fun _ _ _ h => h) (BL.cls wr) ?_ ?_
              · refine Or.inl ⟨rfl, fun w hSw => ?_⟩
                have e0 : w.cell? ⟨ga, oa + j, none⟩ = some (.int .i64 x) := BL.cell hSw HX0.out
                exact EffR.same (by go_simp)
              try simp only [Act.put, List.setIfInBounds_toArray, List.set_cons_zero, List.set_cons_succ]
              refine wpAnyU_take (i := 6) (oi := { dst := some 28, op := Op.fieldAddr 26 (Operand.tmp 2) 0, type := 0, pos := "ref.go:208", after := #[{ on := 1, ground := Ground.guard }], guard := some (1, false) }) (v := (.pointer (some ⟨gr, 0, none⟩))) rfl (by kernel_rfl) (by kernel_rfl) (by kernel_rfl) (by kernel_rfl) (by kernel_rfl) (fun _ _ _ h => h) (BL.cls wr) ?_ ?_
              · refine Or.inl ⟨rfl, fun w hSw => ?_⟩
                exact EffR.same (by go_simp)
              try simp only [Act.put, List.setIfInBounds_toArray, List.set_cons_zero, List.set_cons_succ]
              refine wpAnyU_take (i := 7) (oi := { dst := some 29, op := Op.load 22 (Operand.tmp 28), type := 22, pos := "ref.go:208", after := #[{ on := 6, ground := Ground.data }, { on := 1, ground := Ground.guard }], guard := some (1, false) }) (v := (.slice (some ⟨gb, ob, none⟩) n cM)) rfl (by kernel_rfl) (by kernel_rfl) (by kernel_rfl) (by kernel_rfl) (by kernel_rfl) (fun _ _ _ h => h) (BL.cls wr) ?_ ?_
              · refine Or.inl ⟨rfl, fun w hSw => ?_⟩
                have e0 : w.cell? ⟨gr, 0, none⟩ = some (.slice (some ⟨gb, ob, none⟩) n cM) := BL.cell hSw HR0.out
                exact EffR.same (by go_simp)
              try simp only [Act.put, List.setIfInBounds_toArray, List.set_cons_zero, List.set_cons_succ]
              refine wpAnyU_take (i := 8) (oi := { dst := some 30, op := Op.move (Operand.tmp 6), type := 3, pos := "ref.go:208", after := #[{ on := 1, ground := Ground.guard }], guard := some (1, false) }) (v := (.int .i64 (k : Int))) rfl (by kernel_rfl) (by kernel_rfl) (by kernel_rfl) (by kernel_rfl) (by kernel_rfl) (fun _ _ _ h => h) (BL.cls wr) ?_ ?_
              · refine Or.inl ⟨rfl, fun w hSw => ?_⟩
                exact EffR.same (by go_simp)
              try simp only [Act.put, List.setIfInBounds_toArray, List.set_cons_zero, List.set_cons_succ]
              refine wpAnyU_take (i := 9) (oi := { dst := some 31, op := Op.indexAddr 22 (Operand.tmp 29) (Operand.tmp 30), type := 0, pos := "ref.go:208", after := #[{ on := 7, ground := Ground.data }, { on := 8, ground := Ground.data }, { on := 1, ground := Ground.guard }], guard := some (1, false) }) (v := (.pointer (some ⟨gb, ob + k * 3, none⟩))) rfl (by kernel_rfl) (by kernel_rfl) (by kernel_rfl) (by kernel_rfl) (by kernel_rfl) (fun _ _ _ h => h) (BL.cls wr) ?_ ?_
              · refine Or.inl ⟨rfl, fun w hSw => ?_⟩
                exact EffR.same (by go_simp)
              try simp only [Act.put, List.setIfInBounds_toArray, List.set_cons_zero, List.set_cons_succ]
              refine wpAnyU_take (i := 10) (oi := { dst := some 32, op := Op.fieldAddr 33 (Operand.tmp 31) 1, type := 0, pos := "ref.go:208", after := #[{ on := 9, ground := Ground.data }, { on := 1, ground := Ground.guard }], guard := some (1, false) }) (v := (.pointer (some ⟨gb, ob + k * 3 + 1, none⟩))) rfl (by kernel_rfl) (by kernel_rfl) (by kernel_rfl) (by kernel_rfl) (by kernel_rfl) (fun _ _ _ h => h) (BL.cls wr) ?_ ?_
              · refine Or.inl ⟨rfl, fun w hSw => ?_⟩
                exact EffR.same (by go_simp)
              try simp only [Act.put, List.setIfInBounds_toArray, List.set_cons_zero, List.set_cons_succ]
              refine wpAnyU_take (i := 11) (oi := { dst := some 33, op := Op.load 3 (Operand.tmp 32), type := 3, pos := "ref.go:208", after := #[{ on := 10, ground := Ground.data }, { on := 1, ground := Ground.guard }], guard := some (1, false) }) (v := (.int .i64 c.state)) rfl (by kernel_rfl) (by kernel_rfl) (by kernel_rfl) (by kernel_rfl) (by kernel_rfl) (fun _ _ _ h => h) (BL.cls wr) ?_ ?_
              · refine Or.inl ⟨rfl, fun w hSw => ?_⟩
                have e0 : w.cell? ⟨gb, ob + k * 3 + 1, none⟩ = some (.int .i64 c.state) := BL.cell hSw HC1.out
                exact EffR.same (by go_simp)
              try simp only [Act.put, List.setIfInBounds_toArray, List.set_cons_zero, List.set_cons_succ]
              refine wpAnyU_take (i := 12) (oi := { dst := some 34, op := Op.binOp BinOp.eql 3 (Operand.tmp 27) (Operand.tmp 33) 3, type := 4, pos := "ref.go:208", after := #[{ on := 5, ground := Ground.data }, { on := 11, ground := Ground.data }, { on := 1, ground := Ground.guard }], guard := some (1, false) }) (v := (.bool true)) rfl (by kernel_rfl) (by kernel_rfl) (by kernel_rfl) (by kernel_rfl) (by kernel_rfl) (fun _ _ _ h => h) (BL.cls wr) ?_ ?_
              · refine Or.inl ⟨rfl, fun w hSw => ?_⟩
                exact EffR.same (by go_simp)
              try simp only [Act.put, List.setIfInBounds_toArray, List.set_cons_zero, List.set_cons_succ]
              refine wpAnyU_take (i := 13) (oi := { dst := some 35, op := Op.pick (Operand.tmp 23) (Operand.const (Value.bool true)) (Operand.tmp 34), type := 4, pos := "ref.go:208", after := #[{ on := 1, ground := Ground.data }, { on := 12, ground := Ground.data }], guard := none }) (v := (.bool true)) rfl (by kernel_rfl) (by kernel_rfl) (by kernel_rfl) (by kernel_rfl) (by kernel_rfl) (fun _ _ _ h => h) (BL.cls wr) ?_ ?_
              · refine Or.inl ⟨rfl, fun w hSw => ?_⟩
                exact EffR.same (by go_simp)
              try simp only [Act.put, List.setIfInBounds_toArray, List.set_cons_zero, List.set_cons_succ]
              refine wpAnyU_take (i := 14) (oi := { dst := some 7, op := Op.assign (Operand.tmp 35), type := 4, pos := "ref.go:208", after := #[{ on := 13, ground := Ground.data }, { on := 1, ground := Ground.chain }, { on := 0, ground := Ground.phase }, { on := 1, ground := Ground.phase }, { on := 2, ground := Ground.phase }, { on := 3, ground := Ground.phase }, { on := 4, ground := Ground.phase }, { on := 5, ground := Ground.phase }, { on := 6, ground := Ground.phase }, { on := 7, ground := Ground.phase }, { on := 8, ground := Ground.phase }, { on := 9, ground := Ground.phase }, { on := 10, ground := Ground.phase }, { on := 11, ground := Ground.phase }, { on := 12, ground := Ground.phase }, { on := 13, ground := Ground.phase }], guard := none }) (v := (.bool true)) rfl (by kernel_rfl) (by kernel_rfl) (by kernel_rfl) (by kernel_rfl) (by kernel_rfl) (fun _ _ _ h => h) (BL.cls wr) ?_ ?_
              · refine Or.inl ⟨rfl, fun w hSw => ?_⟩
                exact EffR.same (by go_simp)
              try simp only [Act.put, List.setIfInBounds_toArray, List.set_cons_zero, List.set_cons_succ]
              refine wpAnyU_done (by kernel_rfl) (fun w1 hb1 => ?_) _
              have HBn := Lib.hid (HBk.out.next hb1)
              clear hb1
              go_wp2_with fail
              exact ⟨⟨j + 1, by omega, by push_cast; rfl, by rw [HNX.out], HBn.out⟩, by simp [intOf]; omega⟩
            · have hxe2 : (x == c.state) = false := by simpa using hxe
              have HNX : Hid (inB (sts.take (j + 1)) c.state = false) := by show _ = _; rw [hnx, hxe2]; rfl
              clear hnx HBV hxe
              go_wp2_with fail
              refine wp_region_bl 15 (by kernel_rfl) ?_
              refine wpAnyU_take (i := 0) (oi := { dst := some 22, op := Op.move (Operand.tmp 7), type := 4, pos := "ref.go:208", after := #[], guard := none }) (v := (.bool false)) rfl (by kernel_rfl) (by kernel_rfl) (by kernel_rfl) (by kernel_rfl) (by kernel_rfl) (fun _ _ _ h => h) (BL.cls wr) ?_ ?_
              · refine Or.inl ⟨rfl, fun w hSw => ?_⟩
                exact EffR.same (by go_simp)
              try simp only [Act.put, List.setIfInBounds_toArray, List.set_cons_zero, List.set_cons_succ]
              refine wpAnyU_take (i := 1) (oi := { dst := some 23, op := Op.move (Operand.tmp 22), type := 4, pos := "ref.go:208", after := #[{ on := 0, ground := Ground.data }], guard := none }) (v := (.bool false)) rfl (by kernel_rfl) (by kernel_rfl) (by kernel_rfl) (by kernel_rfl) (by kernel_rfl) (fun _ _ _ h => h) (BL.cls wr) ?_ ?_
              · refine Or.inl ⟨rfl, fun w hSw => ?_⟩
                exact EffR.same (by go_simp)
              try simp only [Act.put, List.setIfInBounds_toArray, List.set_cons_zero, List.set_cons_succ]
              refine wpAnyU_take (i := 2) (oi := { dst := some 24, op := Op.move (Operand.tmp 1), type := 27, pos := "ref.go:208", after := #[{ on := 1, ground := Ground.guard }], guard := some (1, false) }) (v := (.slice (some ⟨ga, oa, none⟩) m cap1)) rfl (by kernel_rfl) (by kernel_rfl) (by kernel_rfl) (by kernel_rfl) (by kernel_rfl) (fun _ _ _ h => h) (BL.cls wr) ?_ ?_
              · refine Or.inl ⟨rfl, fun w hSw => ?_⟩
                exact EffR.same (by go_simp)
              try simp only [Act.put, List.setIfInBounds_toArray, List.set_cons_zero, List.set_cons_succ]
              refine wpAnyU_take (i := 3) (oi := { dst := some 25, op := Op.move (Operand.tmp 8), type := 3, pos := "ref.go:208", after := #[{ on := 1, ground := Ground.guard }], guard := some (1, false) }) (v := (.int .i64 (j : Int))) rfl (by kernel_rfl) (by kernel_rfl) (by kernel_rfl) (by kernel_rfl) (by kernel_rfl) (fun _ _ _ h => h) (BL.cls wr) ?_ ?_
              · refine Or.inl ⟨rfl, fun w hSw => ?_⟩
                exact EffR.same (by go_simp)
              try simp only [Act.put, List.setIfInBounds_toArray, List.set_cons_zero, List.set_cons_succ]
              refine wpAnyU_take (i := 4) (oi := { dst := some 26, op := Op.indexAddr 27 (Operand.tmp 24) (Operand.tmp 25), type := 0, pos := "ref.go:208", after := #[{ on := 2, ground := Ground.data }, { on := 3, ground := Ground.data }, { on := 1, ground := Ground.guard }], guard := some (1, false) }) (v := (.pointer (some ⟨ga, oa + j, none⟩))) rfl (by kernel_rfl) (by kernel_rfl) (by kernel_rfl) (by kernel_rfl) (by kernel_rfl) (fun _ _ _ h => h) (BL.cls wr) ?_ ?_
              · refine Or.inl ⟨rfl, fun w hSw => ?_⟩
                exact EffR.same (by go_simp)
              try simp only [Act.put, List.setIfInBounds_toArray, List.set_cons_zero, List.set_cons_succ]
              refine wpAnyU_take (i := 5) (oi := { dst := some 27, op := Op.load 3 (Operand.tmp 26), type := 3, pos := "ref.go:208", after := #[{ on := 4, ground := Ground.data }, { on := 1, ground := Ground.guard }], guard := some (1, false) }) (v := (.int .i64 x)) rfl (by kernel_rfl) (by kernel_rfl) (by kernel_rfl) (by kernel_rfl) (by kernel_rfl) (fun _ _ _ h => h) (BL.cls wr) ?_ ?_
              · refine Or.inl ⟨rfl, fun w hSw => ?_⟩
                have e0 : w.cell? ⟨ga, oa + j, none⟩ = some (.int .i64 x) := BL.cell hSw HX0.out
                exact EffR.same (by go_simp)
              try simp only [Act.put, List.setIfInBounds_toArray, List.set_cons_zero, List.set_cons_succ]
              refine wpAnyU_take (i := 6) (oi := { dst := some 28, op := Op.fieldAddr 26 (Operand.tmp 2) 0, type := 0, pos := "ref.go:208", after := #[{ on := 1, ground := Ground.guard }], guard := some (1, false) }) (v := (.pointer (some ⟨gr, 0, none⟩))) rfl (by kernel_rfl) (by kernel_rfl) (by kernel_rfl) (by kernel_rfl) (by kernel_rfl) (fun _ _ _ h => h) (BL.cls wr) ?_ ?_
              · refine Or.inl ⟨rfl, fun w hSw => ?_⟩
                exact EffR.same (by go_simp)
              try simp only [Act.put, List.setIfInBounds_toArray, List.set_cons_zero, List.set_cons_succ]
              refine wpAnyU_take (i := 7) (oi := { dst := some 29, op := Op.load 22 (Operand.tmp 28), type := 22, pos := "ref.go:208", after := #[{ on := 6, ground := Ground.data }, { on := 1, ground := Ground.guard }], guard := some (1, false) }) (v := (.slice (some ⟨gb, ob, none⟩) n cM)) rfl (by kernel_rfl) (by kernel_rfl) (by kernel_rfl) (by kernel_rfl) (by kernel_rfl) (fun _ _ _ h => h) (BL.cls wr) ?_ ?_
              · refine Or.inl ⟨rfl, fun w hSw => ?_⟩
                have e0 : w.cell? ⟨gr, 0, none⟩ = some (.slice (some ⟨gb, ob, none⟩) n cM) := BL.cell hSw HR0.out
                exact EffR.same (by go_simp)
              try simp only [Act.put, List.setIfInBounds_toArray, List.set_cons_zero, List.set_cons_succ]
              refine wpAnyU_take (i := 8) (oi := { dst := some 30, op := Op.move (Operand.tmp 6), type := 3, pos := "ref.go:208", after := #[{ on := 1, ground := Ground.guard }], guard := some (1, false) }) (v := (.int .i64 (k : Int))) rfl (by kernel_rfl) (by kernel_rfl) (by kernel_rfl) (by kernel_rfl) (by kernel_rfl) (fun _ _ _ h => h) (BL.cls wr) ?_ ?_
              · refine Or.inl ⟨rfl, fun w hSw => ?_⟩
                exact EffR.same (by go_simp)
              try simp only [Act.put, List.setIfInBounds_toArray, List.set_cons_zero, List.set_cons_succ]
              refine wpAnyU_take (i := 9) (oi := { dst := some 31, op := Op.indexAddr 22 (Operand.tmp 29) (Operand.tmp 30), type := 0, pos := "ref.go:208", after := #[{ on := 7, ground := Ground.data }, { on := 8, ground := Ground.data }, { on := 1, ground := Ground.guard }], guard := some (1, false) }) (v := (.pointer (some ⟨gb, ob + k * 3, none⟩))) rfl (by kernel_rfl) (by kernel_rfl) (by kernel_rfl) (by kernel_rfl) (by kernel_rfl) (fun _ _ _ h => h) (BL.cls wr) ?_ ?_
              · refine Or.inl ⟨rfl, fun w hSw => ?_⟩
                exact EffR.same (by go_simp)
              try simp only [Act.put, List.setIfInBounds_toArray, List.set_cons_zero, List.set_cons_succ]
              refine wpAnyU_take (i := 10) (oi := { dst := some 32, op := Op.fieldAddr 33 (Operand.tmp 31) 1, type := 0, pos := "ref.go:208", after := #[{ on := 9, ground := Ground.data }, { on := 1, ground := Ground.guard }], guard := some (1, false) }) (v := (.pointer (some ⟨gb, ob + k * 3 + 1, none⟩))) rfl (by kernel_rfl) (by kernel_rfl) (by kernel_rfl) (by kernel_rfl) (by kernel_rfl) (fun _ _ _ h => h) (BL.cls wr) ?_ ?_
              · refine Or.inl ⟨rfl, fun w hSw => ?_⟩
                exact EffR.same (by go_simp)
              try simp only [Act.put, List.setIfInBounds_toArray, List.set_cons_zero, List.set_cons_succ]
              refine wpAnyU_take (i := 11) (oi := { dst := some 33, op := Op.load 3 (Operand.tmp 32), type := 3, pos := "ref.go:208", after := #[{ on := 10, ground := Ground.data }, { on := 1, ground := Ground.guard }], guard := some (1, false) }) (v := (.int .i64 c.state)) rfl (by kernel_rfl) (by kernel_rfl) (by kernel_rfl) (by kernel_rfl) (by kernel_rfl) (fun _ _ _ h => h) (BL.cls wr) ?_ ?_
              · refine Or.inl ⟨rfl, fun w hSw => ?_⟩
                have e0 : w.cell? ⟨gb, ob + k * 3 + 1, none⟩ = some (.int .i64 c.state) := BL.cell hSw HC1.out
                exact EffR.same (by go_simp)
              try simp only [Act.put, List.setIfInBounds_toArray, List.set_cons_zero, List.set_cons_succ]
              refine wpAnyU_take (i := 12) (oi := { dst := some 34, op := Op.binOp BinOp.eql 3 (Operand.tmp 27) (Operand.tmp 33) 3, type := 4, pos := "ref.go:208", after := #[{ on := 5, ground := Ground.data }, { on := 11, ground := Ground.data }, { on := 1, ground := Ground.guard }], guard := some (1, false) }) (v := (.bool false)) rfl (by kernel_rfl) (by kernel_rfl) (by kernel_rfl) (by kernel_rfl) (by kernel_rfl) (fun _ _ _ h => h) (BL.cls wr) ?_ ?_
              · refine Or.inl ⟨rfl, fun w hSw => ?_⟩
                exact EffR.same (by go_simp)
              try simp only [Act.put, List.setIfInBounds_toArray, List.set_cons_zero, List.set_cons_succ]
              refine wpAnyU_take (i := 13) (oi := { dst := some 35, op := Op.pick (Operand.tmp 23) (Operand.const (Value.bool true)) (Operand.tmp 34), type := 4, pos := "ref.go:208", after := #[{ on := 1, ground := Ground.data }, { on := 12, ground := Ground.data }], guard := none }) (v := (.bool false)) rfl (by kernel_rfl) (by kernel_rfl) (by kernel_rfl) (by kernel_rfl) (by kernel_rfl) (fun _ _ _ h => h) (BL.cls wr) ?_ ?_
              · refine Or.inl ⟨rfl, fun w hSw => ?_⟩
                exact EffR.same (by go_simp)
              try simp only [Act.put, List.setIfInBounds_toArray, List.set_cons_zero, List.set_cons_succ]
              refine wpAnyU_take (i := 14) (oi := { dst := some 7, op := Op.assign (Operand.tmp 35), type := 4, pos := "ref.go:208", after := #[{ on := 13, ground := Ground.data }, { on := 1, ground := Ground.chain }, { on := 0, ground := Ground.phase }, { on := 1, ground := Ground.phase }, { on := 2, ground := Ground.phase }, { on := 3, ground := Ground.phase }, { on := 4, ground := Ground.phase }, { on := 5, ground := Ground.phase }, { on := 6, ground := Ground.phase }, { on := 7, ground := Ground.phase }, { on := 8, ground := Ground.phase }, { on := 9, ground := Ground.phase }, { on := 10, ground := Ground.phase }, { on := 11, ground := Ground.phase }, { on := 12, ground := Ground.phase }, { on := 13, ground := Ground.phase }], guard := none }) (v := (.bool false)) rfl (by kernel_rfl) (by kernel_rfl) (by kernel_rfl) (by kernel_rfl) (by kernel_rfl) (fun _ _ _ h => h) (BL.cls wr) ?_ ?_
              · refine Or.inl ⟨rfl, fun w hSw => ?_⟩
                exact EffR.same (by go_simp)
              try simp only [Act.put, List.setIfInBounds_toArray, List.set_cons_zero, List.set_cons_succ]
              refine wpAnyU_done (by kernel_rfl) (fun w1 hb1 => ?_) _
              have HBn := Lib.hid (HBk.out.next hb1)
              clear hb1
              go_wp2_with fail
              exact ⟨⟨j + 1, by omega, by push_cast; rfl, by rw [HNX.out], HBn.out⟩, by simp [intOf]; omega⟩
        · obtain rfl : j = m := by omega
          have HIS : Hid (b = inB sts c.state) := by show _ = _; rw [HBV.out, List.take_of_length_le (by rw [← HMM.out]; exact Nat.le_refl _)]
          have HRk := Lib.hid (HRi.out.below HBk.out)
          have HOk := Lib.hid (HO.out.below HBk.out)
          have HBq := Lib.hid (bgo HBi.out HBk.out HBi.out.size)
          have HNX := Lib.hid (thoseTo_next (sts := sts) hkR)
          clear HBV
          cases b
          case true =>
            have his : inB sts R.M[k].state = true := by rw [← HCC.out]; exact HIS.out.symm
            have HNX2 : Hid (thoseTo R sts (k + 1) = thoseTo R sts k ++ [c.no]) := by show _ = _; rw [HNX.out, if_pos his, ← HCC.out]
            have hd0 := HRk.out.cell (j := 0) rfl
            have hc0 : wr.cell? ⟨gb, ob + k * 3, none⟩ = some (.int .i64 c.no) := BL.cell (W := wo) HBk.out (HCB.out 0 _ rfl)
            have hlit : Is (wr.alloc (.cells #[.int .i64 c.no] 3)) (.slice (some ⟨wr.heap.size, 0, none⟩) 1 1) [c.no] := Is.lit1 wr c.no 3
            have hbn : Below wr.heap.size wr (wr.alloc (.cells #[.int .i64 c.no] 3)) := (Below.refl _ _).alloc (Nat.le_refl _) _
            have HL := Lib.hid hlit
            have HO2 := Lib.hid (HOk.out.below hbn)
            have HBN := Lib.hid hbn
            have HLE : Hid (((thoseTo R sts k).length + [c.no].length) * 8 ≤ 140737488355328) := by show _ ≤ _; have := thoseTo_len R sts k; simp; omega
            have HBA : Hid (W1.heap.size ≤ (wr.alloc (.cells #[.int .i64 c.no] 3)).heap.size) := Nat.le_trans HBq.out.size hbn.size
            clear hlit hbn his
            go_wp2_with (first
              | (at_builtin; refine wpList_append_ints rfl (.tmp 37) (.tmp 44) 27 rfl (l := thoseTo R sts k) (m := [c.no]) (base := W1.heap.size) elem_int rfl rfl HO2.out HL.out HLE.out HBA.out ?_; intro a7 n7 c7 w7 Hn7 ho7 hb7 hg7)
              | fail)
            exact ⟨⟨k + 1, a7, n7, c7, by omega, by push_cast; rfl, rfl, by rw [HNX2.out]; exact ho7, bgo (HBq.out.trans (HBN.out.mono HBq.out.size)) hb7 (Nat.le_refl _)⟩, by simp [intOf]; omega⟩
          case false =>
            have his : ¬ inB sts R.M[k].state = true := by rw [← HCC.out, ← HIS.out]; decide
            have HNX2 : Hid (thoseTo R sts (k + 1) = thoseTo R sts k) := by show _ = _; rw [HNX.out, if_neg his, List.append_nil]
            clear his
            go_wp2_with fail
            exact ⟨⟨k + 1, a5, n5, c5, by omega, by push_cast; rfl, rfl, by rw [HNX2.out]; exact HOk.out, HBq.out⟩, by simp [intOf]; omega⟩
    · have HA := Lib.hid (thoseTo_all R sts (k := k) (by have := HN.out; omega))
      go_wp2_with fail
      go_ret
      exact ⟨a5, n5, c5, rfl, ownsRow_base (by have h9 := HO.out; rw [HA.out] at h9; exact h9) HB0.out.size, HB0.out.trans (HBi.out.mono HB0.out.size)⟩
end Cam
