import Derived.Test.YtgeclnjkkjmbaaaGreatKt
import Derived.Deep.CutBlock
import Derived.Deep.DeepCutAuto
/- cambistkeep.Trades over rows that are the same. -/
namespace Cam
open Go Go.RowKit Go.Proofs

set_option maxRecDepth 100000 in
set_option maxHeartbeats 3200000 in
theorem KTrades_same (w : World) (va vb : Value) (L : List TrT) (ha : Rs TrT.vs 7 w va L) (hb : Rs TrT.vs 7 w vb L) :
    Calls Tryz.prog 101 #[va, vb] w fun e w' => e = .returned (.bool true) ∧ Below w.heap.size w w' := by
  obtain ⟨aa, capa, rfl, hcapa, hma⟩ := ha.shape
  obtain ⟨ab, capb, rfl, hcapb, hmb⟩ := hb.shape
  obtain ⟨n, hn⟩ : ∃ n, n = L.length := ⟨_, rfl⟩
  rw [← hn] at ha hb hcapa hcapb ⊢
  have HA := Lib.hid ha
  have HB := Lib.hid hb
  have HN := Lib.hid hn
  clear ha hb hn
  go_enter Tryz.func101, Tryz.ntmps101
  go_wp2_with fail
  go_loopw [5] (fun i wr => ∃ k : Nat, k ≤ n ∧ i = .int .i64 k ∧ Below w.heap.size w wr) (fun i _ => n - (intOf i).toNat)
  case atStart => exact ⟨0, Nat.zero_le _, rfl, Below.refl _ _⟩
  case round =>
    obtain ⟨k, hk, rfl, hbel⟩ := hrel
    have HBL := Lib.hid hbel
    by_cases hlt : k < n
    · have hkL : k < L.length := by rw [← HN.out]; exact hlt
      obtain ⟨ba, offa, rfl, _, hca⟩ := (HA.out.rew HN.out hbel).at (by omega) (by decide)
      obtain ⟨bb, offb, rfl, _, hcb⟩ := (HB.out.rew HN.out hbel).at (by omega) (by decide)
      obtain ⟨c, hc⟩ : ∃ c, c = L[k] := ⟨_, rfl⟩
      have HCA : Hid (∀ j v, [.int .i64 c.no, .int .i64 c.buyer, .int .i64 c.seller, .int .i64 c.inst, .int .i64 c.qty, .int .i64 c.price, .bool c.off][j]? = some v → wr.cell? ⟨ba, offa + k * 7 + j, none⟩ = some v) := fun j v h => hca k hkL j v (by rw [← hc]; exact h)
      have HCB : Hid (∀ j v, [.int .i64 c.no, .int .i64 c.buyer, .int .i64 c.seller, .int .i64 c.inst, .int .i64 c.qty, .int .i64 c.price, .bool c.off][j]? = some v → wr.cell? ⟨bb, offb + k * 7 + j, none⟩ = some v) := fun j v h => hcb k hkL j v (by rw [← hc]; exact h)
      have hk0 : (0 : Int) ≤ k := by omega
      have hk1 : (k : Int) < n := by omega
      clear hca hcb hbel hc
      go_upto_region 6 with fail
      go_cut [6, 7] (fun v6 v7 wx => ∃ ga gb, v6 = .pointer (some ⟨ga, 0, none⟩) ∧ v7 = .pointer (some ⟨gb, 0, none⟩) ∧ HT wx ga 93 [.int .i64 c.no, .int .i64 c.buyer, .int .i64 c.seller, .int .i64 c.inst, .int .i64 c.qty, .int .i64 c.price, .bool c.off] ∧ HT wx gb 93 [.int .i64 c.no, .int .i64 c.buyer, .int .i64 c.seller, .int .i64 c.inst, .int .i64 c.qty, .int .i64 c.price, .bool c.off] ∧ Below w.heap.size w wx)
      case first =>
        refine wp_region_uni (S0 := BL wr) (S := BL wr) 12 (by kernel_rfl) (Below.refl _ _).drew ?_
        refine wpAnyU_take (i := 0) (oi := { dst := some 19, op := Op.move (Operand.tmp 0), type := 29, pos := "keep.go:167", after := #[], guard := none }) (v := (.slice (some ⟨ba, offa, none⟩) n capa)) rfl (by kernel_rfl) (by kernel_rfl) (by kernel_rfl) (by kernel_rfl) (by kernel_rfl) (fun _ _ _ h => h) (BL.cls wr) ?_ ?_
        · refine Or.inl ⟨rfl, fun w hSw => ?_⟩
          exact EffR.same (by go_simp)
        try simp only [Act.put, List.setIfInBounds_toArray, List.set_cons_zero, List.set_cons_succ]
        refine wpAnyU_take (i := 1) (oi := { dst := some 20, op := Op.move (Operand.tmp 5), type := 3, pos := "keep.go:167", after := #[], guard := none }) (v := (.int .i64 (k : Int))) rfl (by kernel_rfl) (by kernel_rfl) (by kernel_rfl) (by kernel_rfl) (by kernel_rfl) (fun _ _ _ h => h) (BL.cls wr) ?_ ?_
        · refine Or.inl ⟨rfl, fun w hSw => ?_⟩
          exact EffR.same (by go_simp)
        try simp only [Act.put, List.setIfInBounds_toArray, List.set_cons_zero, List.set_cons_succ]
        refine wpAnyU_take (i := 2) (oi := { dst := some 21, op := Op.indexAddr 29 (Operand.tmp 19) (Operand.tmp 20), type := 0, pos := "keep.go:167", after := #[{ on := 0, ground := Ground.data }, { on := 1, ground := Ground.data }], guard := none }) (v := (.pointer (some ⟨ba, offa + k * 7, none⟩))) rfl (by kernel_rfl) (by kernel_rfl) (by kernel_rfl) (by kernel_rfl) (by kernel_rfl) (fun _ _ _ h => h) (BL.cls wr) ?_ ?_
        · refine Or.inl ⟨rfl, fun w hSw => ?_⟩
          exact EffR.same (by go_simp)
        try simp only [Act.put, List.setIfInBounds_toArray, List.set_cons_zero, List.set_cons_succ]
        refine wpAnyU_take (i := 3) (oi := { dst := some 22, op := Op.load 93 (Operand.tmp 21), type := 93, pos := "keep.go:167", after := #[{ on := 2, ground := Ground.data }], guard := none }) (v := (.agg #[.int .i64 c.no, .int .i64 c.buyer, .int .i64 c.seller, .int .i64 c.inst, .int .i64 c.qty, .int .i64 c.price, .bool c.off])) rfl (by kernel_rfl) (by kernel_rfl) (by kernel_rfl) (by kernel_rfl) (by kernel_rfl) (fun _ _ _ h => h) (BL.cls wr) ?_ ?_
        · refine Or.inl ⟨rfl, fun w hSw => ?_⟩
          exact eff_load_mid 93 (.tmp 21) rfl ba (offa + k * 7) rfl [.int .i64 c.no, .int .i64 c.buyer, .int .i64 c.seller, .int .i64 c.inst, .int .i64 c.qty, .int .i64 c.price, .bool c.off] _ (fun j v h => BL.cell (hSw) (HCA.out j v h)) Tryz.underlying93 rfl (by rw [show ((Tryz.prog.info? 93).map (·.size)) = some 7 from by kernel_rfl]; rfl)
        try simp only [Act.put, List.setIfInBounds_toArray, List.set_cons_zero, List.set_cons_succ]
        refine wpAnyU_take (i := 4) (oi := { dst := some 23, op := Op.move (Operand.tmp 1), type := 29, pos := "keep.go:167", after := #[{ on := 10, ground := Ground.gcOnly Departure.lateStores }], guard := none }) (v := (.slice (some ⟨bb, offb, none⟩) n capb)) rfl (by kernel_rfl) (by kernel_rfl) (by kernel_rfl) (by kernel_rfl) (by kernel_rfl) (fun _ _ _ h => h) (BL.cls wr) ?_ ?_
        · refine Or.inl ⟨rfl, fun w hSw => ?_⟩
          exact EffR.same (by go_simp)
        try simp only [Act.put, List.setIfInBounds_toArray, List.set_cons_zero, List.set_cons_succ]
        refine wpAnyU_take (i := 5) (oi := { dst := some 24, op := Op.move (Operand.tmp 5), type := 3, pos := "keep.go:167", after := #[{ on := 10, ground := Ground.gcOnly Departure.lateStores }], guard := none }) (v := (.int .i64 (k : Int))) rfl (by kernel_rfl) (by kernel_rfl) (by kernel_rfl) (by kernel_rfl) (by kernel_rfl) (fun _ _ _ h => h) (BL.cls wr) ?_ ?_
        · refine Or.inl ⟨rfl, fun w hSw => ?_⟩
          exact EffR.same (by go_simp)
        try simp only [Act.put, List.setIfInBounds_toArray, List.set_cons_zero, List.set_cons_succ]
        refine wpAnyU_take (i := 6) (oi := { dst := some 25, op := Op.indexAddr 29 (Operand.tmp 23) (Operand.tmp 24), type := 0, pos := "keep.go:167", after := #[{ on := 4, ground := Ground.data }, { on := 5, ground := Ground.data }, { on := 10, ground := Ground.gcOnly Departure.lateStores }], guard := none }) (v := (.pointer (some ⟨bb, offb + k * 7, none⟩))) rfl (by kernel_rfl) (by kernel_rfl) (by kernel_rfl) (by kernel_rfl) (by kernel_rfl) (fun _ _ _ h => h) (BL.cls wr) ?_ ?_
        · refine Or.inl ⟨rfl, fun w hSw => ?_⟩
          exact EffR.same (by go_simp)
        try simp only [Act.put, List.setIfInBounds_toArray, List.set_cons_zero, List.set_cons_succ]
        refine wpAnyU_take (i := 7) (oi := { dst := some 26, op := Op.load 93 (Operand.tmp 25), type := 93, pos := "keep.go:167", after := #[{ on := 6, ground := Ground.data }, { on := 10, ground := Ground.gcOnly Departure.lateStores }], guard := none }) (v := (.agg #[.int .i64 c.no, .int .i64 c.buyer, .int .i64 c.seller, .int .i64 c.inst, .int .i64 c.qty, .int .i64 c.price, .bool c.off])) rfl (by kernel_rfl) (by kernel_rfl) (by kernel_rfl) (by kernel_rfl) (by kernel_rfl) (fun _ _ _ h => h) (BL.cls wr) ?_ ?_
        · refine Or.inl ⟨rfl, fun w hSw => ?_⟩
          exact eff_load_mid 93 (.tmp 25) rfl bb (offb + k * 7) rfl [.int .i64 c.no, .int .i64 c.buyer, .int .i64 c.seller, .int .i64 c.inst, .int .i64 c.qty, .int .i64 c.price, .bool c.off] _ (fun j v h => BL.cell (hSw) (HCB.out j v h)) Tryz.underlying93 rfl (by rw [show ((Tryz.prog.info? 93).map (·.size)) = some 7 from by kernel_rfl]; rfl)
        try simp only [Act.put, List.setIfInBounds_toArray, List.set_cons_zero, List.set_cons_succ]
        refine wpAnyU_ready (rs := [8, 9]) (by kernel_rfl) (by simp) ?_
        refine AllReadyU.cons (o := { dst := some 6, op := Op.alloc 93, type := 0, pos := "keep.go:167", after := #[], guard := none }) rfl (fun wA8 hA8 K hK => ?_) (AllReadyU.cons (o := { dst := some 7, op := Op.alloc 93, type := 0, pos := "keep.go:167", after := #[], guard := none }) rfl (fun wA9 hA9 K hK => ?_) AllReadyU.nil)
        · go_simp
          obtain ⟨ga, hgga⟩ : ∃ g, g = wA8.heap.size := ⟨_, rfl⟩
          have hbx : Below wA8.heap.size wA8 (wA8.alloc (.cells #[.int .i64 0, .int .i64 0, .int .i64 0, .int .i64 0, .int .i64 0, .int .i64 0, .bool false] 93)) := (Below.refl _ _).alloc (Nat.le_refl _) _
          have hnew : HT (wA8.alloc (.cells #[.int .i64 0, .int .i64 0, .int .i64 0, .int .i64 0, .int .i64 0, .int .i64 0, .bool false] 93)) ga 93 [.int .i64 0, .int .i64 0, .int .i64 0, .int .i64 0, .int .i64 0, .int .i64 0, .bool false] := by rw [hgga]; exact HT.new (w := wA8)
          have HNga : Hid (wr.heap.size ≤ ga) := by
            refine Lib.hid ?_
            have := Below.size hA8
            omega
          rw [← hgga]
          clear hgga
          refine hK.out _ _ (fun x => BL wr x ∧ HT x ga 93 [.int .i64 0, .int .i64 0, .int .i64 0, .int .i64 0, .int .i64 0, .int .i64 0, .bool false]) (⟨fun _ h => h.1, fun _ _ h hb => ⟨Below.next h.1 hb, h.2.below hb⟩⟩ : Cls (BL wr) _) ⟨Below.next hA8 hbx, hnew⟩ ?_
          clear hbx hnew hA8
          clear hK K
          try simp only [Act.put, List.setIfInBounds_toArray, List.set_cons_zero, List.set_cons_succ]
          refine wpAnyU_ready (rs := [9]) (by kernel_rfl) (by simp) ?_
          refine AllReadyU.cons (o := { dst := some 7, op := Op.alloc 93, type := 0, pos := "keep.go:167", after := #[], guard := none }) rfl (fun wA9 hA9 K hK => ?_) AllReadyU.nil
          go_simp
          obtain ⟨gb, hggb⟩ : ∃ g, g = wA9.heap.size := ⟨_, rfl⟩
          have hbx : Below wA9.heap.size wA9 (wA9.alloc (.cells #[.int .i64 0, .int .i64 0, .int .i64 0, .int .i64 0, .int .i64 0, .int .i64 0, .bool false] 93)) := (Below.refl _ _).alloc (Nat.le_refl _) _
          have hnew : HT (wA9.alloc (.cells #[.int .i64 0, .int .i64 0, .int .i64 0, .int .i64 0, .int .i64 0, .int .i64 0, .bool false] 93)) gb 93 [.int .i64 0, .int .i64 0, .int .i64 0, .int .i64 0, .int .i64 0, .int .i64 0, .bool false] := by rw [hggb]; exact HT.new (w := wA9)
          have HNgb : Hid (wr.heap.size ≤ gb ∧ ga < gb) := by
            refine Lib.hid ?_
            have := Below.size hA9.1
            have := HT.lt hA9.2
            omega
          rw [← hggb]
          clear hggb
          refine hK.out _ _ (fun x => BL wr x ∧ HT x ga 93 [.int .i64 0, .int .i64 0, .int .i64 0, .int .i64 0, .int .i64 0, .int .i64 0, .bool false] ∧ HT x gb 93 [.int .i64 0, .int .i64 0, .int .i64 0, .int .i64 0, .int .i64 0, .int .i64 0, .bool false]) (⟨fun _ h => h.1, fun _ _ h hb => ⟨Below.next h.1 hb, h.2.1.below hb, h.2.2.below hb⟩⟩ : Cls (BL wr) _) ⟨Below.next hA9.1 hbx, hA9.2.below hbx, hnew⟩ ?_
          clear hbx hnew hA9
          clear hK K
          try simp only [Act.put, List.setIfInBounds_toArray, List.set_cons_zero, List.set_cons_succ]
          refine wpAnyU_ready (rs := [10]) (by kernel_rfl) (by simp) ?_
          refine AllReadyU.cons (o := { dst := none, op := Op.store 93 (Operand.tmp 6) (Operand.tmp 22), type := 0, pos := "keep.go:167", after := #[{ on := 8, ground := Ground.data }, { on := 3, ground := Ground.data }, { on := 0, ground := Ground.phase }, { on := 1, ground := Ground.phase }, { on := 2, ground := Ground.phase }, { on := 3, ground := Ground.phase }, { on := 4, ground := Ground.textOnly Departure.lateStores }, { on := 5, ground := Ground.textOnly Departure.lateStores }, { on := 6, ground := Ground.textOnly Departure.lateStores }, { on := 7, ground := Ground.textOnly Departure.lateStores }, { on := 8, ground := Ground.phase }, { on := 9, ground := Ground.phase }], guard := none }) rfl (fun wA10 hA10 K hK => ?_) AllReadyU.nil
          refine step_store_mid rfl 93 (.tmp 6) (.tmp 22) rfl ga 0 [.int .i64 c.no, .int .i64 c.buyer, .int .i64 c.seller, .int .i64 c.inst, .int .i64 c.qty, .int .i64 c.price, .bool c.off] rfl rfl (fun j hj => ⟨hA10.2.1.isSome (by simpa using hj), hA10.2.1.frozen _⟩) (by rw [trd_sz]; rfl) (by simp [Value.oneCell']) ?_
          have hput := hA10.2.1.puts (o := 0) (vs := [.int .i64 c.no, .int .i64 c.buyer, .int .i64 c.seller, .int .i64 c.inst, .int .i64 c.qty, .int .i64 c.price, .bool c.off]) (by simp)
          rw [splice_all (by simp)] at hput
          have hk9 := setCells_kept ga [.int .i64 c.no, .int .i64 c.buyer, .int .i64 c.seller, .int .i64 c.inst, .int .i64 c.qty, .int .i64 c.price, .bool c.off] 0 wA10
          have hb9 : Below wr.heap.size wr (wA10.setCells ga 0 [.int .i64 c.no, .int .i64 c.buyer, .int .i64 c.seller, .int .i64 c.inst, .int .i64 c.qty, .int .i64 c.price, .bool c.off]) := Below.trans hA10.1 (hk9.below (fun k hk (e : k = ga) => by have := HNga.out; omega) (Below.size hA10.1))
          refine hK.out _ _ (fun x => BL wr x ∧ HT x ga 93 [.int .i64 c.no, .int .i64 c.buyer, .int .i64 c.seller, .int .i64 c.inst, .int .i64 c.qty, .int .i64 c.price, .bool c.off] ∧ HT x gb 93 [.int .i64 0, .int .i64 0, .int .i64 0, .int .i64 0, .int .i64 0, .int .i64 0, .bool false]) (⟨fun _ h => h.1, fun _ _ h hb => ⟨Below.next h.1 hb, h.2.1.below hb, h.2.2.below hb⟩⟩ : Cls (BL wr) _) ⟨hb9, hput, hA10.2.2.keptH hk9 (fun (e : gb = ga) => by have := HNga.out; have := HNgb.out; omega)⟩ ?_
          clear hput hk9 hb9 hA10
          clear hK K
          try simp only [Act.put]
          refine wpAnyU_ready (rs := [11]) (by kernel_rfl) (by simp) ?_
          refine AllReadyU.cons (o := { dst := none, op := Op.store 93 (Operand.tmp 7) (Operand.tmp 26), type := 0, pos := "keep.go:167", after := #[{ on := 9, ground := Ground.data }, { on := 7, ground := Ground.data }, { on := 10, ground := Ground.chain }, { on := 0, ground := Ground.phase }, { on := 1, ground := Ground.phase }, { on := 2, ground := Ground.phase }, { on := 3, ground := Ground.phase }, { on := 4, ground := Ground.phase }, { on := 5, ground := Ground.phase }, { on := 6, ground := Ground.phase }, { on := 7, ground := Ground.phase }, { on := 8, ground := Ground.phase }, { on := 9, ground := Ground.phase }, { on := 10, ground := Ground.phase }], guard := none }) rfl (fun wA11 hA11 K hK => ?_) AllReadyU.nil
          refine step_store_mid rfl 93 (.tmp 7) (.tmp 26) rfl gb 0 [.int .i64 c.no, .int .i64 c.buyer, .int .i64 c.seller, .int .i64 c.inst, .int .i64 c.qty, .int .i64 c.price, .bool c.off] rfl rfl (fun j hj => ⟨hA11.2.2.isSome (by simpa using hj), hA11.2.2.frozen _⟩) (by rw [trd_sz]; rfl) (by simp [Value.oneCell']) ?_
          have hput := hA11.2.2.puts (o := 0) (vs := [.int .i64 c.no, .int .i64 c.buyer, .int .i64 c.seller, .int .i64 c.inst, .int .i64 c.qty, .int .i64 c.price, .bool c.off]) (by simp)
          rw [splice_all (by simp)] at hput
          have hk9 := setCells_kept gb [.int .i64 c.no, .int .i64 c.buyer, .int .i64 c.seller, .int .i64 c.inst, .int .i64 c.qty, .int .i64 c.price, .bool c.off] 0 wA11
          have hb9 : Below wr.heap.size wr (wA11.setCells gb 0 [.int .i64 c.no, .int .i64 c.buyer, .int .i64 c.seller, .int .i64 c.inst, .int .i64 c.qty, .int .i64 c.price, .bool c.off]) := Below.trans hA11.1 (hk9.below (fun k hk (e : k = gb) => by have := HNgb.out; omega) (Below.size hA11.1))
          refine hK.out _ _ (fun x => BL wr x ∧ HT x ga 93 [.int .i64 c.no, .int .i64 c.buyer, .int .i64 c.seller, .int .i64 c.inst, .int .i64 c.qty, .int .i64 c.price, .bool c.off] ∧ HT x gb 93 [.int .i64 c.no, .int .i64 c.buyer, .int .i64 c.seller, .int .i64 c.inst, .int .i64 c.qty, .int .i64 c.price, .bool c.off]) (⟨fun _ h => h.1, fun _ _ h hb => ⟨Below.next h.1 hb, h.2.1.below hb, h.2.2.below hb⟩⟩ : Cls (BL wr) _) ⟨hb9, hA11.2.1.keptH hk9 (fun (e : ga = gb) => by have := HNgb.out; have := HNga.out; omega), hput⟩ ?_
          clear hput hk9 hb9 hA11
          clear hK K
          try simp only [Act.put]
          refine wpAnyU_done (by kernel_rfl) (fun w1 hb1 => ?_) _
          go_wp2_with fail
          go_meet
          exact ⟨ga, gb, rfl, rfl, hb1.2.1, hb1.2.2, bgoS HBL.out hb1.1⟩
        · go_simp
          obtain ⟨gb, hggb⟩ : ∃ g, g = wA9.heap.size := ⟨_, rfl⟩
          have hbx : Below wA9.heap.size wA9 (wA9.alloc (.cells #[.int .i64 0, .int .i64 0, .int .i64 0, .int .i64 0, .int .i64 0, .int .i64 0, .bool false] 93)) := (Below.refl _ _).alloc (Nat.le_refl _) _
          have hnew : HT (wA9.alloc (.cells #[.int .i64 0, .int .i64 0, .int .i64 0, .int .i64 0, .int .i64 0, .int .i64 0, .bool false] 93)) gb 93 [.int .i64 0, .int .i64 0, .int .i64 0, .int .i64 0, .int .i64 0, .int .i64 0, .bool false] := by rw [hggb]; exact HT.new (w := wA9)
          have HNgb : Hid (wr.heap.size ≤ gb) := by
            refine Lib.hid ?_
            have := Below.size hA9
            omega
          rw [← hggb]
          clear hggb
          refine hK.out _ _ (fun x => BL wr x ∧ HT x gb 93 [.int .i64 0, .int .i64 0, .int .i64 0, .int .i64 0, .int .i64 0, .int .i64 0, .bool false]) (⟨fun _ h => h.1, fun _ _ h hb => ⟨Below.next h.1 hb, h.2.below hb⟩⟩ : Cls (BL wr) _) ⟨Below.next hA9 hbx, hnew⟩ ?_
          clear hbx hnew hA9
          clear hK K
          try simp only [Act.put, List.setIfInBounds_toArray, List.set_cons_zero, List.set_cons_succ]
          refine wpAnyU_ready (rs := [8]) (by kernel_rfl) (by simp) ?_
          refine AllReadyU.cons (o := { dst := some 6, op := Op.alloc 93, type := 0, pos := "keep.go:167", after := #[], guard := none }) rfl (fun wA8 hA8 K hK => ?_) AllReadyU.nil
          go_simp
          obtain ⟨ga, hgga⟩ : ∃ g, g = wA8.heap.size := ⟨_, rfl⟩
          have hbx : Below wA8.heap.size wA8 (wA8.alloc (.cells #[.int .i64 0, .int .i64 0, .int .i64 0, .int .i64 0, .int .i64 0, .int .i64 0, .bool false] 93)) := (Below.refl _ _).alloc (Nat.le_refl _) _
          have hnew : HT (wA8.alloc (.cells #[.int .i64 0, .int .i64 0, .int .i64 0, .int .i64 0, .int .i64 0, .int .i64 0, .bool false] 93)) ga 93 [.int .i64 0, .int .i64 0, .int .i64 0, .int .i64 0, .int .i64 0, .int .i64 0, .bool false] := by rw [hgga]; exact HT.new (w := wA8)
          have HNga : Hid (wr.heap.size ≤ ga ∧ gb < ga) := by
            refine Lib.hid ?_
            have := Below.size hA8.1
            have := HT.lt hA8.2
            omega
          rw [← hgga]
          clear hgga
          refine hK.out _ _ (fun x => BL wr x ∧ HT x ga 93 [.int .i64 0, .int .i64 0, .int .i64 0, .int .i64 0, .int .i64 0, .int .i64 0, .bool false] ∧ HT x gb 93 [.int .i64 0, .int .i64 0, .int .i64 0, .int .i64 0, .int .i64 0, .int .i64 0, .bool false]) (⟨fun _ h => h.1, fun _ _ h hb => ⟨Below.next h.1 hb, h.2.1.below hb, h.2.2.below hb⟩⟩ : Cls (BL wr) _) ⟨Below.next hA8.1 hbx, hnew, hA8.2.below hbx⟩ ?_
          clear hbx hnew hA8
          clear hK K
          try simp only [Act.put, List.setIfInBounds_toArray, List.set_cons_zero, List.set_cons_succ]
          refine wpAnyU_ready (rs := [10]) (by kernel_rfl) (by simp) ?_
          refine AllReadyU.cons (o := { dst := none, op := Op.store 93 (Operand.tmp 6) (Operand.tmp 22), type := 0, pos := "keep.go:167", after := #[{ on := 8, ground := Ground.data }, { on := 3, ground := Ground.data }, { on := 0, ground := Ground.phase }, { on := 1, ground := Ground.phase }, { on := 2, ground := Ground.phase }, { on := 3, ground := Ground.phase }, { on := 4, ground := Ground.textOnly Departure.lateStores }, { on := 5, ground := Ground.textOnly Departure.lateStores }, { on := 6, ground := Ground.textOnly Departure.lateStores }, { on := 7, ground := Ground.textOnly Departure.lateStores }, { on := 8, ground := Ground.phase }, { on := 9, ground := Ground.phase }], guard := none }) rfl (fun wA10 hA10 K hK => ?_) AllReadyU.nil
          refine step_store_mid rfl 93 (.tmp 6) (.tmp 22) rfl ga 0 [.int .i64 c.no, .int .i64 c.buyer, .int .i64 c.seller, .int .i64 c.inst, .int .i64 c.qty, .int .i64 c.price, .bool c.off] rfl rfl (fun j hj => ⟨hA10.2.1.isSome (by simpa using hj), hA10.2.1.frozen _⟩) (by rw [trd_sz]; rfl) (by simp [Value.oneCell']) ?_
          have hput := hA10.2.1.puts (o := 0) (vs := [.int .i64 c.no, .int .i64 c.buyer, .int .i64 c.seller, .int .i64 c.inst, .int .i64 c.qty, .int .i64 c.price, .bool c.off]) (by simp)
          rw [splice_all (by simp)] at hput
          have hk9 := setCells_kept ga [.int .i64 c.no, .int .i64 c.buyer, .int .i64 c.seller, .int .i64 c.inst, .int .i64 c.qty, .int .i64 c.price, .bool c.off] 0 wA10
          have hb9 : Below wr.heap.size wr (wA10.setCells ga 0 [.int .i64 c.no, .int .i64 c.buyer, .int .i64 c.seller, .int .i64 c.inst, .int .i64 c.qty, .int .i64 c.price, .bool c.off]) := Below.trans hA10.1 (hk9.below (fun k hk (e : k = ga) => by have := HNga.out; omega) (Below.size hA10.1))
          refine hK.out _ _ (fun x => BL wr x ∧ HT x ga 93 [.int .i64 c.no, .int .i64 c.buyer, .int .i64 c.seller, .int .i64 c.inst, .int .i64 c.qty, .int .i64 c.price, .bool c.off] ∧ HT x gb 93 [.int .i64 0, .int .i64 0, .int .i64 0, .int .i64 0, .int .i64 0, .int .i64 0, .bool false]) (⟨fun _ h => h.1, fun _ _ h hb => ⟨Below.next h.1 hb, h.2.1.below hb, h.2.2.below hb⟩⟩ : Cls (BL wr) _) ⟨hb9, hput, hA10.2.2.keptH hk9 (fun (e : gb = ga) => by have := HNga.out; have := HNgb.out; omega)⟩ ?_
          clear hput hk9 hb9 hA10
          clear hK K
          try simp only [Act.put]
          refine wpAnyU_ready (rs := [11]) (by kernel_rfl) (by simp) ?_
          refine AllReadyU.cons (o := { dst := none, op := Op.store 93 (Operand.tmp 7) (Operand.tmp 26), type := 0, pos := "keep.go:167", after := #[{ on := 9, ground := Ground.data }, { on := 7, ground := Ground.data }, { on := 10, ground := Ground.chain }, { on := 0, ground := Ground.phase }, { on := 1, ground := Ground.phase }, { on := 2, ground := Ground.phase }, { on := 3, ground := Ground.phase }, { on := 4, ground := Ground.phase }, { on := 5, ground := Ground.phase }, { on := 6, ground := Ground.phase }, { on := 7, ground := Ground.phase }, { on := 8, ground := Ground.phase }, { on := 9, ground := Ground.phase }, { on := 10, ground := Ground.phase }], guard := none }) rfl (fun wA11 hA11 K hK => ?_) AllReadyU.nil
          refine step_store_mid rfl 93 (.tmp 7) (.tmp 26) rfl gb 0 [.int .i64 c.no, .int .i64 c.buyer, .int .i64 c.seller, .int .i64 c.inst, .int .i64 c.qty, .int .i64 c.price, .bool c.off] rfl rfl (fun j hj => ⟨hA11.2.2.isSome (by simpa using hj), hA11.2.2.frozen _⟩) (by rw [trd_sz]; rfl) (by simp [Value.oneCell']) ?_
          have hput := hA11.2.2.puts (o := 0) (vs := [.int .i64 c.no, .int .i64 c.buyer, .int .i64 c.seller, .int .i64 c.inst, .int .i64 c.qty, .int .i64 c.price, .bool c.off]) (by simp)
          rw [splice_all (by simp)] at hput
          have hk9 := setCells_kept gb [.int .i64 c.no, .int .i64 c.buyer, .int .i64 c.seller, .int .i64 c.inst, .int .i64 c.qty, .int .i64 c.price, .bool c.off] 0 wA11
          have hb9 : Below wr.heap.size wr (wA11.setCells gb 0 [.int .i64 c.no, .int .i64 c.buyer, .int .i64 c.seller, .int .i64 c.inst, .int .i64 c.qty, .int .i64 c.price, .bool c.off]) := Below.trans hA11.1 (hk9.below (fun k hk (e : k = gb) => by have := HNgb.out; omega) (Below.size hA11.1))
          refine hK.out _ _ (fun x => BL wr x ∧ HT x ga 93 [.int .i64 c.no, .int .i64 c.buyer, .int .i64 c.seller, .int .i64 c.inst, .int .i64 c.qty, .int .i64 c.price, .bool c.off] ∧ HT x gb 93 [.int .i64 c.no, .int .i64 c.buyer, .int .i64 c.seller, .int .i64 c.inst, .int .i64 c.qty, .int .i64 c.price, .bool c.off]) (⟨fun _ h => h.1, fun _ _ h hb => ⟨Below.next h.1 hb, h.2.1.below hb, h.2.2.below hb⟩⟩ : Cls (BL wr) _) ⟨hb9, hA11.2.1.keptH hk9 (fun (e : ga = gb) => by have := HNgb.out; have := HNga.out; omega), hput⟩ ?_
          clear hput hk9 hb9 hA11
          clear hK K
          try simp only [Act.put]
          refine wpAnyU_done (by kernel_rfl) (fun w1 hb1 => ?_) _
          go_wp2_with fail
          go_meet
          exact ⟨ga, gb, rfl, rfl, hb1.2.1, hb1.2.2, bgoS HBL.out hb1.1⟩
      case rest =>
        obtain ⟨ga, gb, rfl, rfl, hx, hy, hbl⟩ := hcut
        have HX := Lib.hid hx
        have HY := Lib.hid hy
        have HB9 := Lib.hid hbl
        clear hx hy hbl
        have hx0 := HX.out.cell (j := 0) rfl
        have hy0 := HY.out.cell (j := 0) rfl
        have hx1 := HX.out.cell (j := 1) rfl
        have hy1 := HY.out.cell (j := 1) rfl
        have hx2 := HX.out.cell (j := 2) rfl
        have hy2 := HY.out.cell (j := 2) rfl
        have hx3 := HX.out.cell (j := 3) rfl
        have hy3 := HY.out.cell (j := 3) rfl
        have hx4 := HX.out.cell (j := 4) rfl
        have hy4 := HY.out.cell (j := 4) rfl
        have hx5 := HX.out.cell (j := 5) rfl
        have hy5 := HY.out.cell (j := 5) rfl
        have hx6 := HX.out.cell (j := 6) rfl
        have hy6 := HY.out.cell (j := 6) rfl
        go_wp2_with fail
        exact ⟨⟨k + 1, by omega, by push_cast; rfl, HB9.out⟩, by simp [intOf]; omega⟩
    · obtain rfl : k = n := by omega
      go_wp2_with fail
      go_ret
      exact ⟨rfl, HBL.out⟩
end Cam
