import Derived.Test.YtgeclnjkkjmbaaaGreatKt
import Derived.Deep.CutBlock
import Derived.Deep.DeepCutAuto
/- cambistkeep.Trades over rows that are the same. -/
namespace Cam
open Go Go.RowKit Go.Proofs
set_option linter.unusedVariables false
set_option linter.unusedSimpArgs false
set_option maxRecDepth 100000
set_option maxHeartbeats 3200000
theorem KTrades_same (w : World) (va vb : Value) (L : List TrT) (ha : Rs TrT.vs 7 w va L) (hb : Rs TrT.vs 7 w vb L) :
  Calls Tryz.prog 101 #[va, vb] w fun e w' => e = .returned (.bool true) ∧ Below w.heap.size w w' := by
 obtain ⟨aa, capa, rfl, hcapa, hma⟩ := ha.shape
 obtain ⟨ab, capb, rfl, hcapb, hmb⟩ := hb.shape
 obtain ⟨n, hn⟩ : ∃ n, n = L.length := ⟨_, rfl⟩
 rw [← hn] at ha hb hcapa hcapb ⊢
 have HA := Lh ha
 have HB := Lh hb
 have HN := Lh hn
 clear ha hb hn
 go_in
 go_wp2_with fail
 go_loopw [5] (fun i wr => ∃ k : Nat, k ≤ n ∧ i = .int .i64 k ∧ Below w.heap.size w wr) (fun i _ => n - (intOf i).toNat)
 case atStart => exact ⟨0, Nat.zero_le _, rfl, Below.refl _ _⟩
 case round =>
  obtain ⟨k, hk, rfl, hbel⟩ := hrel
  have HBL := Lh hbel
  by_cases hlt : k < n
  ·
   have hkL : k < L.length := by rw [← HN.out]; exact hlt
   obtain ⟨ba, offa, rfl, _, hca⟩ := (HA.out.rew HN.out hbel).at (by omega) (by decide)
   obtain ⟨bb, offb, rfl, _, hcb⟩ := (HB.out.rew HN.out hbel).at (by omega) (by decide)
   obtain ⟨c, hc⟩ : ∃ c, c = L[k] := ⟨_, rfl⟩
   have HCA : Hid (∀ j v, [.int .i64 c.no, .int .i64 c.buyer, .int .i64 c.seller, .int .i64 c.inst, .int .i64 c.qty, .int .i64 c.price, .bool c.off][j]? = some v → wr.cell? ⟨ba, offa + k * 7 + j, none⟩ = some v) := fun j v h => hca k hkL j v (by rw [← hc]; exact h)
   have HCB : Hid (∀ j v, [.int .i64 c.no, .int .i64 c.buyer, .int .i64 c.seller, .int .i64 c.inst, .int .i64 c.qty, .int .i64 c.price, .bool c.off][j]? = some v → wr.cell? ⟨bb, offb + k * 7 + j, none⟩ = some v) := fun j v h => hcb k hkL j v (by rw [← hc]; exact h)
   have hk0 : (0 : Int) ≤ k := by omega
   have hk1 : (k : Int) < n := by omega
   clear hca hcb hbel hc
   go_upto_region 6 with fail
   go_cut [6, 7] (fun v6 v7 wx => ∃ ga gb, v6 = .pointer (some ⟨ga, 0, none⟩) ∧ v7 = .pointer (some ⟨gb, 0, none⟩) ∧ HT wx ga 93 [c.no, c.buyer, c.seller, c.inst, c.qty, c.price, .bool c.off] ∧ HT wx gb 93 [c.no, c.buyer, c.seller, c.inst, c.qty, c.price, .bool c.off] ∧ Below w.heap.size w wx)
   case first =>
    refine wp_region_uni (S0 := BL wr) (S := BL wr) 12 (by kernel_rfl) (Below.refl _ _).drew ?_
    refine uP 2 [(0, some 19, .slice (some ⟨ba, offa, none⟩) n capa), (1, some 20, .int .i64 (k : Int))] (BL.cls wr) ?_
    simp only [zq]
    refine uG 2 (some 21) (.pointer (some ⟨ba, offa + k * 7, none⟩)) (BL.cls wr) ?_
    simp only [zq]
    refine uO 3 (some 22) (.agg #[c.no, c.buyer, c.seller, c.inst, c.qty, c.price, .bool c.off]) (BL.cls wr) (fun _ ho => by cases ho; exact .inl ⟨rfl, fun w hSw => eff_load_mid 93 (.tmp 21) rfl ba (offa + k * 7) rfl [c.no, c.buyer, c.seller, c.inst, c.qty, c.price, .bool c.off] _ (fun j v h => BL.cell (hSw) (HCA.out j v h)) Tryz.underlying93 rfl (by rw [show ((Tryz.prog.info? 93).map (·.size)) = some 7 from by kernel_rfl]; rfl)⟩) ?_
    refine uP 2 [(4, some 23, .slice (some ⟨bb, offb, none⟩) n capb), (5, some 24, .int .i64 (k : Int))] (BL.cls wr) ?_
    simp only [zq]
    refine uG 6 (some 25) (.pointer (some ⟨bb, offb + k * 7, none⟩)) (BL.cls wr) ?_
    simp only [zq]
    refine uO 7 (some 26) (.agg #[c.no, c.buyer, c.seller, c.inst, c.qty, c.price, .bool c.off]) (BL.cls wr) (fun _ ho => by cases ho; exact .inl ⟨rfl, fun w hSw => eff_load_mid 93 (.tmp 25) rfl bb (offb + k * 7) rfl [c.no, c.buyer, c.seller, c.inst, c.qty, c.price, .bool c.off] _ (fun j v h => BL.cell (hSw) (HCB.out j v h)) Tryz.underlying93 rfl (by rw [show ((Tryz.prog.info? 93).map (·.size)) = some 7 from by kernel_rfl]; rfl)⟩) ?_
    simp only [zq]
    refine wpAnyU_ready (rs := [8, 9]) (by kernel_rfl) (by simp) ?_
    refine uD rfl (fun wA8 hA8 K hK => ?_) (uD rfl (fun wA9 hA9 K hK => ?_) AllReadyU.nil)
    ·
     go_simp
     obtain ⟨ga, hgga⟩ : ∃ g, g = wA8.heap.size := ⟨_, rfl⟩
     have hbx : Below wA8.heap.size wA8 (wA8.alloc (.cells #[(0:Int), (0:Int), (0:Int), (0:Int), (0:Int), (0:Int), .bool false] 93)) := Bn
     have hnew : HT (wA8.alloc (.cells #[(0:Int), (0:Int), (0:Int), (0:Int), (0:Int), (0:Int), .bool false] 93)) ga 93 [(0:Int), (0:Int), (0:Int), (0:Int), (0:Int), (0:Int), .bool false] := by rw [hgga]; exact HT.new (w := wA8)
     have HNga : Hid (wr.heap.size ≤ ga) := by
      refine Lh ?_
      have := Below.size hA8
      omega
     rw [← hgga]
     clear hgga
     refine hK.out _ _ (fun x => BL wr x ∧ HT x ga 93 [(0:Int), (0:Int), (0:Int), (0:Int), (0:Int), (0:Int), .bool false]) (⟨fun _ h => h.1, fun _ _ h hb => ⟨Below.next h.1 hb, h.2.below hb⟩⟩ : Cls (BL wr) _) ⟨Below.next hA8 hbx, hnew⟩ ?_
     clear hbx hnew hA8
     clear hK K
     try simp only [zq]
     refine uS 9 rfl (fun wA9 hA9 K hK => ?_)
     go_simp
     obtain ⟨gb, hggb⟩ : ∃ g, g = wA9.heap.size := ⟨_, rfl⟩
     have hbx : Below wA9.heap.size wA9 (wA9.alloc (.cells #[(0:Int), (0:Int), (0:Int), (0:Int), (0:Int), (0:Int), .bool false] 93)) := Bn
     have hnew : HT (wA9.alloc (.cells #[(0:Int), (0:Int), (0:Int), (0:Int), (0:Int), (0:Int), .bool false] 93)) gb 93 [(0:Int), (0:Int), (0:Int), (0:Int), (0:Int), (0:Int), .bool false] := by rw [hggb]; exact HT.new (w := wA9)
     have HNgb : Hid (wr.heap.size ≤ gb ∧ ga < gb) := by
      refine Lh ?_
      have := Below.size hA9.1
      have := HT.lt hA9.2
      omega
     rw [← hggb]
     clear hggb
     refine hK.out _ _ (fun x => BL wr x ∧ HT x ga 93 [(0:Int), (0:Int), (0:Int), (0:Int), (0:Int), (0:Int), .bool false] ∧ HT x gb 93 [(0:Int), (0:Int), (0:Int), (0:Int), (0:Int), (0:Int), .bool false]) (⟨fun _ h => h.1, fun _ _ h hb => ⟨Below.next h.1 hb, h.2.1.below hb, h.2.2.below hb⟩⟩ : Cls (BL wr) _) ⟨Below.next hA9.1 hbx, hA9.2.below hbx, hnew⟩ ?_
     clear hbx hnew hA9
     clear hK K
     try simp only [zq]
     refine uS 10 rfl (fun wA10 hA10 K hK => ?_)
     refine step_store_mid rfl 93 (.tmp 6) (.tmp 22) rfl ga 0 [c.no, c.buyer, c.seller, c.inst, c.qty, c.price, .bool c.off] rfl rfl (fun j hj => ⟨hA10.2.1.isSome (by simpa using hj), hA10.2.1.frozen _⟩) (by rw [trd_sz]; rfl) (by simp [Value.oneCell']) ?_
     have hput := hA10.2.1.puts (o := 0) (vs := [c.no, c.buyer, c.seller, c.inst, c.qty, c.price, .bool c.off]) (by simp)
     rw [splice_all (by simp)] at hput
     have hk9 := setCells_kept ga [c.no, c.buyer, c.seller, c.inst, c.qty, c.price, .bool c.off] 0 wA10
     have hb9 : Below wr.heap.size wr (wA10.setCells ga 0 [c.no, c.buyer, c.seller, c.inst, c.qty, c.price, .bool c.off]) := Below.trans hA10.1 (hk9.below (fun k hk (e : k = ga) => by have := HNga.out; omega) (Below.size hA10.1))
     refine hK.out _ _ (fun x => BL wr x ∧ HT x ga 93 [c.no, c.buyer, c.seller, c.inst, c.qty, c.price, .bool c.off] ∧ HT x gb 93 [(0:Int), (0:Int), (0:Int), (0:Int), (0:Int), (0:Int), .bool false]) (⟨fun _ h => h.1, fun _ _ h hb => ⟨Below.next h.1 hb, h.2.1.below hb, h.2.2.below hb⟩⟩ : Cls (BL wr) _) ⟨hb9, hput, hA10.2.2.keptH hk9 (fun (e : gb = ga) => by have := HNga.out; have := HNgb.out; omega)⟩ ?_
     clear hput hk9 hb9 hA10
     clear hK K
     try simp only [Act.put]
     refine uS 11 rfl (fun wA11 hA11 K hK => ?_)
     refine step_store_mid rfl 93 (.tmp 7) (.tmp 26) rfl gb 0 [c.no, c.buyer, c.seller, c.inst, c.qty, c.price, .bool c.off] rfl rfl (fun j hj => ⟨hA11.2.2.isSome (by simpa using hj), hA11.2.2.frozen _⟩) (by rw [trd_sz]; rfl) (by simp [Value.oneCell']) ?_
     have hput := hA11.2.2.puts (o := 0) (vs := [c.no, c.buyer, c.seller, c.inst, c.qty, c.price, .bool c.off]) (by simp)
     rw [splice_all (by simp)] at hput
     have hk9 := setCells_kept gb [c.no, c.buyer, c.seller, c.inst, c.qty, c.price, .bool c.off] 0 wA11
     have hb9 : Below wr.heap.size wr (wA11.setCells gb 0 [c.no, c.buyer, c.seller, c.inst, c.qty, c.price, .bool c.off]) := Below.trans hA11.1 (hk9.below (fun k hk (e : k = gb) => by have := HNgb.out; omega) (Below.size hA11.1))
     refine hK.out _ _ (fun x => BL wr x ∧ HT x ga 93 [c.no, c.buyer, c.seller, c.inst, c.qty, c.price, .bool c.off] ∧ HT x gb 93 [c.no, c.buyer, c.seller, c.inst, c.qty, c.price, .bool c.off]) (⟨fun _ h => h.1, fun _ _ h hb => ⟨Below.next h.1 hb, h.2.1.below hb, h.2.2.below hb⟩⟩ : Cls (BL wr) _) ⟨hb9, hA11.2.1.keptH hk9 (fun (e : ga = gb) => by have := HNgb.out; have := HNga.out; omega), hput⟩ ?_
     clear hput hk9 hb9 hA11
     clear hK K
     try simp only [Act.put]
     refine wpAnyU_done (by kernel_rfl) (fun w1 hb1 => ?_) _
     go_wp2_with fail
     go_meet
     exact ⟨ga, gb, rfl, rfl, hb1.2.1, hb1.2.2, bgoS HBL.out hb1.1⟩
    ·
     go_simp
     obtain ⟨gb, hggb⟩ : ∃ g, g = wA9.heap.size := ⟨_, rfl⟩
     have hbx : Below wA9.heap.size wA9 (wA9.alloc (.cells #[(0:Int), (0:Int), (0:Int), (0:Int), (0:Int), (0:Int), .bool false] 93)) := Bn
     have hnew : HT (wA9.alloc (.cells #[(0:Int), (0:Int), (0:Int), (0:Int), (0:Int), (0:Int), .bool false] 93)) gb 93 [(0:Int), (0:Int), (0:Int), (0:Int), (0:Int), (0:Int), .bool false] := by rw [hggb]; exact HT.new (w := wA9)
     have HNgb : Hid (wr.heap.size ≤ gb) := by
      refine Lh ?_
      have := Below.size hA9
      omega
     rw [← hggb]
     clear hggb
     refine hK.out _ _ (fun x => BL wr x ∧ HT x gb 93 [(0:Int), (0:Int), (0:Int), (0:Int), (0:Int), (0:Int), .bool false]) (⟨fun _ h => h.1, fun _ _ h hb => ⟨Below.next h.1 hb, h.2.below hb⟩⟩ : Cls (BL wr) _) ⟨Below.next hA9 hbx, hnew⟩ ?_
     clear hbx hnew hA9
     clear hK K
     try simp only [zq]
     refine uS 8 rfl (fun wA8 hA8 K hK => ?_)
     go_simp
     obtain ⟨ga, hgga⟩ : ∃ g, g = wA8.heap.size := ⟨_, rfl⟩
     have hbx : Below wA8.heap.size wA8 (wA8.alloc (.cells #[(0:Int), (0:Int), (0:Int), (0:Int), (0:Int), (0:Int), .bool false] 93)) := Bn
     have hnew : HT (wA8.alloc (.cells #[(0:Int), (0:Int), (0:Int), (0:Int), (0:Int), (0:Int), .bool false] 93)) ga 93 [(0:Int), (0:Int), (0:Int), (0:Int), (0:Int), (0:Int), .bool false] := by rw [hgga]; exact HT.new (w := wA8)
     have HNga : Hid (wr.heap.size ≤ ga ∧ gb < ga) := by
      refine Lh ?_
      have := Below.size hA8.1
      have := HT.lt hA8.2
      omega
     rw [← hgga]
     clear hgga
     refine hK.out _ _ (fun x => BL wr x ∧ HT x ga 93 [(0:Int), (0:Int), (0:Int), (0:Int), (0:Int), (0:Int), .bool false] ∧ HT x gb 93 [(0:Int), (0:Int), (0:Int), (0:Int), (0:Int), (0:Int), .bool false]) (⟨fun _ h => h.1, fun _ _ h hb => ⟨Below.next h.1 hb, h.2.1.below hb, h.2.2.below hb⟩⟩ : Cls (BL wr) _) ⟨Below.next hA8.1 hbx, hnew, hA8.2.below hbx⟩ ?_
     clear hbx hnew hA8
     clear hK K
     try simp only [zq]
     refine uS 10 rfl (fun wA10 hA10 K hK => ?_)
     refine step_store_mid rfl 93 (.tmp 6) (.tmp 22) rfl ga 0 [c.no, c.buyer, c.seller, c.inst, c.qty, c.price, .bool c.off] rfl rfl (fun j hj => ⟨hA10.2.1.isSome (by simpa using hj), hA10.2.1.frozen _⟩) (by rw [trd_sz]; rfl) (by simp [Value.oneCell']) ?_
     have hput := hA10.2.1.puts (o := 0) (vs := [c.no, c.buyer, c.seller, c.inst, c.qty, c.price, .bool c.off]) (by simp)
     rw [splice_all (by simp)] at hput
     have hk9 := setCells_kept ga [c.no, c.buyer, c.seller, c.inst, c.qty, c.price, .bool c.off] 0 wA10
     have hb9 : Below wr.heap.size wr (wA10.setCells ga 0 [c.no, c.buyer, c.seller, c.inst, c.qty, c.price, .bool c.off]) := Below.trans hA10.1 (hk9.below (fun k hk (e : k = ga) => by have := HNga.out; omega) (Below.size hA10.1))
     refine hK.out _ _ (fun x => BL wr x ∧ HT x ga 93 [c.no, c.buyer, c.seller, c.inst, c.qty, c.price, .bool c.off] ∧ HT x gb 93 [(0:Int), (0:Int), (0:Int), (0:Int), (0:Int), (0:Int), .bool false]) (⟨fun _ h => h.1, fun _ _ h hb => ⟨Below.next h.1 hb, h.2.1.below hb, h.2.2.below hb⟩⟩ : Cls (BL wr) _) ⟨hb9, hput, hA10.2.2.keptH hk9 (fun (e : gb = ga) => by have := HNga.out; have := HNgb.out; omega)⟩ ?_
     clear hput hk9 hb9 hA10
     clear hK K
     try simp only [Act.put]
     refine uS 11 rfl (fun wA11 hA11 K hK => ?_)
     refine step_store_mid rfl 93 (.tmp 7) (.tmp 26) rfl gb 0 [c.no, c.buyer, c.seller, c.inst, c.qty, c.price, .bool c.off] rfl rfl (fun j hj => ⟨hA11.2.2.isSome (by simpa using hj), hA11.2.2.frozen _⟩) (by rw [trd_sz]; rfl) (by simp [Value.oneCell']) ?_
     have hput := hA11.2.2.puts (o := 0) (vs := [c.no, c.buyer, c.seller, c.inst, c.qty, c.price, .bool c.off]) (by simp)
     rw [splice_all (by simp)] at hput
     have hk9 := setCells_kept gb [c.no, c.buyer, c.seller, c.inst, c.qty, c.price, .bool c.off] 0 wA11
     have hb9 : Below wr.heap.size wr (wA11.setCells gb 0 [c.no, c.buyer, c.seller, c.inst, c.qty, c.price, .bool c.off]) := Below.trans hA11.1 (hk9.below (fun k hk (e : k = gb) => by have := HNgb.out; omega) (Below.size hA11.1))
     refine hK.out _ _ (fun x => BL wr x ∧ HT x ga 93 [c.no, c.buyer, c.seller, c.inst, c.qty, c.price, .bool c.off] ∧ HT x gb 93 [c.no, c.buyer, c.seller, c.inst, c.qty, c.price, .bool c.off]) (⟨fun _ h => h.1, fun _ _ h hb => ⟨Below.next h.1 hb, h.2.1.below hb, h.2.2.below hb⟩⟩ : Cls (BL wr) _) ⟨hb9, hA11.2.1.keptH hk9 (fun (e : ga = gb) => by have := HNgb.out; have := HNga.out; omega), hput⟩ ?_
     clear hput hk9 hb9 hA11
     clear hK K
     try simp only [Act.put]
     refine wpAnyU_done (by kernel_rfl) (fun w1 hb1 => ?_) _
     go_wp2_with fail
     go_meet
     exact ⟨ga, gb, rfl, rfl, hb1.2.1, hb1.2.2, bgoS HBL.out hb1.1⟩
   case rest =>
    obtain ⟨ga, gb, rfl, rfl, hx, hy, hbl⟩ := hcut
    have HX := Lh hx
    have HY := Lh hy
    have HB9 := Lh hbl
    clear hx hy hbl
    have hx0 := HX.out.cell (j := 0) rfl
    have hy0 := HY.out.cell (j := 0) rfl
    have hx1 := HX.out.cell (j := 1) rfl
    have hy1 := HY.out.cell (j := 1) rfl
    have hx2 := HX.out.cell (j := 2) rfl
    have hy2 := HY.out.cell (j := 2) rfl
    have hx3 := HX.out.cell (j := 3) rfl
    have hy3 := HY.out.cell (j := 3) rfl
    have hx4 := HX.out.cell (j := 4) rfl
    have hy4 := HY.out.cell (j := 4) rfl
    have hx5 := HX.out.cell (j := 5) rfl
    have hy5 := HY.out.cell (j := 5) rfl
    have hx6 := HX.out.cell (j := 6) rfl
    have hy6 := HY.out.cell (j := 6) rfl
    go_wp2_with fail
    exact ⟨⟨k + 1, by omega, by push_cast; rfl, HB9.out⟩, by simp [intOf]; omega⟩
  ·
   obtain rfl : k = n := by omega
   go_wp2_with fail
   go_ret
   exact ⟨rfl, HBL.out⟩
end Cam
