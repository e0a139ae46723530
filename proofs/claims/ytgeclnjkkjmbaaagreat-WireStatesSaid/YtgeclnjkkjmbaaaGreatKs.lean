import Derived.Test.YtgeclnjkkjmbaaaGreatVg
import Derived.Test.YtgeclnjkkjmbaaaGreatVc
/- cambistkeep over a state's rows that are the same. -/
namespace Cam
open Go Go.RowKit Go.Proofs
set_option linter.unusedVariables false
set_option linter.unusedSimpArgs false
set_option maxRecDepth 100000
set_option maxHeartbeats 3200000
theorem Rs.rew {α : Type} {enc : α → List Value} {K n : Nat} {w w' : World} {a : Option Addr} {c : Nat} {L : List α} (h : Rs enc K w (.slice a n c) L) (hn : n = L.length) (hb : Below w.heap.size w w') : Rs enc K w' (.slice a L.length c) L := by
 rw [← hn]
 exact h.mono hb
theorem KKey_same (w : World) (a b : Int) : Calls Tryz.prog 105 #[.agg #[a, b], .agg #[a, b]] w fun e w' => e = .returned (.bool true) ∧ Below w.heap.size w w' := by
 have HB := Lh ((((Below.refl w.heap.size w).alloc (Nat.le_refl _) (.cells #[a, b] 96)).alloc (by simp) (.cells #[a, b] 96)))
 go_in
 go_wp2_with fail
 go_ret
 exact ⟨rfl, HB.out⟩
theorem KAcct_same (w : World) (a b c : Int) : Calls Tryz.prog 103 #[.agg #[a, b, c], .agg #[a, b, c]] w fun e w' => e = .returned (.bool true) ∧ Below w.heap.size w w' := by
 have HB := Lh ((((Below.refl w.heap.size w).alloc (Nat.le_refl _) (.cells #[a, b, c] 100)).alloc (by simp) (.cells #[a, b, c] 100)))
 go_in
 go_wp2_with fail
 go_ret
 exact ⟨rfl, HB.out⟩
theorem KDue_same (w : World) (a b c : Int) : Calls Tryz.prog 104 #[.agg #[a, b, c], .agg #[a, b, c]] w fun e w' => e = .returned (.bool true) ∧ Below w.heap.size w w' := by
 have HB := Lh ((((Below.refl w.heap.size w).alloc (Nat.le_refl _) (.cells #[a, b, c] 106)).alloc (by simp) (.cells #[a, b, c] 106)))
 go_in
 go_wp2_with fail
 go_ret
 exact ⟨rfl, HB.out⟩
theorem KClock_same (w : World) (a b c : Int) : Calls Tryz.prog 40 #[.agg #[a, b, c], .agg #[a, b, c]] w fun e w' => e = .returned (.bool true) ∧ Below w.heap.size w w' := by
 have HB := Lh ((((Below.refl w.heap.size w).alloc (Nat.le_refl _) (.cells #[a, b, c] 23)).alloc (by simp) (.cells #[a, b, c] 23)))
 go_in
 go_wp2_with fail
 go_ret
 exact ⟨rfl, HB.out⟩
theorem KAsset_same (w : World) (a b c d : Int) : Calls Tryz.prog 131 #[.agg #[a, b, c, d], .agg #[a, b, c, d]] w fun e w' => e = .returned (.bool true) ∧ Below w.heap.size w w' := by
 have HB := Lh ((((Below.refl w.heap.size w).alloc (Nat.le_refl _) (.cells #[a, b, c, d] 91)).alloc (by simp) (.cells #[a, b, c, d] 91)))
 go_in
 go_wp2_with fail
 go_ret
 exact ⟨rfl, HB.out⟩
theorem KMembers_same (w : World) (va vb : Value) (L : List MbT) (ha : Rs MbT.vs 3 w va L) (hb : Rs MbT.vs 3 w vb L) :
  Calls Tryz.prog 98 #[va, vb] w fun e w' => e = .returned (.bool true) ∧ Below w.heap.size w w' := by
 obtain ⟨aa, capa, rfl, hcapa, hma⟩ := ha.shape
 obtain ⟨ab, capb, rfl, hcapb, hmb⟩ := hb.shape
 obtain ⟨n, hn⟩ : ∃ n, n = L.length := ⟨_, rfl⟩
 rw [← hn] at ha hb hcapa hcapb ⊢
 have HA := Lh ha
 have HB := Lh hb
 have HN := Lh hn
 clear ha hb hn
 go_in
 go_wp2_with fail
 go_loopw [5] (fun i wr => ∃ k : Nat, k ≤ n ∧ i = .int .i64 k ∧ Below w.heap.size w wr) (fun i _ => n - (intOf i).toNat)
 case atStart => exact ⟨0, Nat.zero_le _, rfl, Below.refl _ _⟩
 case round =>
  obtain ⟨k, hk, rfl, hbel⟩ := hrel
  have HBL := Lh hbel
  by_cases hlt : k < n
  ·
   have hkL : k < L.length := by rw [← HN.out]; exact hlt
   obtain ⟨ba, offa, rfl, _, hca⟩ := (HA.out.rew HN.out hbel).at (by omega) (by decide)
   obtain ⟨bb, offb, rfl, _, hcb⟩ := (HB.out.rew HN.out hbel).at (by omega) (by decide)
   obtain ⟨c, hc⟩ : ∃ c, c = L[k] := ⟨_, rfl⟩
   have HCA : Hid (∀ j v, [.int .i64 c.no, .int .i64 c.state, .int .i64 c.need][j]? = some v → wr.cell? ⟨ba, offa + k * 3 + j, none⟩ = some v) := fun j v h => hca k hkL j v (by rw [← hc]; exact h)
   have HCB : Hid (∀ j v, [.int .i64 c.no, .int .i64 c.state, .int .i64 c.need][j]? = some v → wr.cell? ⟨bb, offb + k * 3 + j, none⟩ = some v) := fun j v h => hcb k hkL j v (by rw [← hc]; exact h)
   have hk0 : (0 : Int) ≤ k := by omega
   have hk1 : (k : Int) < n := by omega
   clear hca hcb hbel hc
   go_wp2_with fail
   refine wp_region_bl 37 (by kernel_rfl) ?_
   refine uP 2 [(0, some 17, .slice (some ⟨ba, offa, none⟩) n capa), (1, some 18, .int .i64 (k : Int))] (BL.cls wr) ?_
   simp only [zq]
   refine uG 2 (some 19) (.pointer (some ⟨ba, offa + k * 3, none⟩)) (BL.cls wr) ?_
   refine uP 1 [(3, some 20, .pointer (some ⟨ba, offa + k * 3, none⟩))] (BL.cls wr) ?_
   refine uL 4 (some 21) (.int .i64 c.no) (BL.cls wr) (p := ⟨ba, offa + k * 3, none⟩) (fun w hSw => BL.cell hSw (HCA.out 0 _ rfl)) ?_
   simp only [zq]
   refine uP 2 [(5, some 22, .slice (some ⟨bb, offb, none⟩) n capb), (6, some 23, .int .i64 (k : Int))] (BL.cls wr) ?_
   simp only [zq]
   refine uG 7 (some 24) (.pointer (some ⟨bb, offb + k * 3, none⟩)) (BL.cls wr) ?_
   refine uP 1 [(8, some 25, .pointer (some ⟨bb, offb + k * 3, none⟩))] (BL.cls wr) ?_
   refine uL 9 (some 26) (.int .i64 c.no) (BL.cls wr) (p := ⟨bb, offb + k * 3, none⟩) (fun w hSw => BL.cell hSw (HCB.out 0 _ rfl)) ?_
   simp only [zq]
   refine uG 10 (some 27) (.bool false) (BL.cls wr) ?_
   refine uP 3 [(11, some 28, .bool false), (12, some 29, .slice (some ⟨ba, offa, none⟩) n capa), (13, some 30, .int .i64 (k : Int))] (BL.cls wr) ?_
   simp only [zq]
   refine uG 14 (some 31) (.pointer (some ⟨ba, offa + k * 3, none⟩)) (BL.cls wr) ?_
   refine uP 1 [(15, some 32, .pointer (some ⟨ba, offa + k * 3 + 1, none⟩))] (BL.cls wr) ?_
   refine uL 16 (some 33) (.int .i64 c.state) (BL.cls wr) (p := ⟨ba, offa + k * 3 + 1, none⟩) (fun w hSw => BL.cell hSw (HCA.out 1 _ rfl)) ?_
   simp only [zq]
   refine uP 2 [(17, some 34, .slice (some ⟨bb, offb, none⟩) n capb), (18, some 35, .int .i64 (k : Int))] (BL.cls wr) ?_
   simp only [zq]
   refine uG 19 (some 36) (.pointer (some ⟨bb, offb + k * 3, none⟩)) (BL.cls wr) ?_
   refine uP 1 [(20, some 37, .pointer (some ⟨bb, offb + k * 3 + 1, none⟩))] (BL.cls wr) ?_
   refine uL 21 (some 38) (.int .i64 c.state) (BL.cls wr) (p := ⟨bb, offb + k * 3 + 1, none⟩) (fun w hSw => BL.cell hSw (HCB.out 1 _ rfl)) ?_
   simp only [zq]
   refine uG 22 (some 39) (.bool false) (BL.cls wr) ?_
   simp only [zq]
   refine uG 23 (some 40) (.bool false) (BL.cls wr) ?_
   refine uP 3 [(24, some 41, .bool false), (25, some 42, .slice (some ⟨ba, offa, none⟩) n capa), (26, some 43, .int .i64 (k : Int))] (BL.cls wr) ?_
   simp only [zq]
   refine uG 27 (some 44) (.pointer (some ⟨ba, offa + k * 3, none⟩)) (BL.cls wr) ?_
   refine uP 1 [(28, some 45, .pointer (some ⟨ba, offa + k * 3 + 2, none⟩))] (BL.cls wr) ?_
   refine uL 29 (some 46) (.int .i64 c.need) (BL.cls wr) (p := ⟨ba, offa + k * 3 + 2, none⟩) (fun w hSw => BL.cell hSw (HCA.out 2 _ rfl)) ?_
   simp only [zq]
   refine uP 2 [(30, some 47, .slice (some ⟨bb, offb, none⟩) n capb), (31, some 48, .int .i64 (k : Int))] (BL.cls wr) ?_
   simp only [zq]
   refine uG 32 (some 49) (.pointer (some ⟨bb, offb + k * 3, none⟩)) (BL.cls wr) ?_
   refine uP 1 [(33, some 50, .pointer (some ⟨bb, offb + k * 3 + 2, none⟩))] (BL.cls wr) ?_
   refine uL 34 (some 51) (.int .i64 c.need) (BL.cls wr) (p := ⟨bb, offb + k * 3 + 2, none⟩) (fun w hSw => BL.cell hSw (HCB.out 2 _ rfl)) ?_
   simp only [zq]
   refine uG 35 (some 52) (.bool false) (BL.cls wr) ?_
   simp only [zq]
   refine uG 36 (some 53) (.bool false) (BL.cls wr) ?_
   simp only [zq]
   refine wpAnyU_done (by kernel_rfl) (fun w1 hb1 => ?_) _
   go_wp2_with fail
   exact ⟨⟨k + 1, by omega, by push_cast; rfl, bgoS HBL.out hb1⟩, by simp [intOf]; omega⟩
  ·
   obtain rfl : k = n := by omega
   go_wp2_with fail
   go_ret
   exact ⟨rfl, HBL.out⟩
theorem KPledges_same (w : World) (va vb : Value) (L : List PlT) (ha : Rs PlT.vs 3 w va L) (hb : Rs PlT.vs 3 w vb L) :
  Calls Tryz.prog 44 #[va, vb] w fun e w' => e = .returned (.bool true) ∧ Below w.heap.size w w' := by
 obtain ⟨aa, capa, rfl, hcapa, hma⟩ := ha.shape
 obtain ⟨ab, capb, rfl, hcapb, hmb⟩ := hb.shape
 obtain ⟨n, hn⟩ : ∃ n, n = L.length := ⟨_, rfl⟩
 rw [← hn] at ha hb hcapa hcapb ⊢
 have HA := Lh ha
 have HB := Lh hb
 have HN := Lh hn
 clear ha hb hn
 go_in
 go_wp2_with fail
 go_loopw [5] (fun i wr => ∃ k : Nat, k ≤ n ∧ i = .int .i64 k ∧ Below w.heap.size w wr) (fun i _ => n - (intOf i).toNat)
 case atStart => exact ⟨0, Nat.zero_le _, rfl, Below.refl _ _⟩
 case round =>
  obtain ⟨k, hk, rfl, hbel⟩ := hrel
  have HBL := Lh hbel
  by_cases hlt : k < n
  ·
   have hkL : k < L.length := by rw [← HN.out]; exact hlt
   obtain ⟨ba, offa, rfl, _, hca⟩ := (HA.out.rew HN.out hbel).at (by omega) (by decide)
   obtain ⟨bb, offb, rfl, _, hcb⟩ := (HB.out.rew HN.out hbel).at (by omega) (by decide)
   obtain ⟨c, hc⟩ : ∃ c, c = L[k] := ⟨_, rfl⟩
   have HCA : Hid (∀ j v, [.int .i64 c.who, .int .i64 c.asset, .int .i64 c.units][j]? = some v → wr.cell? ⟨ba, offa + k * 3 + j, none⟩ = some v) := fun j v h => hca k hkL j v (by rw [← hc]; exact h)
   have HCB : Hid (∀ j v, [.int .i64 c.who, .int .i64 c.asset, .int .i64 c.units][j]? = some v → wr.cell? ⟨bb, offb + k * 3 + j, none⟩ = some v) := fun j v h => hcb k hkL j v (by rw [← hc]; exact h)
   have hk0 : (0 : Int) ≤ k := by omega
   have hk1 : (k : Int) < n := by omega
   clear hca hcb hbel hc
   go_wp2_with fail
   refine wp_region_bl 37 (by kernel_rfl) ?_
   refine uP 2 [(0, some 17, .slice (some ⟨ba, offa, none⟩) n capa), (1, some 18, .int .i64 (k : Int))] (BL.cls wr) ?_
   simp only [zq]
   refine uG 2 (some 19) (.pointer (some ⟨ba, offa + k * 3, none⟩)) (BL.cls wr) ?_
   refine uP 1 [(3, some 20, .pointer (some ⟨ba, offa + k * 3, none⟩))] (BL.cls wr) ?_
   refine uL 4 (some 21) (.int .i64 c.who) (BL.cls wr) (p := ⟨ba, offa + k * 3, none⟩) (fun w hSw => BL.cell hSw (HCA.out 0 _ rfl)) ?_
   simp only [zq]
   refine uP 2 [(5, some 22, .slice (some ⟨bb, offb, none⟩) n capb), (6, some 23, .int .i64 (k : Int))] (BL.cls wr) ?_
   simp only [zq]
   refine uG 7 (some 24) (.pointer (some ⟨bb, offb + k * 3, none⟩)) (BL.cls wr) ?_
   refine uP 1 [(8, some 25, .pointer (some ⟨bb, offb + k * 3, none⟩))] (BL.cls wr) ?_
   refine uL 9 (some 26) (.int .i64 c.who) (BL.cls wr) (p := ⟨bb, offb + k * 3, none⟩) (fun w hSw => BL.cell hSw (HCB.out 0 _ rfl)) ?_
   simp only [zq]
   refine uG 10 (some 27) (.bool false) (BL.cls wr) ?_
   refine uP 3 [(11, some 28, .bool false), (12, some 29, .slice (some ⟨ba, offa, none⟩) n capa), (13, some 30, .int .i64 (k : Int))] (BL.cls wr) ?_
   simp only [zq]
   refine uG 14 (some 31) (.pointer (some ⟨ba, offa + k * 3, none⟩)) (BL.cls wr) ?_
   refine uP 1 [(15, some 32, .pointer (some ⟨ba, offa + k * 3 + 1, none⟩))] (BL.cls wr) ?_
   refine uL 16 (some 33) (.int .i64 c.asset) (BL.cls wr) (p := ⟨ba, offa + k * 3 + 1, none⟩) (fun w hSw => BL.cell hSw (HCA.out 1 _ rfl)) ?_
   simp only [zq]
   refine uP 2 [(17, some 34, .slice (some ⟨bb, offb, none⟩) n capb), (18, some 35, .int .i64 (k : Int))] (BL.cls wr) ?_
   simp only [zq]
   refine uG 19 (some 36) (.pointer (some ⟨bb, offb + k * 3, none⟩)) (BL.cls wr) ?_
   refine uP 1 [(20, some 37, .pointer (some ⟨bb, offb + k * 3 + 1, none⟩))] (BL.cls wr) ?_
   refine uL 21 (some 38) (.int .i64 c.asset) (BL.cls wr) (p := ⟨bb, offb + k * 3 + 1, none⟩) (fun w hSw => BL.cell hSw (HCB.out 1 _ rfl)) ?_
   simp only [zq]
   refine uG 22 (some 39) (.bool false) (BL.cls wr) ?_
   simp only [zq]
   refine uG 23 (some 40) (.bool false) (BL.cls wr) ?_
   refine uP 3 [(24, some 41, .bool false), (25, some 42, .slice (some ⟨ba, offa, none⟩) n capa), (26, some 43, .int .i64 (k : Int))] (BL.cls wr) ?_
   simp only [zq]
   refine uG 27 (some 44) (.pointer (some ⟨ba, offa + k * 3, none⟩)) (BL.cls wr) ?_
   refine uP 1 [(28, some 45, .pointer (some ⟨ba, offa + k * 3 + 2, none⟩))] (BL.cls wr) ?_
   refine uL 29 (some 46) (.int .i64 c.units) (BL.cls wr) (p := ⟨ba, offa + k * 3 + 2, none⟩) (fun w hSw => BL.cell hSw (HCA.out 2 _ rfl)) ?_
   simp only [zq]
   refine uP 2 [(30, some 47, .slice (some ⟨bb, offb, none⟩) n capb), (31, some 48, .int .i64 (k : Int))] (BL.cls wr) ?_
   simp only [zq]
   refine uG 32 (some 49) (.pointer (some ⟨bb, offb + k * 3, none⟩)) (BL.cls wr) ?_
   refine uP 1 [(33, some 50, .pointer (some ⟨bb, offb + k * 3 + 2, none⟩))] (BL.cls wr) ?_
   refine uL 34 (some 51) (.int .i64 c.units) (BL.cls wr) (p := ⟨bb, offb + k * 3 + 2, none⟩) (fun w hSw => BL.cell hSw (HCB.out 2 _ rfl)) ?_
   simp only [zq]
   refine uG 35 (some 52) (.bool false) (BL.cls wr) ?_
   simp only [zq]
   refine uG 36 (some 53) (.bool false) (BL.cls wr) ?_
   simp only [zq]
   refine wpAnyU_done (by kernel_rfl) (fun w1 hb1 => ?_) _
   go_wp2_with fail
   exact ⟨⟨k + 1, by omega, by push_cast; rfl, bgoS HBL.out hb1⟩, by simp [intOf]; omega⟩
  ·
   obtain rfl : k = n := by omega
   go_wp2_with fail
   go_ret
   exact ⟨rfl, HBL.out⟩
theorem KCalls_same (w : World) (va vb : Value) (L : List CaT) (ha : Rs CaT.vs 4 w va L) (hb : Rs CaT.vs 4 w vb L) :
  Calls Tryz.prog 45 #[va, vb] w fun e w' => e = .returned (.bool true) ∧ Below w.heap.size w w' := by
 obtain ⟨aa, capa, rfl, hcapa, hma⟩ := ha.shape
 obtain ⟨ab, capb, rfl, hcapb, hmb⟩ := hb.shape
 obtain ⟨n, hn⟩ : ∃ n, n = L.length := ⟨_, rfl⟩
 rw [← hn] at ha hb hcapa hcapb ⊢
 have HA := Lh ha
 have HB := Lh hb
 have HN := Lh hn
 clear ha hb hn
 go_in
 go_wp2_with fail
 go_loopw [5] (fun i wr => ∃ k : Nat, k ≤ n ∧ i = .int .i64 k ∧ Below w.heap.size w wr) (fun i _ => n - (intOf i).toNat)
 case atStart => exact ⟨0, Nat.zero_le _, rfl, Below.refl _ _⟩
 case round =>
  obtain ⟨k, hk, rfl, hbel⟩ := hrel
  have HBL := Lh hbel
  by_cases hlt : k < n
  ·
   have hkL : k < L.length := by rw [← HN.out]; exact hlt
   obtain ⟨ba, offa, rfl, _, hca⟩ := (HA.out.rew HN.out hbel).at (by omega) (by decide)
   obtain ⟨bb, offb, rfl, _, hcb⟩ := (HB.out.rew HN.out hbel).at (by omega) (by decide)
   obtain ⟨c, hc⟩ : ∃ c, c = L[k] := ⟨_, rfl⟩
   have HCA : Hid (∀ j v, [.int .i64 c.who, .int .i64 c.cur, .int .i64 c.amt, .int .i64 c.tick][j]? = some v → wr.cell? ⟨ba, offa + k * 4 + j, none⟩ = some v) := fun j v h => hca k hkL j v (by rw [← hc]; exact h)
   have HCB : Hid (∀ j v, [.int .i64 c.who, .int .i64 c.cur, .int .i64 c.amt, .int .i64 c.tick][j]? = some v → wr.cell? ⟨bb, offb + k * 4 + j, none⟩ = some v) := fun j v h => hcb k hkL j v (by rw [← hc]; exact h)
   have hk0 : (0 : Int) ≤ k := by omega
   have hk1 : (k : Int) < n := by omega
   clear hca hcb hbel hc
   go_wp2_with fail
   refine wp_region_bl 25 (by kernel_rfl) ?_
   refine uP 2 [(0, some 17, .slice (some ⟨ba, offa, none⟩) n capa), (1, some 18, .int .i64 (k : Int))] (BL.cls wr) ?_
   simp only [zq]
   refine uG 2 (some 19) (.pointer (some ⟨ba, offa + k * 4, none⟩)) (BL.cls wr) ?_
   refine uP 1 [(3, some 20, .pointer (some ⟨ba, offa + k * 4, none⟩))] (BL.cls wr) ?_
   simp only [zq]
   refine uO 4 (some 21) (.agg #[c.who, c.cur, c.amt]) (BL.cls wr) (fun _ ho => by cases ho; exact .inl ⟨rfl, fun w hSw => eff_load_mid 106 (.tmp 20) rfl ba (offa + k * 4) rfl [c.who, c.cur, c.amt] _ (fun j v h => BL.cell hSw (by have h7 := HCA.out (0 + j) v (by rcases j with _ | _ | _ | j; all_goals first | exact h | (simp at h)); simpa [Nat.add_assoc] using h7)) Tryz.underlying106 rfl (by rw [show ((Tryz.prog.info? 106).map (·.size)) = some 3 from by kernel_rfl]; rfl)⟩) ?_
   refine uP 2 [(5, some 22, .slice (some ⟨bb, offb, none⟩) n capb), (6, some 23, .int .i64 (k : Int))] (BL.cls wr) ?_
   simp only [zq]
   refine uG 7 (some 24) (.pointer (some ⟨bb, offb + k * 4, none⟩)) (BL.cls wr) ?_
   refine uP 1 [(8, some 25, .pointer (some ⟨bb, offb + k * 4, none⟩))] (BL.cls wr) ?_
   simp only [zq]
   refine uO 9 (some 26) (.agg #[c.who, c.cur, c.amt]) (BL.cls wr) (fun _ ho => by cases ho; exact .inl ⟨rfl, fun w hSw => eff_load_mid 106 (.tmp 25) rfl bb (offb + k * 4) rfl [c.who, c.cur, c.amt] _ (fun j v h => BL.cell hSw (by have h7 := HCB.out (0 + j) v (by rcases j with _ | _ | _ | j; all_goals first | exact h | (simp at h)); simpa [Nat.add_assoc] using h7)) Tryz.underlying106 rfl (by rw [show ((Tryz.prog.info? 106).map (·.size)) = some 3 from by kernel_rfl]; rfl)⟩) ?_
   simp only [zq]
   refine uO 10 (some 27) (.bool true) (BL.cls wr) (fun o ho => ?_) ?_
   ·
    cases ho
    refine Or.inl ⟨rfl, fun w hSw => ?_⟩
    go_simp
    show Calls _ _ _ _ _
    refine (KDue_same _ _ _ _).mono ?_
    rintro e w1 ⟨rfl, hb⟩
    exact ⟨rfl, hb⟩
   try simp only [zq]
   refine uG 11 (some 28) (.bool false) (BL.cls wr) ?_
   refine uP 3 [(12, some 29, .bool false), (13, some 30, .slice (some ⟨ba, offa, none⟩) n capa), (14, some 31, .int .i64 (k : Int))] (BL.cls wr) ?_
   simp only [zq]
   refine uG 15 (some 32) (.pointer (some ⟨ba, offa + k * 4, none⟩)) (BL.cls wr) ?_
   refine uP 1 [(16, some 33, .pointer (some ⟨ba, offa + k * 4 + 3, none⟩))] (BL.cls wr) ?_
   refine uL 17 (some 34) (.int .i64 c.tick) (BL.cls wr) (p := ⟨ba, offa + k * 4 + 3, none⟩) (fun w hSw => BL.cell hSw (HCA.out 3 _ rfl)) ?_
   simp only [zq]
   refine uP 2 [(18, some 35, .slice (some ⟨bb, offb, none⟩) n capb), (19, some 36, .int .i64 (k : Int))] (BL.cls wr) ?_
   simp only [zq]
   refine uG 20 (some 37) (.pointer (some ⟨bb, offb + k * 4, none⟩)) (BL.cls wr) ?_
   refine uP 1 [(21, some 38, .pointer (some ⟨bb, offb + k * 4 + 3, none⟩))] (BL.cls wr) ?_
   refine uL 22 (some 39) (.int .i64 c.tick) (BL.cls wr) (p := ⟨bb, offb + k * 4 + 3, none⟩) (fun w hSw => BL.cell hSw (HCB.out 3 _ rfl)) ?_
   simp only [zq]
   refine uG 23 (some 40) (.bool false) (BL.cls wr) ?_
   simp only [zq]
   refine uG 24 (some 41) (.bool false) (BL.cls wr) ?_
   simp only [zq]
   refine wpAnyU_done (by kernel_rfl) (fun w1 hb1 => ?_) _
   go_wp2_with fail
   exact ⟨⟨k + 1, by omega, by push_cast; rfl, bgoS HBL.out hb1⟩, by simp [intOf]; omega⟩
  ·
   obtain rfl : k = n := by omega
   go_wp2_with fail
   go_ret
   exact ⟨rfl, HBL.out⟩
theorem KBids_same (w : World) (va vb : Value) (L : List BiT) (ha : Rs BiT.vs 5 w va L) (hb : Rs BiT.vs 5 w vb L) :
  Calls Tryz.prog 46 #[va, vb] w fun e w' => e = .returned (.bool true) ∧ Below w.heap.size w w' := by
 obtain ⟨aa, capa, rfl, hcapa, hma⟩ := ha.shape
 obtain ⟨ab, capb, rfl, hcapb, hmb⟩ := hb.shape
 obtain ⟨n, hn⟩ : ∃ n, n = L.length := ⟨_, rfl⟩
 rw [← hn] at ha hb hcapa hcapb ⊢
 have HA := Lh ha
 have HB := Lh hb
 have HN := Lh hn
 clear ha hb hn
 go_in
 go_wp2_with fail
 go_loopw [5] (fun i wr => ∃ k : Nat, k ≤ n ∧ i = .int .i64 k ∧ Below w.heap.size w wr) (fun i _ => n - (intOf i).toNat)
 case atStart => exact ⟨0, Nat.zero_le _, rfl, Below.refl _ _⟩
 case round =>
  obtain ⟨k, hk, rfl, hbel⟩ := hrel
  have HBL := Lh hbel
  by_cases hlt : k < n
  ·
   have hkL : k < L.length := by rw [← HN.out]; exact hlt
   obtain ⟨ba, offa, rfl, _, hca⟩ := (HA.out.rew HN.out hbel).at (by omega) (by decide)
   obtain ⟨bb, offb, rfl, _, hcb⟩ := (HB.out.rew HN.out hbel).at (by omega) (by decide)
   obtain ⟨c, hc⟩ : ∃ c, c = L[k] := ⟨_, rfl⟩
   have HCA : Hid (∀ j v, [.int .i64 c.who, .int .i64 c.inst, .int .i64 c.frm, .int .i64 c.qty, .int .i64 c.price][j]? = some v → wr.cell? ⟨ba, offa + k * 5 + j, none⟩ = some v) := fun j v h => hca k hkL j v (by rw [← hc]; exact h)
   have HCB : Hid (∀ j v, [.int .i64 c.who, .int .i64 c.inst, .int .i64 c.frm, .int .i64 c.qty, .int .i64 c.price][j]? = some v → wr.cell? ⟨bb, offb + k * 5 + j, none⟩ = some v) := fun j v h => hcb k hkL j v (by rw [← hc]; exact h)
   have hk0 : (0 : Int) ≤ k := by omega
   have hk1 : (k : Int) < n := by omega
   clear hca hcb hbel hc
   go_wp2_with fail
   refine wp_region_bl 51 (by kernel_rfl) ?_
   refine uP 2 [(0, some 17, .slice (some ⟨ba, offa, none⟩) n capa), (1, some 18, .int .i64 (k : Int))] (BL.cls wr) ?_
   simp only [zq]
   refine uG 2 (some 19) (.pointer (some ⟨ba, offa + k * 5, none⟩)) (BL.cls wr) ?_
   refine uP 1 [(3, some 20, .pointer (some ⟨ba, offa + k * 5, none⟩))] (BL.cls wr) ?_
   simp only [zq]
   refine uO 4 (some 21) (.agg #[c.who, c.inst]) (BL.cls wr) (fun _ ho => by cases ho; exact .inl ⟨rfl, fun w hSw => eff_load_mid 96 (.tmp 20) rfl ba (offa + k * 5) rfl [c.who, c.inst] _ (fun j v h => BL.cell hSw (by have h7 := HCA.out (0 + j) v (by rcases j with _ | _ | j; all_goals first | exact h | (simp at h)); simpa [Nat.add_assoc] using h7)) Tryz.underlying96 rfl (by rw [show ((Tryz.prog.info? 96).map (·.size)) = some 2 from by kernel_rfl]; rfl)⟩) ?_
   refine uP 2 [(5, some 22, .slice (some ⟨bb, offb, none⟩) n capb), (6, some 23, .int .i64 (k : Int))] (BL.cls wr) ?_
   simp only [zq]
   refine uG 7 (some 24) (.pointer (some ⟨bb, offb + k * 5, none⟩)) (BL.cls wr) ?_
   refine uP 1 [(8, some 25, .pointer (some ⟨bb, offb + k * 5, none⟩))] (BL.cls wr) ?_
   simp only [zq]
   refine uO 9 (some 26) (.agg #[c.who, c.inst]) (BL.cls wr) (fun _ ho => by cases ho; exact .inl ⟨rfl, fun w hSw => eff_load_mid 96 (.tmp 25) rfl bb (offb + k * 5) rfl [c.who, c.inst] _ (fun j v h => BL.cell hSw (by have h7 := HCB.out (0 + j) v (by rcases j with _ | _ | j; all_goals first | exact h | (simp at h)); simpa [Nat.add_assoc] using h7)) Tryz.underlying96 rfl (by rw [show ((Tryz.prog.info? 96).map (·.size)) = some 2 from by kernel_rfl]; rfl)⟩) ?_
   simp only [zq]
   refine uO 10 (some 27) (.bool true) (BL.cls wr) (fun o ho => ?_) ?_
   ·
    cases ho
    refine Or.inl ⟨rfl, fun w hSw => ?_⟩
    go_simp
    show Calls _ _ _ _ _
    refine (KKey_same _ _ _).mono ?_
    rintro e w1 ⟨rfl, hb⟩
    exact ⟨rfl, hb⟩
   try simp only [zq]
   refine uG 11 (some 28) (.bool false) (BL.cls wr) ?_
   refine uP 3 [(12, some 29, .bool false), (13, some 30, .slice (some ⟨ba, offa, none⟩) n capa), (14, some 31, .int .i64 (k : Int))] (BL.cls wr) ?_
   simp only [zq]
   refine uG 15 (some 32) (.pointer (some ⟨ba, offa + k * 5, none⟩)) (BL.cls wr) ?_
   refine uP 1 [(16, some 33, .pointer (some ⟨ba, offa + k * 5 + 2, none⟩))] (BL.cls wr) ?_
   refine uL 17 (some 34) (.int .i64 c.frm) (BL.cls wr) (p := ⟨ba, offa + k * 5 + 2, none⟩) (fun w hSw => BL.cell hSw (HCA.out 2 _ rfl)) ?_
   simp only [zq]
   refine uP 2 [(18, some 35, .slice (some ⟨bb, offb, none⟩) n capb), (19, some 36, .int .i64 (k : Int))] (BL.cls wr) ?_
   simp only [zq]
   refine uG 20 (some 37) (.pointer (some ⟨bb, offb + k * 5, none⟩)) (BL.cls wr) ?_
   refine uP 1 [(21, some 38, .pointer (some ⟨bb, offb + k * 5 + 2, none⟩))] (BL.cls wr) ?_
   refine uL 22 (some 39) (.int .i64 c.frm) (BL.cls wr) (p := ⟨bb, offb + k * 5 + 2, none⟩) (fun w hSw => BL.cell hSw (HCB.out 2 _ rfl)) ?_
   simp only [zq]
   refine uG 23 (some 40) (.bool false) (BL.cls wr) ?_
   simp only [zq]
   refine uG 24 (some 41) (.bool false) (BL.cls wr) ?_
   refine uP 3 [(25, some 42, .bool false), (26, some 43, .slice (some ⟨ba, offa, none⟩) n capa), (27, some 44, .int .i64 (k : Int))] (BL.cls wr) ?_
   simp only [zq]
   refine uG 28 (some 45) (.pointer (some ⟨ba, offa + k * 5, none⟩)) (BL.cls wr) ?_
   refine uP 1 [(29, some 46, .pointer (some ⟨ba, offa + k * 5 + 3, none⟩))] (BL.cls wr) ?_
   refine uL 30 (some 47) (.int .i64 c.qty) (BL.cls wr) (p := ⟨ba, offa + k * 5 + 3, none⟩) (fun w hSw => BL.cell hSw (HCA.out 3 _ rfl)) ?_
   simp only [zq]
   refine uP 2 [(31, some 48, .slice (some ⟨bb, offb, none⟩) n capb), (32, some 49, .int .i64 (k : Int))] (BL.cls wr) ?_
   simp only [zq]
   refine uG 33 (some 50) (.pointer (some ⟨bb, offb + k * 5, none⟩)) (BL.cls wr) ?_
   refine uP 1 [(34, some 51, .pointer (some ⟨bb, offb + k * 5 + 3, none⟩))] (BL.cls wr) ?_
   refine uL 35 (some 52) (.int .i64 c.qty) (BL.cls wr) (p := ⟨bb, offb + k * 5 + 3, none⟩) (fun w hSw => BL.cell hSw (HCB.out 3 _ rfl)) ?_
   simp only [zq]
   refine uG 36 (some 53) (.bool false) (BL.cls wr) ?_
   simp only [zq]
   refine uG 37 (some 54) (.bool false) (BL.cls wr) ?_
   refine uP 3 [(38, some 55, .bool false), (39, some 56, .slice (some ⟨ba, offa, none⟩) n capa), (40, some 57, .int .i64 (k : Int))] (BL.cls wr) ?_
   simp only [zq]
   refine uG 41 (some 58) (.pointer (some ⟨ba, offa + k * 5, none⟩)) (BL.cls wr) ?_
   refine uP 1 [(42, some 59, .pointer (some ⟨ba, offa + k * 5 + 4, none⟩))] (BL.cls wr) ?_
   refine uL 43 (some 60) (.int .i64 c.price) (BL.cls wr) (p := ⟨ba, offa + k * 5 + 4, none⟩) (fun w hSw => BL.cell hSw (HCA.out 4 _ rfl)) ?_
   simp only [zq]
   refine uP 2 [(44, some 61, .slice (some ⟨bb, offb, none⟩) n capb), (45, some 62, .int .i64 (k : Int))] (BL.cls wr) ?_
   simp only [zq]
   refine uG 46 (some 63) (.pointer (some ⟨bb, offb + k * 5, none⟩)) (BL.cls wr) ?_
   refine uP 1 [(47, some 64, .pointer (some ⟨bb, offb + k * 5 + 4, none⟩))] (BL.cls wr) ?_
   refine uL 48 (some 65) (.int .i64 c.price) (BL.cls wr) (p := ⟨bb, offb + k * 5 + 4, none⟩) (fun w hSw => BL.cell hSw (HCB.out 4 _ rfl)) ?_
   simp only [zq]
   refine uG 49 (some 66) (.bool false) (BL.cls wr) ?_
   simp only [zq]
   refine uG 50 (some 67) (.bool false) (BL.cls wr) ?_
   simp only [zq]
   refine wpAnyU_done (by kernel_rfl) (fun w1 hb1 => ?_) _
   go_wp2_with fail
   exact ⟨⟨k + 1, by omega, by push_cast; rfl, bgoS HBL.out hb1⟩, by simp [intOf]; omega⟩
  ·
   obtain rfl : k = n := by omega
   go_wp2_with fail
   go_ret
   exact ⟨rfl, HBL.out⟩
theorem KAssets_same (w : World) (va vb : Value) (L : List AsT) (ha : Rs AsT.vs 4 w va L) (hb : Rs AsT.vs 4 w vb L) :
  Calls Tryz.prog 100 #[va, vb] w fun e w' => e = .returned (.bool true) ∧ Below w.heap.size w w' := by
 obtain ⟨aa, capa, rfl, hcapa, hma⟩ := ha.shape
 obtain ⟨ab, capb, rfl, hcapb, hmb⟩ := hb.shape
 obtain ⟨n, hn⟩ : ∃ n, n = L.length := ⟨_, rfl⟩
 rw [← hn] at ha hb hcapa hcapb ⊢
 have HA := Lh ha
 have HB := Lh hb
 have HN := Lh hn
 clear ha hb hn
 go_in
 go_wp2_with fail
 go_loopw [5] (fun i wr => ∃ k : Nat, k ≤ n ∧ i = .int .i64 k ∧ Below w.heap.size w wr) (fun i _ => n - (intOf i).toNat)
 case atStart => exact ⟨0, Nat.zero_le _, rfl, Below.refl _ _⟩
 case round =>
  obtain ⟨k, hk, rfl, hbel⟩ := hrel
  have HBL := Lh hbel
  by_cases hlt : k < n
  ·
   have hkL : k < L.length := by rw [← HN.out]; exact hlt
   obtain ⟨ba, offa, rfl, _, hca⟩ := (HA.out.rew HN.out hbel).at (by omega) (by decide)
   obtain ⟨bb, offb, rfl, _, hcb⟩ := (HB.out.rew HN.out hbel).at (by omega) (by decide)
   obtain ⟨c, hc⟩ : ∃ c, c = L[k] := ⟨_, rfl⟩
   have HCA : Hid (∀ j v, [.int .i64 c.no, .int .i64 c.cur, .int .i64 c.price, .int .i64 c.cut][j]? = some v → wr.cell? ⟨ba, offa + k * 4 + j, none⟩ = some v) := fun j v h => hca k hkL j v (by rw [← hc]; exact h)
   have HCB : Hid (∀ j v, [.int .i64 c.no, .int .i64 c.cur, .int .i64 c.price, .int .i64 c.cut][j]? = some v → wr.cell? ⟨bb, offb + k * 4 + j, none⟩ = some v) := fun j v h => hcb k hkL j v (by rw [← hc]; exact h)
   have hk0 : (0 : Int) ≤ k := by omega
   have hk1 : (k : Int) < n := by omega
   clear hca hcb hbel hc
   go_wp2_with fail
   refine wp_region_bl 10 (by kernel_rfl) ?_
   refine uP 2 [(0, some 17, .slice (some ⟨ba, offa, none⟩) n capa), (1, some 18, .int .i64 (k : Int))] (BL.cls wr) ?_
   simp only [zq]
   refine uG 2 (some 19) (.pointer (some ⟨ba, offa + k * 4, none⟩)) (BL.cls wr) ?_
   simp only [zq]
   refine uO 3 (some 20) (.agg #[c.no, c.cur, c.price, c.cut]) (BL.cls wr) (fun _ ho => by cases ho; exact .inl ⟨rfl, fun w hSw => eff_load_mid 91 (.tmp 19) rfl ba (offa + k * 4) rfl [c.no, c.cur, c.price, c.cut] _ (fun j v h => BL.cell hSw (by have h7 := HCA.out (0 + j) v (by rcases j with _ | _ | _ | _ | j; all_goals first | exact h | (simp at h)); simpa [Nat.add_assoc] using h7)) Tryz.underlying91 rfl (by rw [show ((Tryz.prog.info? 91).map (·.size)) = some 4 from by kernel_rfl]; rfl)⟩) ?_
   refine uP 2 [(4, some 21, .slice (some ⟨bb, offb, none⟩) n capb), (5, some 22, .int .i64 (k : Int))] (BL.cls wr) ?_
   simp only [zq]
   refine uG 6 (some 23) (.pointer (some ⟨bb, offb + k * 4, none⟩)) (BL.cls wr) ?_
   simp only [zq]
   refine uO 7 (some 24) (.agg #[c.no, c.cur, c.price, c.cut]) (BL.cls wr) (fun _ ho => by cases ho; exact .inl ⟨rfl, fun w hSw => eff_load_mid 91 (.tmp 23) rfl bb (offb + k * 4) rfl [c.no, c.cur, c.price, c.cut] _ (fun j v h => BL.cell hSw (by have h7 := HCB.out (0 + j) v (by rcases j with _ | _ | _ | _ | j; all_goals first | exact h | (simp at h)); simpa [Nat.add_assoc] using h7)) Tryz.underlying91 rfl (by rw [show ((Tryz.prog.info? 91).map (·.size)) = some 4 from by kernel_rfl]; rfl)⟩) ?_
   simp only [zq]
   refine uO 8 (some 25) (.bool true) (BL.cls wr) (fun o ho => ?_) ?_
   ·
    cases ho
    refine Or.inl ⟨rfl, fun w hSw => ?_⟩
    go_simp
    show Calls _ _ _ _ _
    refine (KAsset_same _ _ _ _ _).mono ?_
    rintro e w1 ⟨rfl, hb⟩
    exact ⟨rfl, hb⟩
   try simp only [zq]
   refine uG 9 (some 26) (.bool false) (BL.cls wr) ?_
   simp only [zq]
   refine wpAnyU_done (by kernel_rfl) (fun w1 hb1 => ?_) _
   go_wp2_with fail
   exact ⟨⟨k + 1, by omega, by push_cast; rfl, bgoS HBL.out hb1⟩, by simp [intOf]; omega⟩
  ·
   obtain rfl : k = n := by omega
   go_wp2_with fail
   go_ret
   exact ⟨rfl, HBL.out⟩
end Cam
