import Derived.Test.YtilbijekmmkiaaaRowI
import Derived.Deep.WholeRow
import Derived.Test.YtilbijekmmkiaaaRlA
/- slices.Insert in the middle, slices.Delete, over rows. -/
namespace Cam
open Go Go.RowKit Go.Proofs
theorem ass_info : (Try.prog.info? 42).map (·.size) = some 4 := by kernel_rfl
set_option maxHeartbeats 4000000 in
set_option maxRecDepth 100000 in
theorem ass_shift (b n c i vb : Nat) (cs vs : List Value) (w : World) (hi : i < n) (hroom : n + 1 ≤ c) (hc63 : c ≤ 9223372036854775807) (hvb : vb ≠ b)
  (hcl : cs.length = n * 4) (hvl : vs.length = 4)
  (hcs : ∀ j v, cs[j]? = some v → w.cell? ⟨b, j, none⟩ = some v) (hsp : ∀ j, j < (n + 1) * 4 → (w.cell? ⟨b, j, none⟩).isSome = true) (hfz : ∀ j, w.frozen? ⟨b, j, none⟩ = false)
  (hvs : ∀ j v, vs[j]? = some v → w.cell? ⟨vb, j, none⟩ = some v) (h1c : ∀ v ∈ cs, v.oneCell' = true) (h1v : ∀ v ∈ vs, v.oneCell' = true)
  (tA tB : TypeId) (kA kB : Nat) (hsa : w.shape? vb = some (tA, kA)) (hsb : w.shape? b = some (tB, kB)) (hkB : kB ≠ 0) (hfa : ∀ j, w.frozen? ⟨vb, j, none⟩ = false) :
  Calls Try.prog 75 #[.slice (some ⟨b, 0, none⟩) n c, .int .i64 i, .slice (some ⟨vb, 0, none⟩) 1 1] w fun e w' =>
   e = .returned (.slice (some ⟨b, 0, none⟩) (n + 1) c) ∧ w' = (w.drew.setCells b ((i + 1) * 4) (cs.drop (i * 4))).setCells b (i * 4) vs := by
 have hz2 : ¬ ((i : Int) = (n : Int)) := by omega
 have hov : ∀ lb cb, (callFunc 80 #[.slice (some ⟨vb, 0, none⟩) 1 1, .slice (some ⟨b, (i + 1) * 4, none⟩) lb cb]).run Try.prog w = .ok (.value (.bool false)) w := fun lb cb => by
  rw [run_callFunc_extern Try.func80 (by kernel_rfl) (by kernel_rfl) (by kernel_rfl) (e := Extern.SlicesOverlaps.overlaps #[24, 24] #[4]) (by kernel_rfl),
   Lib.run_overlaps_apart w 24 4 42 Try.underlying24 4 (fun w => by obtain ⟨i0, z0, h1, h2, h3, h4, h5⟩ := elem_ass.info; simp [Go.sizeOf, typeInfo, h1, h3]) ⟨vb, 0, none⟩ ⟨b, (i + 1) * 4, none⟩ 1 1 lb cb hvb tA tB kA kB hsa hsb hkB (hfa _) (hfa _)]
  rfl
 have hdl : (cs.drop (i * 4)).length = (n - i) * 4 := by rw [List.length_drop, hcl, Nat.sub_mul]
 have hw1 : IntKind.i64.wrap ((i : Int) + (1 : Int)) = (i : Int) + (1 : Int) := by rw [IntKind.wrap_i64]; omega
 have hb1 : (0 : Int) ≤ (i : Int) + (1 : Int) := by omega
 have hin : i ≤ n := by omega
 have htn : ((i : Int) + (1 : Int)).toNat = i + 1 := by omega
 have hb2 : ¬ (c = i + 1) := by omega
 have hb3 : (i : Int) ≤ (n : Int) + (1 : Int) := by omega
 have hb4 : ¬ (c = i) := by omega
 have hcp1 : ∀ ty dc sc, (Builtin.copy_ #[24, 24] ty #[.slice (some ⟨b, (i + 1) * 4, none⟩) (n - i) dc, .slice (some ⟨b, i * 4, none⟩) (n + 1 - i) sc]).run Try.prog w.drew = .ok (goInt (Nat.min (n + 1 - i) (n - i))) (w.drew.setCells b ((i + 1) * 4) (cs.drop (i * 4))) := fun ty dc sc =>
  run_copy_wide w.drew _ _ ty 42 b ((i + 1) * 4) (n - i) dc ⟨b, i * 4, none⟩ (n + 1 - i) sc 4 (cs.drop (i * 4)) Try.underlying24 ass_info (by rw [hdl]; congr 1; simp only [Nat.min_def]; split <;> omega)
   (fun j v hj => by rw [Addr.add_lit]; exact hcs (i * 4 + j) v (by rwa [List.getElem?_drop] at hj))
   (fun j hj => hsp ((i + 1) * 4 + j) (by rw [hdl] at hj; omega)) (fun j hj => hfz _) (fun v hv => h1c v (List.mem_of_mem_drop hv))
 obtain ⟨W1, hW1⟩ : ∃ W1, W1 = w.drew.setCells b ((i + 1) * 4) (cs.drop (i * 4)) := ⟨_, rfl⟩
 have hsp1 : ∀ k, k < (n + 1) * 4 → (W1.cell? ⟨b, k, none⟩).isSome = true := fun k hk => by
  rw [hW1]
  exact isSome_puts b _ ((i + 1) * 4) w.drew (fun j hj => hsp ((i + 1) * 4 + j) (by rw [hdl] at hj; omega)) _ (hsp k hk)
 have hcp2 : ∀ (W : World), (∀ x, W.cell? x = W1.cell? x) → (∀ x, W.frozen? x = W1.frozen? x) → ∀ ty dc, (Builtin.copy_ #[24, 24] ty #[.slice (some ⟨b, i * 4, none⟩) (n + 1 - i) dc, .slice (some ⟨vb, 0, none⟩) 1 1]).run Try.prog W = .ok (goInt (Nat.min 1 (n + 1 - i))) (W.setCells b (i * 4) vs) := fun W hWc hWf ty dc =>
  run_copy_wide W _ _ ty 42 b (i * 4) (n + 1 - i) dc ⟨vb, 0, none⟩ 1 1 4 vs Try.underlying24 ass_info (by rw [hvl]; simp only [Nat.min_def]; split <;> omega)
   (fun j v hj => by
    rw [Addr.add_lit, hWc, hW1, World.cell?_setCells_out b _ _ _ _ (fun h _ => absurd h hvb), Nat.zero_add]
    exact hvs j v hj)
   (fun j hj => by rw [hWc]; exact hsp1 _ (by omega)) (fun j hj => by rw [hWf, hW1, World.frozen?_setCells]; exact hfz _) h1v
 rw [← hW1] at hcp1
 go_enter Try.func75, Try.ntmps75
 go_wp2_with (simp only [hov])
 go_region_law (refine step_copy_run rfl _ _ 24 24 rfl _ _ (by simp [Act.eval, Act.put]) (by simp [Act.eval, Act.put]) (hcp1 _ _ _) ?_)
 go_wp2_with (at_builtin; refine wpList_copy_run _ rfl _ _ 24 24 rfl _ _ rfl rfl (hcp2 _ (fun _ => rfl) (fun _ => rfl) _ _) ?_)
 go_ret
 first | exact ⟨rfl, rfl⟩ | exact ⟨rfl, by rw [hW1]⟩
set_option maxHeartbeats 4000000 in
set_option maxRecDepth 100000 in
theorem ass_grow (b n c i vb : Nat) (cs vs : List Value) (w : World) (hi : i < n) (hnc : n ≤ c) (hroom : c < n + 1) (hbig : (n + 1) * 32 ≤ 140737488355328)
  (hcl : cs.length = n * 4) (hvl : vs.length = 4)
  (hcs : ∀ j v, cs[j]? = some v → w.cell? ⟨b, j, none⟩ = some v)
  (hvs : ∀ j v, vs[j]? = some v → w.cell? ⟨vb, j, none⟩ = some v) (h1c : ∀ v ∈ cs, v.oneCell' = true) (h1v : ∀ v ∈ vs, v.oneCell' = true) :
  Calls Try.prog 75 #[.slice (some ⟨b, 0, none⟩) n c, .int .i64 i, .slice (some ⟨vb, 0, none⟩) 1 1] w fun e w' =>
   ∃ (G : Nat) (ROW : List Value), n + 1 ≤ G ∧ G ≤ 9223372036854775807 ∧ ROW.length = G * 4 ∧ ROW.take (i * 4) = cs.take (i * 4) ∧ e = .returned (.slice (some ⟨w.heap.size, 0, none⟩) (n + 1) G) ∧
   w' = (((w.alloc (.cells ROW.toArray 42)).drew.setCells w.heap.size (i * 4) vs).drew).setCells w.heap.size ((i + 1) * 4) (cs.drop (i * 4)) := by
 obtain ⟨i0, z0, hi0, hz0, hzs, hzb, hz1⟩ := elem_ass.info
 have hz2 : ¬ ((i : Int) = (n : Int)) := by omega
 have hz3 : (c : Int) < (n : Int) + (1 : Int) := by omega
 have hbw : b < w.heap.size := World.block_lt_of_cell? w _ (hcs 0 _ (List.getElem?_eq_getElem (by omega)))
 have hvw : vb < w.heap.size := World.block_lt_of_cell? w _ (hvs 0 _ (List.getElem?_eq_getElem (by omega)))
 have hkk : (n : Int) + (1 : Int) - (i : Int) = ((n + 1 - i : Nat) : Int) := by omega
 have hik : i + (n + 1 - i) = n + 1 := by omega
 have hold : (Builtin.firstCells i0.size i (.slice (some ⟨b, 0, none⟩) i c)).run Try.prog w.drew = .ok (cs.take (i * 4)).toArray w.drew := by
  rw [hzs]
  exact run_firstCells_some w.drew 4 i ⟨b, 0, none⟩ i c (cs.take (i * 4)) (by rw [List.length_take]; omega) (fun j v hj => by
   rw [Addr.add_lit, Nat.zero_add]
   rw [List.getElem?_take] at hj
   split at hj
   ·
    exact hcs j v hj
   ·
    cases hj)
 have hrz : ∀ ty, (Builtin.append_ #[24, 3] ty #[.slice (some ⟨b, 0, none⟩) i c, .int .i64 ((n : Int) + (1 : Int) - (i : Int))]).run Try.prog w =
   .ok (.slice (some ⟨w.heap.size, 0, none⟩) (n + 1) (grownCap w (n + 1) c 42)) (w.drew.alloc (.cells ((cs.take (i * 4)).toArray ++ Builtin.zeroCells z0.cells (n + 1 - i) ++ Builtin.zeroCells z0.cells (grownCap w (n + 1) c 42 - (n + 1))) 42)) := fun ty => by
  have h := Lib.run_append_grow_zeros w 24 3 ty 42 i0 _ .i64 .i64 Try.underlying24 Try.underlying3 hi0 hz0 (some ⟨b, 0, none⟩) i c (cs.take (i * 4)) hold (n + 1 - i) (by omega) (by omega) (by omega) (by omega) (by rw [hzb]; omega) (by rw [hzb, hik]; exact growslice_fits hroom hbig)
  rw [hik] at h
  rw [hkk]
  exact h
 obtain ⟨G, hG⟩ : ∃ G, G = grownCap w (n + 1) c 42 := ⟨_, rfl⟩
 rw [← hG] at hrz
 have hGn : n + 1 ≤ G := by rw [hG]; exact grownCap_ge w _ _ _
 have hG63 : G ≤ 9223372036854775807 := by
  have := grownCap_le_maxLen w (n + 1) c 42 (by unfold maxLen; omega)
  rw [← hG] at this
  unfold maxLen at this
  omega
 obtain ⟨ROW, hROW⟩ : ∃ ROW : List Value, ROW.toArray = (cs.take (i * 4)).toArray ++ Builtin.zeroCells z0.cells (n + 1 - i) ++ Builtin.zeroCells z0.cells (G - (n + 1)) := ⟨((cs.take (i * 4)).toArray ++ Builtin.zeroCells z0.cells (n + 1 - i) ++ Builtin.zeroCells z0.cells (G - (n + 1))).toList, by simp⟩
 rw [← hROW] at hrz
 have hRl : ROW.length = G * 4 := by
  have := congrArg Array.size hROW
  simp [Builtin.zeroCells, hz1] at this
  omega
 have hRt : ROW.take (i * 4) = cs.take (i * 4) := by
  have := congrArg Array.toList hROW
  simp only [Array.toList_append] at this
  rw [this, List.append_assoc, List.take_append_of_le_length (by simp; omega), List.take_take, Nat.min_self]
 have hFIN : Hid (ROW.length = G * 4 ∧ ROW.take (i * 4) = cs.take (i * 4)) := ⟨hRl, hRt⟩
 have hRl2 : (n + 1) * 4 ≤ ROW.toArray.size := by simp; omega
 obtain ⟨W1, hW1⟩ : ∃ W1, W1 = w.drew.alloc (.cells ROW.toArray 42) := ⟨_, rfl⟩
 rw [← hW1] at hrz
 have hN : ∀ j, j < (n + 1) * 4 → (W1.cell? ⟨w.heap.size, j, none⟩).isSome = true := fun j hj => by
  rw [hW1, World.cell?_alloc_at (w := w.drew) ROW.toArray _ w.heap.size j rfl, Array.getElem?_eq_getElem (by omega)]; rfl
 have hNf : ∀ j, W1.frozen? ⟨w.heap.size, j, none⟩ = false := fun j => by rw [hW1]; exact World.frozen?_alloc_at (w := w.drew) ROW.toArray _ w.heap.size j rfl
 have hOb : ∀ j v, w.cell? ⟨b, j, none⟩ = some v → W1.cell? ⟨b, j, none⟩ = some v := fun j v h => by rw [hW1, World.cell?_alloc_past (w := w.drew) _ b j hbw]; exact h
 have hOv : ∀ j v, w.cell? ⟨vb, j, none⟩ = some v → W1.cell? ⟨vb, j, none⟩ = some v := fun j v h => by rw [hW1, World.cell?_alloc_past (w := w.drew) _ vb j hvw]; exact h
 have hcpA : ∀ (W : World), (∀ x, W.cell? x = W1.cell? x) → (∀ x, W.frozen? x = W1.frozen? x) → ∀ ty dc, (Builtin.copy_ #[24, 24] ty #[.slice (some ⟨w.heap.size, i * 4, none⟩) (n + 1 - i) dc, .slice (some ⟨vb, 0, none⟩) 1 1]).run Try.prog W = .ok (goInt (Nat.min 1 (n + 1 - i))) (W.setCells w.heap.size (i * 4) vs) := fun W hWc hWf ty dc =>
  run_copy_wide W _ _ ty 42 w.heap.size (i * 4) (n + 1 - i) dc ⟨vb, 0, none⟩ 1 1 4 vs Try.underlying24 ass_info (by rw [hvl]; simp only [Nat.min_def]; split <;> omega)
   (fun j v hj => by rw [Addr.add_lit, hWc, Nat.zero_add]; exact hOv _ v (hvs j v hj))
   (fun j hj => by rw [hWc]; exact hN _ (by omega)) (fun j hj => by rw [hWf]; exact hNf _) h1v
 have hGi : ¬ (G = i) := by omega
 have hGim : ¬ (G = i + 1) := by omega
 have hci : ¬ (c = i) := by omega
 have hbN : b ≠ w.heap.size := by omega
 have hdl : (cs.drop (i * 4)).length = (n - i) * 4 := by rw [List.length_drop, hcl, Nat.sub_mul]
 have hcpB : ∀ (W : World), (∀ x, W.cell? x = (W1.setCells w.heap.size (i * 4) vs).cell? x) → (∀ x, W.frozen? x = (W1.setCells w.heap.size (i * 4) vs).frozen? x) → ∀ ty dc sc, (Builtin.copy_ #[24, 24] ty #[.slice (some ⟨w.heap.size, (i + 1) * 4, none⟩) (n - i) dc, .slice (some ⟨b, i * 4, none⟩) (n - i) sc]).run Try.prog W = .ok (goInt (Nat.min (n - i) (n - i))) (W.setCells w.heap.size ((i + 1) * 4) (cs.drop (i * 4))) := fun W hWc hWf ty dc sc =>
  run_copy_wide W _ _ ty 42 w.heap.size ((i + 1) * 4) (n - i) dc ⟨b, i * 4, none⟩ (n - i) sc 4 (cs.drop (i * 4)) Try.underlying24 ass_info (by rw [hdl]; congr 1; exact (Nat.min_self _).symm)
   (fun j v hj => by
    rw [Addr.add_lit, hWc, World.cell?_setCells_out _ _ _ _ _ (fun h _ => absurd h hbN)]
    exact hOb _ v (hcs (i * 4 + j) v (by rwa [List.getElem?_drop] at hj)))
   (fun j hj => by rw [hWc]; exact isSome_puts w.heap.size vs (i * 4) W1 (fun t ht => hN (i * 4 + t) (by omega)) _ (hN ((i + 1) * 4 + j) (by rw [hdl] at hj; omega)))
   (fun j hj => by rw [hWf, World.frozen?_setCells]; exact hNf _) (fun v hv => h1c v (List.mem_of_mem_drop hv))
 subst hW1
 have hE1 : ∀ x, ((w.alloc (.cells ROW.toArray 42)).drew).cell? x = (w.drew.alloc (.cells ROW.toArray 42)).cell? x := fun x => rfl
 have hE2 : ∀ x, ((w.alloc (.cells ROW.toArray 42)).drew).frozen? x = (w.drew.alloc (.cells ROW.toArray 42)).frozen? x := fun x => rfl
 have hF1 : ∀ x, (((w.alloc (.cells ROW.toArray 42)).drew.setCells w.heap.size (i * 4) vs).drew).cell? x = ((w.drew.alloc (.cells ROW.toArray 42)).setCells w.heap.size (i * 4) vs).cell? x := fun x => rfl
 have hF2 : ∀ x, (((w.alloc (.cells ROW.toArray 42)).drew.setCells w.heap.size (i * 4) vs).drew).frozen? x = ((w.drew.alloc (.cells ROW.toArray 42)).setCells w.heap.size (i * 4) vs).frozen? x := fun x => rfl
 have hw1 : IntKind.i64.wrap ((i : Int) + (1 : Int)) = (i : Int) + (1 : Int) := by rw [IntKind.wrap_i64]; omega
 have hb1 : (0 : Int) ≤ (i : Int) + (1 : Int) := by omega
 have hin : i ≤ n := by omega
 have htn : ((i : Int) + (1 : Int)).toNat = i + 1 := by omega
 have hb3 : (i : Int) ≤ (n : Int) := by omega
 clear hkk hik hold hROW hG hRl hRt hRl2 hi0 hz0 hzs hzb hz1
 go_enter Try.func75, Try.ntmps75
 go_wp2_with (first
  | (at_builtin; refine Lib.wpList_append_run _ rfl _ _ _ _ rfl _ _ rfl rfl _ _ (hrz _) ?_)
  | (at_builtin; refine wpList_copy_run _ rfl _ _ 24 24 rfl _ _ rfl rfl (hcpA _ hE1 hE2 _ _) ?_)
  | (at_builtin; refine wpList_copy_run _ rfl _ _ 24 24 rfl _ _ rfl rfl (hcpB _ (fun _ => rfl) (fun _ => rfl) _ _ _) ?_))
 go_region_law (refine step_copy_run rfl _ _ 24 24 rfl (.slice (some ⟨w.heap.size, (i + 1) * 4, none⟩) (n - i) (G - (i + 1))) (.slice (some ⟨b, i * 4, none⟩) (n - i) (c - i)) (by simp [Act.eval, Act.put]) (by simp [Act.eval, Act.put]) (hcpB _ hF1 hF2 3 (G - (i + 1)) (c - i)) ?_)
 go_wp2
 go_ret
 exact ⟨G, ROW, hGn, hG63, hFIN.out.1, hFIN.out.2, rfl, rfl⟩
theorem ass_insert {w : World} {base n c i vb : Nat} {a : Option Addr} {L : List AsT} {x : AsT} (h : OwnR AsT.vs 4 42 w base (.slice a n c) L) (hL : L.length ≤ 100000) (hi : i < n) (hbase : base ≤ w.heap.size)
  (hv : HT w vb 42 (AsT.vs x)) (hne : ∀ k, (Value.slice a n c).ownBlock = some k → k ≠ vb) :
  Calls Try.prog 75 #[.slice a n c, .int .i64 i, .slice (some ⟨vb, 0, none⟩) 1 1] w fun e w' => ∃ a' n' c', e = .returned (.slice a' n' c') ∧ OwnR AsT.vs 4 42 w' base (.slice a' n' c') (L.take i ++ x :: L.drop i) ∧ Below base w w' ∧ Kept (fun k => (Value.slice a n c).ownBlock = some k) w w' := by
 obtain ⟨ad, rfl⟩ : ∃ ad, a = some ad := by
  rcases h.2.2 with ⟨e, e2⟩ | ⟨g, cap, cur, e, _⟩
  ·
   simp only [Value.slice.injEq] at e
   omega
  ·
   simp only [Value.slice.injEq] at e
   exact ⟨_, e.1⟩
 obtain ⟨g, C, rfl, hg, hh, hn, hnc, hm, hl, ht⟩ := h.open
 have hgv : vb ≠ g := fun e => hne g rfl e.symm
 have hfl : (flatW AsT.vs L).length = n * 4 := by rw [hn]; exact flatW_length (fun a _ => AsT.len a)
 have hC : ∀ j v, (flatW AsT.vs L)[j]? = some v → C[j]? = some v := fun j v hj => by
  rw [← ht, List.getElem?_take] at hj
  split at hj
  ·
   exact hj
  ·
   cases hj
 have hone := flatW_one (fun a => AsT.one a) L
 have hTi : C.take (i * 4) = (flatW AsT.vs L).take (i * 4) := by rw [← ht, List.take_take, Nat.min_eq_left (by omega)]
 by_cases hroom : n + 1 ≤ c
 ·
  refine (ass_shift g n c i vb (flatW AsT.vs L) (AsT.vs x) w hi hroom hm hgv hfl (AsT.len x) (fun j v hj => hh.cell (hC j v hj)) (fun j hj => hh.isSome (by omega)) (fun j => hh.frozen j) (fun j v hj => hv.cell hj) hone (AsT.one x) _ _ _ _ hv.shape hh.shape (by omega) (fun j => hv.frozen j)).mono ?_
  rintro e w' ⟨rfl, rfl⟩
  have h1 : HT w.drew g 42 C := hh
  have h2 := h1.puts (o := (i + 1) * 4) (vs := (flatW AsT.vs L).drop (i * 4)) (by rw [List.length_drop]; omega)
  have h3 := h2.puts (o := i * 4) (vs := AsT.vs x) (by rw [splice_length (by rw [List.length_drop]; omega), AsT.len x]; omega)
  refine ⟨_, _, _, rfl, OwnR.close AsT.len hg h3 (by simp; omega) hroom hm ?_ (ins_splice AsT.len hn (by omega) hroom hl hTi), ?_⟩
  ·
   rw [splice_length (by rw [splice_length (by rw [List.length_drop]; omega), AsT.len x]; omega), splice_length (by rw [List.length_drop]; omega)]
   exact hl
  ·
   exact ⟨Below.puts (Below.puts (Below.refl _ _).drew hg _ _) hg _ _, (((Kept.of_below (Below.refl _ _).drew).weaken (fun _ h => h.elim)).trans ((setCells_kept g _ _ _).trans (setCells_kept g _ _ _) (fun _ _ h => h)) (fun _ _ h => h)).weaken (fun k (h : k = g) => by subst h; rfl)⟩
 ·
  refine (ass_grow g n c i vb (flatW AsT.vs L) (AsT.vs x) w hi hnc (by omega) (by omega) hfl (AsT.len x) (fun j v hj => hh.cell (hC j v hj)) (fun j v hj => hv.cell hj) hone (AsT.one x)).mono ?_
  rintro e w' ⟨G, ROW, hG, hG2, hr, hrt, rfl, rfl⟩
  have h1 : HT (w.alloc (.cells ROW.toArray 42)).drew w.heap.size 42 ROW := HT.new (w := w)
  have h2 := h1.puts (o := i * 4) (vs := AsT.vs x) (by rw [AsT.len x]; omega)
  have h3 := (HT.drew h2).puts (o := (i + 1) * 4) (vs := (flatW AsT.vs L).drop (i * 4)) (by rw [splice_length (by rw [AsT.len x]; omega), List.length_drop]; omega)
  refine ⟨_, _, _, rfl, OwnR.close AsT.len hbase h3 (by simp; omega) hG hG2 ?_ (ins_splice2 AsT.len hn (by omega) hG hr hrt), ?_⟩
  ·
   rw [splice_length (by rw [splice_length (by rw [AsT.len x]; omega), List.length_drop]; omega), splice_length (by rw [AsT.len x]; omega)]
   exact hr
  ·
   exact ⟨Below.puts (Below.drew (Below.puts ((Below.refl _ _).alloc hbase _).drew hbase _ _)) hbase _ _, (Kept.of_below (Below.puts (Below.drew (Below.puts ((Below.refl _ _).alloc (Nat.le_refl _) _).drew (Nat.le_refl _) _ _)) (Nat.le_refl _) _ _)).weaken (fun _ h => h.elim)⟩
end Cam
