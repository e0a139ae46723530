import Derived.Test.YtlnclfiiplpaiaaDkD
import Derived.Deep.RegionLaw
/- Several small texts in one: DkR, DkN. No condition. -/
namespace Cam
open Go Go.RowKit Go.Proofs
theorem results_row2 {P : Program} {fn : Func} {p u : Tmp} {ty : TypeId} (h : fn.results = #[.cell p ty, .tmp u]) {tmps : Array Value} {w : World} {g : Nat} {C : List Value} {d : TypeDesc} {x : Value}
  (hc : HC w g C) (hp : tmps.getD p undef = .pointer (some ⟨g, 0, none⟩)) (hx : tmps.getD u undef = x)
  (hu : P.underlying ty = some d) (hd : (match d with | .struct _ | .array _ _ => true | _ => false) = true) (hi : (P.info? ty).map (·.size) = some C.length) :
  (results fn tmps).run P w = .ok (.tuple #[.agg C.toArray, x]) w := by
 obtain ⟨t, hg⟩ := hc
 have hp' : tmps[p]?.getD undef = .pointer (some ⟨g, 0, none⟩) := by simpa using hp
 subst hx
 rw [results_cell_tmp h]
 simp [hp', asAddr, run_loadVar_row w g t ty C.toArray (0, 0) d hg hu hd (by simpa using hi), Result.andThen]
theorem blockAt {w : World} {g : Nat} {L : List (List UInt8)} (h : HC w g (flatW bvs L)) (hL : ∀ b ∈ L, b.length = 64) {k : Nat} (hk : k < L.length) : w.rangeAt g (k * 64) (bvs L[k]) :=
 h.range _ (fun j v hv => flatW_at (fun a ha => by rw [bvs_length]; exact hL a ha) hk j v hv)
theorem blockRoom {w : World} {g : Nat} {L : List (List UInt8)} (h : HC w g (flatW bvs L)) (hL : ∀ b ∈ L, b.length = 64) {k : Nat} (hk : k < L.length) {m : List UInt8} (hm : m.length = 64) : w.there g (k * 64) (bvs m).length :=
 h.there (by rw [flatW_length (fun a ha => by rw [bvs_length]; exact hL a ha), bvs_length, hm]; have := Nat.mul_le_mul_right 64 hk; rw [Nat.succ_mul] at this; exact this)
def zero64 : List UInt8 := List.replicate 64 0
theorem zero64_length : zero64.length = 64 := by simp [zero64]
set_option maxHeartbeats 1600000 in
set_option maxRecDepth 100000 in
theorem Read_any (w : World) (g gs gn : Nat) (vo : Value) (n : Nat) (D : DK) (h : DM w g gs gn vo n D) (at_ : Int) :
  Calls Try.prog 17 #[.pointer (some ⟨g, 0, none⟩), .int .i64 at_] w fun e w' => (∃ b : List UInt8, e = .returned (.tuple #[.agg (bvs b).toArray, .int .i64 (dRight n D at_)]) ∧ (dRight n D at_ = 0 → D.now[at_.toNat]? = some b) ∧ (dRight n D at_ ≠ 0 → b = zero64)) ∧ Below w.heap.size w w' := by
 have hz : HC (w.alloc (.cells (bvs zero64).toArray 36)) w.heap.size (bvs zero64) := HC.new
 have hri := fun w' (h' : DM w' g gs gn vo n D) => right_any w' g gs gn vo n D h' at_
 have hA := h.alloc (.cells (bvs zero64).toArray 36)
 obtain ⟨r, hr⟩ : ∃ r, r = dRight n D at_ := ⟨_, rfl⟩
 rw [← hr] at hri
 rw [← hr]
 by_cases h0 : r = 0
 ·
  have hat : 0 ≤ at_ ∧ at_ < n := by
   rw [hr] at h0
   unfold dRight at h0
   split at h0
   ·
    cases h0
   ·
    split at h0
    ·
     cases h0
    ·
     omega
  obtain ⟨k, rfl⟩ : ∃ k : Nat, at_ = (k : Int) := ⟨at_.toNat, by omega⟩
  have hk : k < n := by omega
  have hkl : k < D.now.length := by rw [h.ok.now.1]; exact hk
  obtain ⟨b, hb⟩ : ∃ b, b = D.now[k] := ⟨_, rfl⟩
  have hrange := blockAt hA.hn h.ok.now.2 hkl
  have hbl := h.ok.now.2 _ (List.getElem_mem hkl)
  rw [← hb] at hrange hbl
  have HK : Hid (D.now[(k : Int).toNat]? = some b) := by show _ = _; rw [Int.toNat_natCast, List.getElem?_eq_getElem hkl, hb]
  have Hsz := Lib.hid (size64_of hbl)
  have Hran := Lib.hid hrange
  have hroom := hz.room (m := b) zero64_length hbl
  have Hroom := Lib.hid hroom
  have hc1 := hA.cells.2.1
  have hfin := hz.puts (vs := bvs b) (o := 0) (by rw [bvs_length, bvs_length, hbl, zero64_length]; omega)
  rw [splice_all _ _ (by rw [hbl, zero64_length])] at hfin
  have Hfin := Lib.hid hfin
  have HA := Lib.hid hA
  have Hri := Lib.hid hri
  have Hbl := Lib.hid hbl
  have hn1 := h.ok.n1
  subst h0
  clear hr hb hrange hbl hroom hfin hA hri h hat hz hkl
  go_enter Try.func17, Try.ntmps17
  go_wp2_with fail
  refine (Hri.out _ HA.out).mono ?_
  rintro e w1 ⟨rfl, rfl⟩
  go_wp2_with (first
   | (refine wpList_load_mid rfl 36 (.tmp 19) rfl gn (k * 64) rfl (bvs b) _ Hran.out Try.underlying36 rfl Hsz.out ?_)
   | (refine wpList_store_mid rfl 36 (.tmp 4) (.tmp 20) rfl w.heap.size 0 (bvs b).toArray rfl rfl (by simpa using Hroom.out) (by simpa using Hsz.out) (all_oneCell_toArray (bs_oneCell _)) ?_)
   | fail)
  refine bodyPost_ret (results_row2 rfl Hfin.out rfl rfl Try.underlying36 rfl Hsz.out) rfl ⟨⟨b, rfl, fun _ => HK.out, fun h => absurd rfl h⟩, ?_⟩
  exact ((Below.refl _ _).alloc (Nat.le_refl _) _).trans ((setCells_kept _ _ _ _).below (fun j hj e => by omega) (by simp))
 ·
  have hri0 : ((r : Int) == 0) = false := by simp [h0]
  have Hz := Lib.hid hz
  have Hri := Lib.hid hri
  have HA := Lib.hid hA
  have Hsz := Lib.hid (size64_of zero64_length)
  have Hroom := Lib.hid (hz.room (m := zero64) zero64_length zero64_length)
  have hfin := hz.puts (vs := bvs zero64) (o := 0) (by rw [bvs_length, zero64_length]; omega)
  rw [splice_all _ _ rfl] at hfin
  have Hfin := Lib.hid hfin
  have H0 := Lib.hid h0
  clear hr hri hA hz h hfin h0
  go_enter Try.func17, Try.ntmps17
  go_wp2_with fail
  refine (Hri.out _ HA.out).mono ?_
  rintro e w1 ⟨rfl, rfl⟩
  go_wp2_with (first
   | (refine wpList_store_mid rfl 36 (.tmp 4) (.tmp 12) rfl w.heap.size 0 (bvs zero64).toArray rfl rfl (by simpa using Hroom.out) (by simpa using Hsz.out) (all_oneCell_toArray (bs_oneCell _)) ?_)
   | fail)
  refine bodyPost_ret (results_row2 rfl Hfin.out rfl rfl Try.underlying36 rfl Hsz.out) rfl ⟨⟨zero64, rfl, fun h => absurd h H0.out, fun _ => rfl⟩, ?_⟩
  exact ((Below.refl _ _).alloc (Nat.le_refl _) _).trans ((setCells_kept _ _ _ _).below (fun j hj e => by omega) (by simp))
end Cam
namespace Cam
open Go Go.RowKit Go.Proofs
theorem elem_block : Elem Try.prog 75 36 64 64 := Elem.mk' (z := .agg (bvs zero64).toArray) Try.underlying75 (by kernel_rfl) (by simp [Value.cells, zero64_length]) (by decide)
theorem zeros_flat (n : Nat) : flatW bvs (List.replicate n zero64) = List.replicate (n * 64) (.int .u8 0) := by
 induction n with
 | zero => rfl
 | succ n ih =>
  rw [List.replicate_succ]
  have e : flatW bvs (zero64 :: List.replicate n zero64) = bvs zero64 ++ flatW bvs (List.replicate n zero64) := by simp [flatW]
  rw [e, ih, show bvs zero64 = List.replicate 64 (.int .u8 0) from rfl, List.replicate_append_replicate, Nat.succ_mul, Nat.add_comm]
theorem madeZeros (n : Nat) : (madeCells (bvs zero64).toArray (n * 64)).toList = flatW bvs (List.replicate n zero64) := by
 rw [zeros_flat]
 apply List.ext_getElem
 ·
  simp [madeCells]
 ·
  intro i h1 h2
  simp only [madeCells, Array.toList_map, List.getElem_map, List.getElem_replicate]
  have hs : (bvs zero64).toArray.size = 64 := by simp [zero64_length]
  have hm : ∀ k, k < 64 → (bvs zero64).toArray[k]! = .int .u8 0 := by
   intro k hk
   rw [getElem!_pos _ k (by rw [hs]; exact hk)]
   have e : bvs zero64 = List.replicate 64 (.int .u8 0) := rfl
   simp only [e, List.getElem_toArray, List.getElem_replicate]
  exact (fun x => hm (x % (bvs zero64).toArray.size) (by rw [hs]; exact Nat.mod_lt _ (by omega)) : ∀ x, (bvs zero64).toArray[x % (bvs zero64).toArray.size]! = .int .u8 0) _
theorem run_make_blocks (w : World) (n : Nat) (hn : n ≤ 65536) : ∃ w', (Instr.makeSlice 75 (.int .i64 (n : Int)) (.int .i64 (n : Int))).run Try.prog w = .ok (.slice (some ⟨w.heap.size, 0, none⟩) n n) w' ∧ HC w' w.heap.size (flatW bvs (List.replicate n zero64)) ∧ Below w.heap.size w w' := by
 obtain ⟨ht, ⟨i, z, hi, hz, hs, hby, hzs⟩, hp⟩ := elem_block
 have hz2 : z = .agg (bvs zero64).toArray := by
  have h : (Try.prog.info? 36).map (·.zero) = some (some (.agg (bvs zero64).toArray)) := by kernel_rfl
  rw [hi] at h
  simp only [Option.map_some, Option.some.injEq] at h
  rw [hz] at h
  simpa using h
 obtain ⟨w', hrun, hown, hg⟩ := run_make_full (P := Try.prog) w w.heap.size 75 36 i z 64 ht hi hz hs .i64 .i64 n (by rw [hby]; omega) (by unfold maxLen; omega) (Nat.le_refl _)
 refine ⟨w', hrun, ?_, (Below.refl _ _).grown hg (Nat.le_refl _) (fun k hk => by cases hk)⟩
 subst hz2
 rw [show (Value.agg (bvs zero64).toArray).cells = (bvs zero64).toArray from rfl, madeZeros] at hown
 obtain ⟨hl, h2⟩ := hown
 rcases h2 with ⟨e, _⟩ | ⟨g, cap, cur, e, _, hh, _, _, hsz, htk⟩
 ·
  cases e
 ·
  simp only [Value.slice.injEq, Option.some.injEq, Addr.mk.injEq] at e
  obtain ⟨⟨rfl, _⟩, _, rfl⟩ := e
  refine ⟨36, ?_⟩
  rw [hh, ← htk, List.take_of_length_le (by simp [hsz])]
theorem step_make_blocks {ops : Array Oper} {o : Oper} {a : Act} {w : World} {K : Act → World → Prop} {Q : Exit → Act → World → Prop} {E : Prop} (hgd : o.guard = none) (l c : Operand) (hop : o.op = Op.makeSlice 75 l c)
  (n : Nat) (hn : n ≤ 65536) (hl : a.eval l = .int .i64 (n : Int)) (hc : a.eval c = .int .i64 (n : Int))
  (h : ∀ w', HC w' w.heap.size (flatW bvs (List.replicate n zero64)) → Below w.heap.size w w' → K (a.put o.dst (.slice (some ⟨w.heap.size, 0, none⟩) n n)) w') :
  if Region.wanted o (yielded ops a.tmps) = true then Oper.wp Try.prog o a w K Q else E := by
 rw [if_pos (by simp [Region.wanted, hgd])]
 obtain ⟨w', hrun, h1, h2⟩ := run_make_blocks w n hn
 unfold Oper.wp
 simp [execOp, hop, hl, hc, hrun, Result.andThen]
 exact h w' h1 h2
def DK.new (n : Nat) : DK := ⟨List.replicate n zero64, List.replicate n zero64, [], false, 0, false⟩
theorem DK.new_ok {n : Nat} (h : n ≤ 65536) : DOk n (DK.new n) :=
 ⟨h, ⟨by simp [DK.new], fun b hb => by simp [DK.new] at hb; rw [hb.2]; exact zero64_length⟩, ⟨by simp [DK.new], fun b hb => by simp [DK.new] at hb; rw [hb.2]; exact zero64_length⟩, fun x hx => by simp [DK.new] at hx, by simp [DK.new], by simp [DK.new]⟩
def NewPost (w : World) (n : Nat) (e : Ending) (w' : World) : Prop := ∃ g gs gn, e = .returned (.tuple #[.pointer (some ⟨g, 0, none⟩), .int .i64 0]) ∧ DM w' g gs gn (.slice none 0 0) n (DK.new n) ∧ w.heap.size ≤ gs ∧ w.heap.size ≤ gn ∧ w.heap.size ≤ g ∧ Below w.heap.size w w'
set_option maxRecDepth 100000 in
set_option maxHeartbeats 1600000 in
theorem New_ok (w : World) (n : Nat) (h1 : 1 ≤ n) (h2 : n ≤ 65536) : Calls Try.prog 12 #[.int .i64 (n : Int)] w (NewPost w n) := by
 have h1' : decide ((n : Int) < 1) = false := by simp; omega
 have h2' : decide ((65536 : Int) < (n : Int)) = false := by simp; omega
 have H2 := Lib.hid h2
 have H1 := Lib.hid h1
 clear h1 h2
 go_enter Try.func12, Try.ntmps12
 go_wp2_with fail
 refine wp_region_any (by kernel_rfl) ?_
 change wpAny _ _ _ _ _ _ _ (World.drew _)
 refine wpAny_take (i := 0) (v := .int .i64 n) rfl (by kernel_rfl) (by kernel_rfl) (by kernel_rfl) (fun _ _ _ h => h) (Or.inl ⟨by rfl, by intro w; go_simp⟩) ?_
 refine wpAny_take (i := 2) (v := .int .i64 n) rfl (by kernel_rfl) (by kernel_rfl) (by kernel_rfl) (fun _ _ _ h => h) (Or.inl ⟨by rfl, by intro w; go_simp⟩) ?_
 refine wpAny_ready (rs := [1, 3]) (by kernel_rfl) (by simp) ?_
 refine AllReady.cons rfl (fun K hK => ?_) (AllReady.cons rfl (fun K hK => ?_) AllReady.nil)
 ·
  refine step_make_blocks rfl (.tmp 10) (.tmp 10) rfl n H2.out rfl rfl ?_
  intro w2 hcw2 hbw2
  refine hK _ _ ?_
  clear hK K
  refine wpAny_ready (rs := [3]) (by kernel_rfl) (by simp) ?_
  refine AllReady.cons rfl (fun K hK => ?_) AllReady.nil
  refine step_make_blocks rfl (.tmp 12) (.tmp 12) rfl n H2.out rfl rfl ?_
  intro w3 hcw3 hbw3
  refine hK _ _ ?_
  clear hK K
  refine wpAny_ready (rs := [4]) (by kernel_rfl) (by simp) ?_
  refine AllReady.cons rfl (fun K hK => ?_) AllReady.nil
  go_simp
  refine hK _ _ ?_
  clear hK K
  refine wpAny_ready (rs := [5]) (by kernel_rfl) (by simp) ?_
  refine AllReady.cons rfl (fun K hK => ?_) AllReady.nil
  go_simp
  refine hK _ _ ?_
  clear hK K
  refine wpAny_ready (rs := [6]) (by kernel_rfl) (by simp) ?_
  refine AllReady.cons rfl (fun K hK => ?_) AllReady.nil
  go_simp
  refine hK _ _ ?_
  clear hK K
  refine wpAny_ready (rs := [7]) (by kernel_rfl) (by simp) ?_
  refine AllReady.cons rfl (fun K hK => ?_) AllReady.nil
  go_simp
  refine hK _ _ ?_
  clear hK K
  refine wpAny_done (by kernel_rfl) ?_ _
  have hz2 := hcw2.lt
  have hz3 := hcw3.lt
  have hsz := hbw3.size
  have hsw : w.drew.heap.size = w.heap.size := rfl
  go_wp2_with fail
  go_ret2
  refine ⟨w3.heap.size, w.heap.size, w2.heap.size, rfl, ⟨⟨82, heap_new rfl⟩, (HC.alloc (hcw2.below hbw3) _), (HC.alloc hcw3 _), World.ownsRow_nil _ _ _ _, ⟨by omega, by omega, by omega⟩, DK.new_ok H2.out⟩, by omega, by omega, by omega, ?_⟩
  exact (((Below.refl w.heap.size w).drew.trans hbw2).trans (hbw3.mono hbw2.size)).alloc (by omega) _
 ·
  refine step_make_blocks rfl (.tmp 12) (.tmp 12) rfl n H2.out rfl rfl ?_
  intro w2 hcw2 hbw2
  refine hK _ _ ?_
  clear hK K
  refine wpAny_ready (rs := [1]) (by kernel_rfl) (by simp) ?_
  refine AllReady.cons rfl (fun K hK => ?_) AllReady.nil
  refine step_make_blocks rfl (.tmp 10) (.tmp 10) rfl n H2.out rfl rfl ?_
  intro w3 hcw3 hbw3
  refine hK _ _ ?_
  clear hK K
  refine wpAny_ready (rs := [4]) (by kernel_rfl) (by simp) ?_
  refine AllReady.cons rfl (fun K hK => ?_) AllReady.nil
  go_simp
  refine hK _ _ ?_
  clear hK K
  refine wpAny_ready (rs := [5]) (by kernel_rfl) (by simp) ?_
  refine AllReady.cons rfl (fun K hK => ?_) AllReady.nil
  go_simp
  refine hK _ _ ?_
  clear hK K
  refine wpAny_ready (rs := [6]) (by kernel_rfl) (by simp) ?_
  refine AllReady.cons rfl (fun K hK => ?_) AllReady.nil
  go_simp
  refine hK _ _ ?_
  clear hK K
  refine wpAny_ready (rs := [7]) (by kernel_rfl) (by simp) ?_
  refine AllReady.cons rfl (fun K hK => ?_) AllReady.nil
  go_simp
  refine hK _ _ ?_
  clear hK K
  refine wpAny_done (by kernel_rfl) ?_ _
  have hz2 := hcw2.lt
  have hz3 := hcw3.lt
  have hsz := hbw3.size
  have hsw : w.drew.heap.size = w.heap.size := rfl
  go_wp2_with fail
  go_ret2
  refine ⟨w3.heap.size, w2.heap.size, w.heap.size, rfl, ⟨⟨82, heap_new rfl⟩, (HC.alloc hcw3 _), (HC.alloc (hcw2.below hbw3) _), World.ownsRow_nil _ _ _ _, ⟨by omega, by omega, by omega⟩, DK.new_ok H2.out⟩, by omega, by omega, by omega, ?_⟩
  exact (((Below.refl w.heap.size w).drew.trans hbw2).trans (hbw3.mono hbw2.size)).alloc (by omega) _
end Cam
