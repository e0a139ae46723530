import Derived.Test.YtgeclnjkkjmbaaaGreatWrGz
/- wire: ReadCmd, Kind. -/
namespace Cam
open Go Go.RowKit Go.Proofs
set_option linter.unusedVariables false
set_option linter.unusedSimpArgs false
set_option maxRecDepth 100000
set_option maxHeartbeats 3200000
theorem results_row_tmp {P : Program} {fn : Func} {p u : Tmp} {ty : TypeId} (h : fn.results = #[.cell p ty, .tmp u]) (tmps : Array Value) (w : World) (g : Nat) (t : TypeId) (cs : Array Value) (fr : Nat × Nat) (d : TypeDesc)
  (hp : tmps.getD p undef = .pointer (some ⟨g, 0, none⟩)) (hg : w.heap[g]? = some (.cells cs t fr))
  (hu : P.underlying ty = some d) (hd : (match d with | .struct _ | .array _ _ => true | _ => false) = true) (hi : (P.info? ty).map (·.size) = some cs.size) {x : Value} (hx : tmps.getD u undef = x) :
  (results fn tmps).run P w = .ok (.tuple #[.agg cs, x]) w := by
 have hp' : tmps[p]?.getD undef = .pointer (some ⟨g, 0, none⟩) := by simpa using hp
 subst hx
 rw [results_cell_tmp h]
 simp [hp', asAddr, run_loadVar_row w g t ty cs fr d hg hu hd hi, Result.andThen]
def zs17 : List Int := List.replicate 17 0
def readC (l : List UInt8) : List Int × Int := if 65536 < l.length then (zs17, 6) else if rD (rIs 17 (l, 0)).2 = 0 then ((rIs 17 (l, 0)).1, 0) else (zs17, 6)
def RcPost (w : World) (l : List UInt8) (e : Ending) (w' : World) : Prop := e = .returned (.tuple #[.agg (ivs (readC l).1).toArray, .int .i64 (readC l).2]) ∧ Below w.heap.size w w'
theorem setRow_below {w : World} {B g : Nat} (hg : B ≤ g) (cs : Array Value) : Below B w (w.setRow g cs) := below_setRow (Below.refl _ _) hg _
theorem zSize : (Tryz.prog.info? 59).map (·.size) = some (#[(0:Int), (0:Int), (0:Int), (0:Int), (0:Int), (0:Int), (0:Int), (0:Int), (0:Int), (0:Int), (0:Int), (0:Int), (0:Int), (0:Int), (0:Int), (0:Int), (0:Int)] : Array Value).size := cmdSize
theorem z_one : (#[(0:Int), (0:Int), (0:Int), (0:Int), (0:Int), (0:Int), (0:Int), (0:Int), (0:Int), (0:Int), (0:Int), (0:Int), (0:Int), (0:Int), (0:Int), (0:Int), (0:Int)] : Array Value).all (·.oneCell') = true := by simp [Value.oneCell']
theorem ReadCmd_any (w : World) (v : Value) (l : List UInt8) (h : Bs w v l) (hlen : l.length ≤ 70368744177664) : Calls Tryz.prog 17 #[v] w (RcPost w l) := by
 have hb1 : Below w.heap.size w (w.alloc (.cells #[(0:Int), (0:Int), (0:Int), (0:Int), (0:Int), (0:Int), (0:Int), (0:Int), (0:Int), (0:Int), (0:Int), (0:Int), (0:Int), (0:Int), (0:Int), (0:Int), (0:Int)] 59)) := Bn
 have hc1 : HT (w.alloc (.cells #[(0:Int), (0:Int), (0:Int), (0:Int), (0:Int), (0:Int), (0:Int), (0:Int), (0:Int), (0:Int), (0:Int), (0:Int), (0:Int), (0:Int), (0:Int), (0:Int), (0:Int)] 59)) w.heap.size 59 (ivs zs17) := HT.new (w := w)
 have rd := read_any _ v l (h.mono hb1) hlen
 have HB1 := Lh hb1
 have HC1 := Lh hc1
 have HLEN := Lh hlen
 obtain ⟨a, c, rfl, _, _⟩ := h.shape
 obtain ⟨n, hn⟩ : ∃ n, n = l.length := ⟨_, rfl⟩
 rw [← hn] at rd ⊢
 clear hb1 hc1 h hn hlen
 go_in
 go_wp2_with fail
 refine rd.mono ?_
 clear rd
 rintro e w1 hpo
 rcases hpo with ⟨hlong, rfl, hb⟩ | ⟨hshort, gr, gp, rfl, hw, hge, hb⟩
 ·
  have HG : Hid (w1.heap[w.heap.size]? = some (.cells #[(0:Int), (0:Int), (0:Int), (0:Int), (0:Int), (0:Int), (0:Int), (0:Int), (0:Int), (0:Int), (0:Int), (0:Int), (0:Int), (0:Int), (0:Int), (0:Int), (0:Int)] 59 (0, 0))) := HC1.out.below hb
  have HE := Lh (show readC l = (zs17, 6) by unfold readC; rw [if_pos hlong])
  have HB := Lh (HB1.out.trans (hb.mono HB1.out.size))
  clear hlong hb
  go_wp2_with (first
   | (refine wpList_store_row rfl 59 (.tmp 2) (.tmp 14) rfl w.heap.size #[(0:Int), (0:Int), (0:Int), (0:Int), (0:Int), (0:Int), (0:Int), (0:Int), (0:Int), (0:Int), (0:Int), (0:Int), (0:Int), (0:Int), (0:Int), (0:Int), (0:Int)] rfl rfl 59 #[(0:Int), (0:Int), (0:Int), (0:Int), (0:Int), (0:Int), (0:Int), (0:Int), (0:Int), (0:Int), (0:Int), (0:Int), (0:Int), (0:Int), (0:Int), (0:Int), (0:Int)] HG.out zSize rfl z_one ?_)
   | fail)
  refine bodyPost_ret (results_row_tmp rfl _ _ w.heap.size 59 #[(0:Int), (0:Int), (0:Int), (0:Int), (0:Int), (0:Int), (0:Int), (0:Int), (0:Int), (0:Int), (0:Int), (0:Int), (0:Int), (0:Int), (0:Int), (0:Int), (0:Int)] (0, 0) _ rfl (setRow_heap _ _ _ _ _ _ HG.out) Tryz.underlying59 rfl zSize rfl) rfl ?_
  exact ⟨by rw [HE.out]; rfl, HB.out.trans (setRow_below (Nat.le_refl _) _)⟩
 ·
  have hcm := rdcmd_any w1 gr gp (l, 0) false hw HLEN.out
  have hk1 := HC1.out.below hb
  have HGE := Lh (⟨hge, hw.2.2, hw.lt⟩ : _ ∧ _ ∧ _)
  have HB := Lh (HB1.out.trans (hb.mono HB1.out.size))
  have HK1 := Lh hk1
  have HSH := Lh hshort
  clear hw hb hge hk1 hshort
  go_wp2_with fail
  refine hcm.mono ?_
  clear hcm
  rintro e w2 ⟨rfl, hw2, hk2⟩
  have hl17 := rIs_len 17 (l, 0)
  have hg2 := HK1.out.keptH hk2 (fun e => by have := HGE.out.1; simp at this; omega)
  have hb2 : Below w.heap.size w w2 := HB.out.trans (hk2.below (fun k hk e => by have := HGE.out.1; simp at this; omega) HB.out.size)
  obtain ⟨s, hs⟩ : ∃ s, s = (rIs 17 (l, 0)).2 := ⟨_, rfl⟩
  obtain ⟨L, hL⟩ : ∃ L, L = (rIs 17 (l, 0)).1 := ⟨_, rfl⟩
  rw [← hs] at hw2
  rw [← hL] at hl17 ⊢
  have hbn : Below w2.heap.size w2 (w2.alloc (.cells #[(0:Int), (0:Int), (0:Int), (0:Int), (0:Int), (0:Int), (0:Int), (0:Int), (0:Int), (0:Int), (0:Int), (0:Int), (0:Int), (0:Int), (0:Int), (0:Int), (0:Int)] 59)) := Bn
  have hbs : Below w2.heap.size w2 ((w2.alloc (.cells #[(0:Int), (0:Int), (0:Int), (0:Int), (0:Int), (0:Int), (0:Int), (0:Int), (0:Int), (0:Int), (0:Int), (0:Int), (0:Int), (0:Int), (0:Int), (0:Int), (0:Int)] 59)).setRow w2.heap.size (ivs L).toArray) := hbn.trans (setRow_below (Nat.le_refl _) _)
  have dn := done_any _ gr gp s false (hw2.below hbs)
  obtain ⟨d, hd⟩ : ∃ d, d = dE false s := ⟨_, rfl⟩
  rw [← hd] at dn
  have HG2 : Hid (((w2.alloc (.cells #[(0:Int), (0:Int), (0:Int), (0:Int), (0:Int), (0:Int), (0:Int), (0:Int), (0:Int), (0:Int), (0:Int), (0:Int), (0:Int), (0:Int), (0:Int), (0:Int), (0:Int)] 59)).setRow w2.heap.size (ivs L).toArray).heap[w.heap.size]? = some (.cells #[(0:Int), (0:Int), (0:Int), (0:Int), (0:Int), (0:Int), (0:Int), (0:Int), (0:Int), (0:Int), (0:Int), (0:Int), (0:Int), (0:Int), (0:Int), (0:Int), (0:Int)] 59 (0, 0))) := hg2.below hbs
  have HN2 : Hid (((w2.alloc (.cells #[(0:Int), (0:Int), (0:Int), (0:Int), (0:Int), (0:Int), (0:Int), (0:Int), (0:Int), (0:Int), (0:Int), (0:Int), (0:Int), (0:Int), (0:Int), (0:Int), (0:Int)] 59)).setRow w2.heap.size (ivs L).toArray).heap[w2.heap.size]? = some (.cells (ivs L).toArray 59 (0, 0))) := setRow_heap _ _ _ _ _ _ (heap_alloc_new w2 _)
  have HB3 := Lh (hb2.trans (hbs.mono hb2.size))
  have HSZ : Hid ((Tryz.prog.info? 59).map (·.size) = some (ivs L).toArray.size) := by show _ = _; rw [cmdSize]; simp [ivs, hl17]
  have HS17 : Hid ((#[(0:Int), (0:Int), (0:Int), (0:Int), (0:Int), (0:Int), (0:Int), (0:Int), (0:Int), (0:Int), (0:Int), (0:Int), (0:Int), (0:Int), (0:Int), (0:Int), (0:Int)] : Array Value).size = (ivs L).toArray.size) := by show _ = _; simp [ivs, hl17]
  have HD6 : Hid (d = 0 ∨ d = 6) := by
   show _ ∨ _
   rw [hd]
   unfold dE
   split
   ·
    exact .inr rfl
   ·
    exact .inl rfl
  have HE : Hid (readC l = if d = 0 then (L, 0) else (zs17, 6)) := by
   show _ = _
   unfold readC
   rw [if_neg HSH.out, ← hs, ← hL, hd]
   unfold dE
   by_cases hz : rD s = 0 <;> simp [hz]
  clear hs hL hd hw2 hk2 hl17 hg2 hb2 hbn hbs
  go_wp2_with (first
   | (refine wpList_store_row rfl 59 (.tmp 6) (.tmp 17) rfl w2.heap.size (ivs L).toArray rfl rfl 59 #[(0:Int), (0:Int), (0:Int), (0:Int), (0:Int), (0:Int), (0:Int), (0:Int), (0:Int), (0:Int), (0:Int), (0:Int), (0:Int), (0:Int), (0:Int), (0:Int), (0:Int)] (heap_alloc_new w2 _) HSZ.out HS17.out (ivs_one L) ?_)
   | fail)
  refine dn.mono ?_
  clear dn
  rintro e w3 ⟨rfl, hw3⟩
  generalize hW : (w2.alloc (.cells #[(0:Int), (0:Int), (0:Int), (0:Int), (0:Int), (0:Int), (0:Int), (0:Int), (0:Int), (0:Int), (0:Int), (0:Int), (0:Int), (0:Int), (0:Int), (0:Int), (0:Int)] 59)).setRow w2.heap.size (ivs L).toArray = W3 at *
  clear hW
  subst hw3
  by_cases hz : d = 0
  ·
   subst hz
   go_wp2_with (first
    | (refine wpList_load_row rfl 59 (.tmp 6) rfl w2.heap.size rfl 59 (ivs L).toArray (0, 0) _ HN2.out Tryz.underlying59 rfl HSZ.out ?_)
    | (refine wpList_store_row rfl 59 (.tmp 2) (.tmp 24) rfl w.heap.size (ivs L).toArray rfl rfl 59 #[(0:Int), (0:Int), (0:Int), (0:Int), (0:Int), (0:Int), (0:Int), (0:Int), (0:Int), (0:Int), (0:Int), (0:Int), (0:Int), (0:Int), (0:Int), (0:Int), (0:Int)] HG2.out HSZ.out HS17.out (ivs_one L) ?_)
    | fail)
   refine bodyPost_ret (results_row_tmp rfl _ _ w.heap.size 59 (ivs L).toArray (0, 0) _ rfl (setRow_heap _ _ _ _ _ _ HG2.out) Tryz.underlying59 rfl HSZ.out rfl) rfl ?_
   exact ⟨by rw [HE.out]; first | rfl | (rw [if_pos trivial]; rfl), HB3.out.trans (setRow_below (Nat.le_refl _) _)⟩
  ·
   have hz' : (d != 0) = true := by rw [bne_iff_ne]; exact hz
   have HZ : Hid (d = 6) := HD6.out.resolve_left hz
   clear hz
   go_wp2_with (first
    | (refine wpList_store_row rfl 59 (.tmp 2) (.tmp 22) rfl w.heap.size #[(0:Int), (0:Int), (0:Int), (0:Int), (0:Int), (0:Int), (0:Int), (0:Int), (0:Int), (0:Int), (0:Int), (0:Int), (0:Int), (0:Int), (0:Int), (0:Int), (0:Int)] rfl rfl 59 #[(0:Int), (0:Int), (0:Int), (0:Int), (0:Int), (0:Int), (0:Int), (0:Int), (0:Int), (0:Int), (0:Int), (0:Int), (0:Int), (0:Int), (0:Int), (0:Int), (0:Int)] HG2.out zSize rfl z_one ?_)
    | fail)
   refine bodyPost_ret (results_row_tmp rfl _ _ w.heap.size 59 #[(0:Int), (0:Int), (0:Int), (0:Int), (0:Int), (0:Int), (0:Int), (0:Int), (0:Int), (0:Int), (0:Int), (0:Int), (0:Int), (0:Int), (0:Int), (0:Int), (0:Int)] (0, 0) _ rfl (setRow_heap _ _ _ _ _ _ HG2.out) Tryz.underlying59 rfl zSize rfl) rfl ?_
   exact ⟨by rw [HE.out, if_neg (by rw [HZ.out]; decide), HZ.out]; rfl, HB3.out.trans (setRow_below (Nat.le_refl _) _)⟩
theorem readC_len (l : List UInt8) : (readC l).1.length = 17 := by
 unfold readC
 split
 ·
  rfl
 ·
  split
  ·
   exact rIs_len _ _
  ·
   rfl
theorem Kind_any (w : World) (v : Value) (l : List UInt8) (h : Bs w v l) (hlen : l.length ≤ 70368744177664) : Calls Tryz.prog 48 #[v] w fun e w' => e = .returned (.int .i64 ((readC l).1.getD 2 0)) ∧ Below w.heap.size w w' := by
 have rc := ReadCmd_any w v l h hlen
 unfold RcPost at rc
 have hl := readC_len l
 obtain ⟨L, hL⟩ : ∃ L, L = (readC l).1 := ⟨_, rfl⟩
 obtain ⟨E, hE⟩ : ∃ E, E = (readC l).2 := ⟨_, rfl⟩
 rw [← hL] at rc hl ⊢
 rw [← hE] at rc
 match L, hl with
 | [x0, x1, x2, x3, x4, x5, x6, x7, x8, x9, x10, x11, x12, x13, x14, x15, x16], _ =>
  clear hL hE h
  go_in
  go_wp2_with fail
  refine rc.mono ?_
  clear rc
  rintro e w1 ⟨rfl, hb⟩
  have HB := Lh hb
  clear hb
  simp only [ivs, List.map_cons, List.map_nil]
  go_wp2_with fail
  go_ret
  exact ⟨rfl, HB.out.alloc HB.out.size _⟩
end Cam
