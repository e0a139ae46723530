import Derived.Test.YtgeclnjkkjmbaaaGreatWrH
import Derived.Test.YtgeclnjkkjmbaaaGreatWrVIz
import Derived.Deep.DeepCutAuto
import Derived.Test.YtgeclnjkkjmbaaaGreatVd
import Derived.Deep.CutBlock
/- Several small texts in one: WrJa, WsI. No condition. -/
namespace Cam
open Go Go.RowKit Go.Proofs
set_option linter.unusedVariables false
set_option linter.unusedSimpArgs false
set_option maxRecDepth 100000
set_option maxHeartbeats 1600000
theorem QPost.below {tq : TypeId} {W w w' : World} {g : Nat} {B : List UInt8} {v : Value} {s : RS} (h : QPost tq W g B v s w) (hb : Below w.heap.size w w') : QPost tq W g B v s w' := by
 obtain ⟨m, h1, h2, h3⟩ := h
 exact ⟨m, h1.below hb, h2, h3.trans (Kept.of_below hb) (fun _ _ h => h.elim)⟩
theorem QPost.kept {tq : TypeId} {W w w' : World} {g ga : Nat} {B : List UInt8} {v : Value} {s : RS} (h : QPost tq W g B v s w) (hk : Kept (fun k => k = ga) w w') (hg : g < ga) (hW : W.heap.size ≤ ga) : QPost tq W g B v s w' := by
 obtain ⟨m, h1, h2, h3⟩ := h
 exact ⟨m, h1.kept hk (fun k hk e => by omega), h2, h3.trans hk (fun i hi e => by omega)⟩
theorem QPost.lt {tq : TypeId} {W w : World} {g : Nat} {B : List UInt8} {v : Value} {s : RS} (h : QPost tq W g B v s w) : g < w.heap.size := by
 obtain ⟨m, h1, _, _⟩ := h
 exact h1.lt
theorem QPost.size {tq : TypeId} {W w : World} {g : Nat} {B : List UInt8} {v : Value} {s : RS} (h : QPost tq W g B v s w) : W.heap.size ≤ w.heap.size := by
 obtain ⟨m, _, _, h3⟩ := h
 exact h3.size
theorem QInt_at {tq : TypeId} {W w : World} {g : Nat} {B : List UInt8} {v : Value} {s : RS} (h : QPost tq W g B v s w) (hlen : B.length ≤ 70368744177664) :
  Calls Tryz.prog 34 #[.pointer (some ⟨g, 0, none⟩)] w fun r w' => r = .returned (.int .i64 (rI s).1) ∧ QPost tq W g B v (rI s).2 w' ∧ Kept (fun k => k = g) w w' := by
 obtain ⟨m, h1, h2, h3⟩ := h
 refine (QInt_any w g B v m s.2 h1 hlen).mono ?_
 rw [h2]
 rintro r w' ⟨h4, m2, h5, h6, h7⟩
 exact ⟨h4, ⟨m2, h5, h6, h3.trans h7 (fun _ _ h => h)⟩, h7⟩
theorem QP.cls {tq : TypeId} {W : World} {g : Nat} {B : List UInt8} {v : Value} {s : RS} : Cls (fun _ => True) (QPost tq W g B v s) := ⟨fun _ _ => trivial, fun _ _ h hb => h.below hb⟩
theorem sixSize : (Tryz.prog.info? 57).map (·.size) = some 6 := by kernel_rfl
def ShPost (w : World) (g : Nat) (B : List UInt8) (v : Value) (s : RS) (e : Ending) (w' : World) : Prop := e = .returned (.agg (ivs (rIs 6 s).1).toArray) ∧ QPost 122 w g B v (rIs 6 s).2 w'
theorem rshifts_any (w : World) (g : Nat) (B : List UInt8) (v : Value) (s : RS) (h : QPost 122 w g B v s w) (hlen : B.length ≤ 70368744177664) :
  Calls Tryz.prog 96 #[.pointer (some ⟨g, 0, none⟩)] w (ShPost w g B v s) := by
 have hb1 : Below w.heap.size w (w.alloc (.cells #[(0:Int), (0:Int), (0:Int), (0:Int), (0:Int), (0:Int)] 57)) := Bn
 have hb2 : Below w.heap.size w ((w.alloc (.cells #[(0:Int), (0:Int), (0:Int), (0:Int), (0:Int), (0:Int)] 57)).alloc (.cells #[(0:Int), (0:Int), (0:Int), (0:Int), (0:Int), (0:Int)] 57)) := hb1.alloc hb1.size _
 have hc1 : HT ((w.alloc (.cells #[.int .i64 0, .int .i64 0, .int .i64 0, .int .i64 0, .int .i64 0, .int .i64 0] 57)).alloc (.cells #[.int .i64 0, .int .i64 0, .int .i64 0, .int .i64 0, .int .i64 0, .int .i64 0] 57)) w.heap.size 57 [.int .i64 0, .int .i64 0, .int .i64 0, .int .i64 0, .int .i64 0, .int .i64 0] := (HT.new (w := w) (t := 57) (C := [.int .i64 0, .int .i64 0, .int .i64 0, .int .i64 0, .int .i64 0, .int .i64 0])).below (Bn)
 have hc2 : HT ((w.alloc (.cells #[(0:Int), (0:Int), (0:Int), (0:Int), (0:Int), (0:Int)] 57)).alloc (.cells #[(0:Int), (0:Int), (0:Int), (0:Int), (0:Int), (0:Int)] 57)) (w.heap.size + 1) 57 [(0:Int), (0:Int), (0:Int), (0:Int), (0:Int), (0:Int)] := by
  have := HT.new (w := w.alloc (.cells #[.int .i64 0, .int .i64 0, .int .i64 0, .int .i64 0, .int .i64 0, .int .i64 0] 57)) (t := 57) (C := [.int .i64 0, .int .i64 0, .int .i64 0, .int .i64 0, .int .i64 0, .int .i64 0])
  rw [show (w.alloc (.cells #[(0:Int), (0:Int), (0:Int), (0:Int), (0:Int), (0:Int)] 57)).heap.size = w.heap.size + 1 by simp] at this
  exact this
 have HQ := Lh (h.below hb2)
 have HC1 := Lh hc1
 have HC2 := Lh hc2
 have HLT := Lh h.lt
 have HLEN := Lh hlen
 clear hb1 hb2 hc1 hc2 h hlen
 go_in
 go_wp2_with fail
 generalize hW : (w.alloc (.cells #[(0:Int), (0:Int), (0:Int), (0:Int), (0:Int), (0:Int)] 57)).alloc (.cells #[(0:Int), (0:Int), (0:Int), (0:Int), (0:Int), (0:Int)] 57) = W at *
 clear hW
 go_loopw [4] (fun v4 wr => ∃ k : Nat, k ≤ 6 ∧ v4 = .int .i64 k ∧ QPost 122 w g B v (rIs k s).2 wr ∧ HT wr w.heap.size 57 [.int .i64 0, .int .i64 0, .int .i64 0, .int .i64 0, .int .i64 0, .int .i64 0] ∧ HT wr (w.heap.size + 1) 57 (splice [.int .i64 0, .int .i64 0, .int .i64 0, .int .i64 0, .int .i64 0, .int .i64 0] 0 (ivs (rIs k s).1))) (fun i _ => 6 - (intOf i).toNat)
 case atStart => exact ⟨0, by omega, rfl, HQ.out, HC1.out, by simpa [rIs, splice] using HC2.out⟩
 case round =>
  obtain ⟨k, hk, rfl, hq, hc1, hc2⟩ := hrel
  have HQ1 := Lh hq
  have HT1 := Lh hc1
  have HT2 := Lh hc2
  by_cases hlt : k < 6
  ·
   have ri := QInt_at hq HLEN.out
   obtain ⟨n, hn⟩ : ∃ n, n = (rI (rIs k s).2).1 := ⟨_, rfl⟩
   rw [← hn] at ri
   have HN := Lh hn
   clear hn hq hc1 hc2
   go_wp2_with fail
   refine ri.mono ?_
   clear ri
   rintro e w1 ⟨rfl, hq1, hk1⟩
   have hc2 := HT2.out.keptH hk1 (fun e => by have := HLT.out; omega)
   have hc1 := HT1.out.keptH hk1 (fun e => by have := HLT.out; omega)
   have hl6 : (splice [.int .i64 0, .int .i64 0, .int .i64 0, .int .i64 0, .int .i64 0, .int .i64 0] 0 (ivs (rIs k s).1)).length = 6 := by rw [splice_length (by rw [List.length_map, rIs_len]; simp; omega)]; rfl
   have hcell := hc2.cell (j := k) (List.getElem?_eq_getElem (by omega))
   have hfr := hc2.frozen k
   have hput := hc2.put k (.int .i64 n)
   have hk2 : Kept (fun k => k = w.heap.size + 1) w1 (w1.setCell ⟨w.heap.size + 1, k, none⟩ (.int .i64 n)) := (Kept.refl _ w1).setCell _ _ rfl
   have hq2 := hq1.kept hk2 (by have := HLT.out; omega) (by omega)
   have hc3 := hc1.keptH hk2 (fun e => by omega)
   have he : (splice [.int .i64 0, .int .i64 0, .int .i64 0, .int .i64 0, .int .i64 0, .int .i64 0] 0 (ivs (rIs k s).1)).set k (.int .i64 n) = splice [.int .i64 0, .int .i64 0, .int .i64 0, .int .i64 0, .int .i64 0, .int .i64 0] 0 (ivs (rIs (k + 1) s).1) := by
    have h1 := splice_snoc (C := [.int .i64 0, .int .i64 0, .int .i64 0, .int .i64 0, .int .i64 0, .int .i64 0]) (o := 0) (xs := ivs (rIs k s).1) (.int .i64 n) (by rw [List.length_map, rIs_len]; simp; omega)
    rw [List.length_map, rIs_len, Nat.zero_add] at h1
    rw [h1, HN.out]
    simp [rIs, ivs]
   rw [he] at hput
   have HPUT := Lh hput
   have HQ2 := Lh hq2
   have HC3 := Lh hc3
   generalize (splice [.int .i64 0, .int .i64 0, .int .i64 0, .int .i64 0, .int .i64 0, .int .i64 0] 0 (ivs (rIs k s).1))[k]'(by omega) = q at hcell
   clear hput hq2 hc3 hk2 he hq1 hk1 hc1 hc2 hl6
   go_wp2_with fail
   exact ⟨⟨k + 1, by omega, by push_cast; rfl, HQ2.out, HC3.out, HPUT.out⟩, by simp [intOf]; omega⟩
  ·
   obtain rfl : k = 6 := by omega
   have hl6 := rIs_len 6 s
   rw [splice_all (by rw [List.length_map, hl6]; rfl)] at hc2
   obtain ⟨L, hL⟩ : ∃ L, L = (rIs 6 s).1 := ⟨_, rfl⟩
   rw [← hL] at hc2 hl6
   have HG2 : Hid (wr.heap[w.heap.size + 1]? = some (.cells (ivs L).toArray 57 (0, 0))) := hc2
   have HG1 : Hid (wr.heap[w.heap.size]? = some (.cells #[(0:Int), (0:Int), (0:Int), (0:Int), (0:Int), (0:Int)] 57 (0, 0))) := hc1
   have HSZ : Hid ((Tryz.prog.info? 57).map (·.size) = some (ivs L).toArray.size) := by show _ = _; rw [sixSize]; simp [ivs, hl6]
   have HS6 : Hid ((#[(0:Int), (0:Int), (0:Int), (0:Int), (0:Int), (0:Int)] : Array Value).size = (ivs L).toArray.size) := by show _ = _; simp [ivs, hl6]
   have HL := Lh hL
   clear hq hc1 hc2 hL hl6
   go_wp2_with (first
    | (refine wpList_load_row rfl 57 (.tmp 3) rfl (w.heap.size + 1) rfl 57 (ivs L).toArray (0, 0) _ HG2.out Tryz.underlying57 rfl HSZ.out ?_)
    | (refine wpList_store_row rfl 57 (.tmp 2) (.tmp 15) rfl w.heap.size (ivs L).toArray rfl rfl 57 #[(0:Int), (0:Int), (0:Int), (0:Int), (0:Int), (0:Int)] HG1.out HSZ.out HS6.out (ivs_one L) ?_)
    | fail)
   refine bodyPost_ret (results_cell_row rfl _ _ w.heap.size 57 (ivs L).toArray (0, 0) _ rfl (setRow_heap _ _ _ _ _ _ HG1.out) Tryz.underlying57 rfl HSZ.out) rfl ?_
   have hkr : Kept (fun k => k = w.heap.size) wr (wr.setRow w.heap.size (ivs L).toArray) := ⟨rfl, rfl, rfl, by simp [World.setRow], fun k _ hn => setRow_other _ _ _ _ hn⟩
   exact ⟨by rw [HL.out], HQ1.out.kept hkr HLT.out (Nat.le_refl _)⟩
end Cam
namespace Cam
open Go Go.RowKit Go.Proofs
set_option linter.unusedVariables false
set_option linter.unusedSimpArgs false
set_option maxHeartbeats 1600000
theorem QPost.keptS {S : Nat → Prop} {tq : TypeId} {W w w' : World} {g : Nat} {B : List UInt8} {v : Value} {s : RS} (h : QPost tq W g B v s w) (hk : Kept S w w') (hS : ∀ k, S k → g < k ∧ W.heap.size ≤ k) : QPost tq W g B v s w' := by
 obtain ⟨m, h1, h2, h3⟩ := h
 exact ⟨m, h1.kept hk (fun k hk e => by have := hS k e; omega), h2, h3.trans hk (fun i hi e => by have := hS i e; omega)⟩
theorem Cls.and {S0 S R : World → Prop} (h : Cls S0 S) (hr : ∀ w w', R w → Below w.heap.size w w' → R w') : Cls S0 (fun w => S w ∧ R w) := ⟨fun w k => h.sub w k.1, fun w w' k hb => ⟨h.mono w w' k.1 hb, hr w w' k.2 hb⟩⟩
def QM (W : World) (g : Nat) (B : List UInt8) (v : Value) (s : RS) (M : World → Prop) (w : World) : Prop := QPost 122 W g B v s w ∧ M w
theorem QM.below {W w w' : World} {g : Nat} {B : List UInt8} {v : Value} {s : RS} {M : World → Prop} {S : Nat → Prop} (hf : Firm S M) (h : QM W g B v s M w) (hb : Below w.heap.size w w') : QM W g B v s M w' := ⟨h.1.below hb, hf.below h.2 hb⟩
theorem QM.cls {S0 : World → Prop} {W : World} {g : Nat} {B : List UInt8} {v : Value} {s : RS} {M : World → Prop} {S : Nat → Prop} (hf : Firm S M) (h0 : ∀ w, M w → S0 w) : Cls S0 (QM W g B v s M) := ⟨fun w h => h0 w h.2, fun _ _ h hb => QM.below hf h hb⟩
theorem QM_Int {W w : World} {g : Nat} {B : List UInt8} {v : Value} {s : RS} {M : World → Prop} {S : Nat → Prop} (hf : Firm S M) (hg : S g) (h : QM W g B v s M w) (hlen : B.length ≤ 70368744177664) :
  Calls Tryz.prog 34 #[.pointer (some ⟨g, 0, none⟩)] w fun r w' => r = .returned (.int .i64 (rI s).1) ∧ QM W g B v (rI s).2 M w' := by
 refine (QInt_at h.1 hlen).mono ?_
 rintro r w' ⟨h1, h2, h3⟩
 exact ⟨h1, h2, hf _ _ h.2 (h3.weaken (fun k e => by rw [e]; exact hg))⟩
def mny (s : RS) : Int × RS := if (rI s).2.2 = 0 then (if (rI s).1 < 0 ∨ 1024 < (rI s).1 then (0, ((rI s).2.1, 4)) else rI s) else (0, (rI s).2)
theorem mny_range (s : RS) : 0 ≤ (mny s).1 ∧ (mny s).1 ≤ 1024 := by
 unfold mny
 split
 ·
  split
  ·
   simp
  ·
   omega
 ·
  simp
def MnPost (W : World) (g : Nat) (B : List UInt8) (v : Value) (s : RS) (M : World → Prop) (r : Ending) (w' : World) : Prop := r = .returned (.int .i64 (mny s).1) ∧ QM W g B v (mny s).2 M w'
theorem many_any {W w : World} {g : Nat} {B : List UInt8} {v : Value} {s : RS} {M : World → Prop} (hf : Firm (fun k => k = g) M) (h : QM W g B v s M w) (hlen : B.length ≤ 70368744177664) :
  Calls Tryz.prog 37 #[.pointer (some ⟨g, 0, none⟩)] w (MnPost W g B v s M) := by
 have qi := QM_Int hf rfl h hlen
 have hnr := rI_range s
 obtain ⟨n, hn⟩ : ∃ n, n = (rI s).1 := ⟨_, rfl⟩
 obtain ⟨s1, hs1⟩ : ∃ s1, s1 = (rI s).2 := ⟨_, rfl⟩
 have HM : Hid (mny s = if s1.2 = 0 then (if n < 0 ∨ 1024 < n then (0, (s1.1, 4)) else (n, s1)) else (0, s1)) := by
  show _ = _
  unfold mny
  rw [hn, hs1]
 rw [← hn, ← hs1] at qi
 rw [← hn] at hnr
 have HF := Lh hf
 clear hn hs1 h hf
 go_in
 go_wp2_with fail
 refine qi.mono ?_
 clear qi
 rintro e w1 ⟨rfl, hq⟩
 obtain ⟨⟨m, hqr, hd, hk⟩, hm⟩ := hq
 have hcs := hqr.cells.2.2.1
 have hfr := hqr.cells.2.2.2.2
 have hput := hqr.put2 4
 have HQ := Lh (⟨⟨m, hqr, hd, hk⟩, hm⟩ : QM W g B v s1 M w1)
 have HP : Hid (QM W g B v (s1.1, 4) M (w1.setCell ⟨g, 2, none⟩ (.int .i64 4))) := ⟨⟨m, hput.1, hd, hk.trans hput.2 (fun _ _ h => h)⟩, HF.out _ _ hm hput.2⟩
 have hcp := hput.1.cells.2.2.1
 clear hqr hd hk hm hput
 obtain ⟨b, hb⟩ : ∃ b, b = s1.2 := ⟨_, rfl⟩
 rw [← hb] at hcs HM
 have HB := Lh hb
 clear hb
 by_cases hz : b = 0
 ·
  subst hz
  by_cases hneg : n < 0
  ·
   have HE : Hid (mny s = (0, (s1.1, 4))) := by show _ = _; rw [HM.out, if_pos rfl, if_pos (.inl hneg)]
   have hng : decide (n < 0) = true := by simpa using hneg
   clear hneg
   go_wp2_with fail
   go_ret
   exact ⟨by rw [HE.out]; rfl, by rw [HE.out]; exact HP.out⟩
  ·
   by_cases hbig : 1024 < n
   ·
    have HE : Hid (mny s = (0, (s1.1, 4))) := by show _ = _; rw [HM.out, if_pos rfl, if_pos (.inr hbig)]
    have hng : decide (n < 0) = false := by simpa using hneg
    clear hneg
    go_wp2_with fail
    go_ret
    exact ⟨by rw [HE.out]; rfl, by rw [HE.out]; exact HP.out⟩
   ·
    have HE : Hid (mny s = (n, s1)) := by show _ = _; rw [HM.out, if_pos rfl, if_neg (by omega)]
    have hng : decide (n < 0) = false := by simpa using hneg
    clear hneg
    go_wp2_with fail
    go_ret
    exact ⟨by rw [HE.out]; rfl, by rw [HE.out]; exact HQ.out⟩
 ·
  have HE : Hid (mny s = (0, s1)) := by show _ = _; rw [HM.out, if_neg hz]
  have hz1 : (b == 0) = false := by simpa using hz
  have hz2 : (b != 0) = true := by rw [bne_iff_ne]; exact hz
  clear hz
  go_wp2_with fail
  go_ret
  exact ⟨by rw [HE.out]; rfl, by rw [HE.out]; exact HQ.out⟩
def QL {α : Type} (rd : RS → α × RS) (s : RS) (L : List α) (s' : RS) : Prop := ∃ j, j ≤ (mny s).1.toNat ∧ L = (rRs rd j (mny s).2).1 ∧ s' = (rRs rd j (mny s).2).2 ∧ (j = (mny s).1.toNat ∨ s'.2 ≠ 0)
theorem step_append_rows {α : Type} {enc : α → List Value} {K : Nat} {P : Program} {ops : Array Oper} {o : Oper} {a : Act} {w : World} {K' : Act → World → Prop} {Q : Exit → Act → World → Prop} {E' : Prop}
  (hg : o.guard = none) (s x : Operand) (t : TypeId) (hop : o.op = Op.call { callee := Callee.builtin Builtin.append, args := #[s, x], argTypes := #[t, t] })
  {e base bytes : Nat} {v vx : Value} {L M : List α} (E : Elem P t e K bytes) (hs : a.eval s = v) (hx : a.eval x = vx)
  (hown : OwnR enc K e w base v L) (hsrc : Rs enc K w vx M) (h1 : ∀ a, ∀ u ∈ enc a, u.oneCell' = true) (hlen : (L.length + M.length) * bytes ≤ 140737488355328) (hb : 0 < bytes) (hbase : base ≤ w.heap.size)
  (h : ∀ a' n' cap' w', Hid (n' = L.length + M.length) → OwnR enc K e w' base (.slice a' n' cap') (L ++ M) → w.grownBy w' v.ownBlock →
   Hid ((Value.slice a' n' cap').ownBlock = v.ownBlock ∨ (Value.slice a' n' cap').ownBlock = some w.heap.size) → Below base w w' → K' (a.put o.dst (.slice a' n' cap')) w') :
  if Region.wanted o (yielded ops a.tmps) = true then Oper.wp P o a w K' Q else E' := by
 have hw : Region.wanted o (yielded ops a.tmps) = true := by simp [Region.wanted, hg]
 rw [if_pos hw]
 have hl : L.length + M.length ≤ maxLen := by
  have := Nat.le_mul_of_pos_right (L.length + M.length) hb
  unfold maxLen
  omega
 obtain ⟨a', cap', w', hr, h2, h3, h4⟩ := run_append_sl_at (P := P) (ty := o.type) w E hown.2 hsrc.2 (flatW_one h1 M) hl hlen hbase
 unfold Oper.wp execOp
 simp only [hop, resolve, invoke, builtin, Sem.run_bind, Sem.run_pure, Result.andThen_ok, List.map_toArray, List.map_cons, List.map_nil, hs, hx, hr]
 exact h a' _ cap' w' rfl (OwnR.app hown.1 h2) h3 h4 ((Below.refl _ _).grown h3 hbase (fun k hk => hown.ge k hk))
end Cam
