import Derived.Test.YtgeclnjkkjmbaaaGreatVc
import Derived.Test.YtgeclnjkkjmbaaaGreatWrH
import Derived.Test.YtgeclnjkkjmbaaaGreatRowIz
/- wire.reader: due. -/
namespace Cam
open Go Go.RowKit Go.Proofs
set_option linter.unusedVariables false
set_option linter.unusedSimpArgs false
set_option maxRecDepth 100000
set_option maxHeartbeats 3200000
theorem rddue_any (w : World) (gr gp : Nat) (s : RS) (wb : Bool) (h : WR w gr gp s wb) (hlen : s.1.length ≤ 70368744177664) : Calls Tryz.prog 113 #[.pointer (some ⟨gr, 0, none⟩)] w fun e w' => e = .returned (.agg (ivs (rIs 3 s).1).toArray) ∧ WR w' gr gp (rIs 3 s).2 wb ∧ Kept (fun k => k = gp) w w' := by
 have hlt := h.lt
 have hpr := h.2.2
 have hb1 : Below w.heap.size w (w.alloc (.cells #[(0:Int), (0:Int), (0:Int)] 106)) := Bn
 have hc : HT (w.alloc (.cells #[(0:Int), (0:Int), (0:Int)] 106)) w.heap.size 106 (ivs (List.replicate 3 0)) := HT.new (w := w)
 have hb2 : Below w.heap.size w ((w.alloc (.cells #[(0:Int), (0:Int), (0:Int)] 106)).alloc (.cells #[.pointer (some ⟨w.heap.size, 0, none⟩), .pointer (some ⟨w.heap.size, 1, none⟩), .pointer (some ⟨w.heap.size, 2, none⟩)] 165)) := hb1.alloc hb1.size _
 have hc2 := hc.below ((Below.refl _ _).alloc (Nat.le_refl _) (.cells #[.pointer (some ⟨w.heap.size, 0, none⟩), .pointer (some ⟨w.heap.size, 1, none⟩), .pointer (some ⟨w.heap.size, 2, none⟩)] 165))
 have hs : ∀ i, i < 3 → ((w.alloc (.cells #[(0:Int), (0:Int), (0:Int)] 106)).alloc (.cells #[.pointer (some ⟨w.heap.size, 0, none⟩), .pointer (some ⟨w.heap.size, 1, none⟩), .pointer (some ⟨w.heap.size, 2, none⟩)] 165)).cell? ⟨w.heap.size + 1, i, none⟩ = some (.pointer (some ⟨w.heap.size, 0 + i, none⟩)) := by
  intro i hi
  have hh : ((w.alloc (.cells #[(0:Int), (0:Int), (0:Int)] 106)).alloc (.cells #[.pointer (some ⟨w.heap.size, 0, none⟩), .pointer (some ⟨w.heap.size, 1, none⟩), .pointer (some ⟨w.heap.size, 2, none⟩)] 165)).heap[w.heap.size + 1]? = some (.cells #[.pointer (some ⟨w.heap.size, 0, none⟩), .pointer (some ⟨w.heap.size, 1, none⟩), .pointer (some ⟨w.heap.size, 2, none⟩)] 165) := heap_new (by simp)
  unfold World.cell?
  rw [hh]
  rcases i with _ | _ | _ | i
  all_goals first | rfl | omega
 have h2 := h.below hb2
 have it := into_any _ gr gp w.heap.size (w.heap.size + 1) s 0 3 _ _ h2.cell.1 h2.2.1 hc2 hs (by simp [ivs]) (by omega) (by omega) (by omega) (by omega) (by omega) (by omega) hlen
 have H := Lh h2
 have HB2 := Lh hb2
 have HH := Lh (⟨hlt, hpr⟩ : _ ∧ _)
 clear hlt hpr hb1 hc hb2 hc2 hs h h2 hlen
 go_in
 go_wp2_with fail
 refine it.mono ?_
 clear it
 rintro e w3 ⟨rfl, hd3, hc3, hk3⟩
 have hw3 := H.out.go hd3 hk3 (fun e => by have := HH.out; omega)
 rw [splice_all (by simp [ivs, rIs_len])] at hc3
 have hl := rIs_len 3 s
 obtain ⟨L, hL⟩ : ∃ L, L = (rIs 3 s).1 := ⟨_, rfl⟩
 rw [← hL] at hc3 hl
 have HG : Hid (w3.heap[w.heap.size]? = some (.cells (ivs L).toArray 106 (0, 0))) := hc3
 have HSZ : Hid ((Tryz.prog.info? 106).map (·.size) = some (ivs L).toArray.size) := by show _ = _; rw [show ((Tryz.prog.info? 106).map (·.size)) = some 3 from by kernel_rfl]; simp [ivs, hl]
 have HW3 := Lh hw3
 have HK3 := Lh hk3
 have HL := Lh hL
 clear hd3 hc3 hk3 hw3 hl hL
 go_wp2_with (first
  | (refine wpList_load_row rfl 106 (.tmp 2) rfl w.heap.size rfl 106 (ivs L).toArray (0, 0) _ HG.out Tryz.underlying106 rfl HSZ.out ?_)
  | (refine wpList_store_row rfl 106 (.tmp 2) (.tmp 9) rfl w.heap.size (ivs L).toArray rfl rfl 106 (ivs L).toArray HG.out HSZ.out rfl (ivs_one L) ?_)
  | fail)
 refine bodyPost_ret (results_cell_row rfl _ _ w.heap.size 106 (ivs L).toArray (0, 0) _ rfl (setRow_heap _ _ _ _ _ _ HG.out) Tryz.underlying106 rfl HSZ.out) rfl ?_
 have hkr : Kept (fun k => k = w.heap.size) w3 (w3.setRow w.heap.size (ivs L).toArray) := ⟨rfl, rfl, rfl, by simp [World.setRow], fun k _ hn => setRow_other _ _ _ _ hn⟩
 refine ⟨by rw [HL.out], HW3.out.go (HW3.out.2.1.kept hkr (fun k hk e => by have := HH.out; omega)) hkr (fun e => by have := HH.out; omega), ?_⟩
 have k1 := ((Kept.of_below HB2.out).weaken (T := fun k => k = gp) (fun _ h => h.elim)).trans HK3.out (fun i hi e => by rcases e with e | e; exact e; omega)
 exact k1.trans hkr (fun i hi e => by omega)
def rRs {α : Type} (rd : RS → α × RS) : Nat → RS → List α × RS
 | 0, s => ([], s)
 | k + 1, s => ((rRs rd k s).1 ++ [(rd (rRs rd k s).2).1], (rd (rRs rd k s).2).2)
theorem rRs_len {α : Type} (rd : RS → α × RS) (k : Nat) (s : RS) : (rRs rd k s).1.length = k := by
 induction k with
 | zero => rfl
 | succ k ih => simp [rRs, ih]
theorem rRs_left {α : Type} {rd : RS → α × RS} (h : ∀ s, (rd s).2.1.length ≤ s.1.length) (k : Nat) (s : RS) : (rRs rd k s).2.1.length ≤ s.1.length := by
 induction k with
 | zero => exact Nat.le_refl _
 | succ k ih => exact Nat.le_trans (h _) ih
theorem OwnR.keptS {α : Type} {enc : α → List Value} {K : Nat} {S : Nat → Prop} {t : TypeId} {w w' : World} {base : Nat} {v : Value} {L : List α} (h : OwnR enc K t w base v L) (hk : Kept S w w') (hS : ∀ k, v.ownBlock = some k → ¬ S k) : OwnR enc K t w' base v L := by
 refine ⟨h.1, h.2.1, ?_⟩
 rcases h.2.2 with h2 | ⟨g, cap, cur, hv, hg, hh, r⟩
 ·
  exact Or.inl h2
 ·
  refine Or.inr ⟨g, cap, cur, hv, hg, ?_, r⟩
  rw [hk.block g (Array.getElem?_eq_some_iff.1 hh).1 (hS g (by rw [hv]; rfl))]
  exact hh
def elW (wb : Bool) (n : Int) : Bool := wb || decide (n < 0) || decide (1024 < n)
def elL {α : Type} (rd : RS → α × RS) (wb : Bool) (s : RS) : List α × RS := if elW wb (rI s).1 = true then ([], (rI s).2) else rRs rd (rI s).1.toNat (rI s).2
def rdDT (s : RS) : DT × RS := (⟨(rIs 3 s).1.getD 0 0, (rIs 3 s).1.getD 1 0, (rIs 3 s).1.getD 2 0⟩, (rIs 3 s).2)
theorem rdDT_vs (s : RS) : (ivs (rIs 3 s).1) = (rdDT s).1.vs := by
 have h := rIs_len 3 s
 unfold rdDT
 generalize (rIs 3 s).1 = L at h
 match L, h with
 | [a0, a1, a2], _ => rfl
theorem rdDT_left (s : RS) : (rdDT s).2.1.length ≤ s.1.length := rIs_left 3 s
theorem DT.one (c : DT) : ∀ u ∈ c.vs, u.oneCell' = true := by
 intro u hu
 simp only [DT.vs, List.mem_cons, List.not_mem_nil, or_false] at hu
 rcases hu with rfl | rfl | rfl <;> rfl
theorem elem_due : Elem Tryz.prog 60 106 3 24 := Elem.mk' (z := .agg #[(0:Int), (0:Int), (0:Int)]) Tryz.underlying60 (by kernel_rfl) rfl (by decide)
theorem el_bad {w w1 : World} {gr gp : Nat} {s1 : RS} {wb : Bool} (HW1 : Hid (WR w1 gr gp s1 wb)) (HK1 : Hid (Kept (fun k => k = gp) w w1)) (HGG : Hid (gp < gr)) : Hid (WR (w1.setCell ⟨gr, 1, none⟩ (.bool true)) gr gp s1 true) ∧ Hid (Kept (fun k => k = gp ∨ k = gr) w (w1.setCell ⟨gr, 1, none⟩ (.bool true))) :=
 ⟨⟨HT.put (C := [.pointer (some ⟨gp, 0, none⟩), .bool wb]) HW1.out.1 1 (.bool true), HW1.out.2.1.kept ((Kept.refl (fun k => k = gr) w1).setCell _ _ rfl) (fun k hk (e : k = gr) => by have := HGG.out; omega), HW1.out.2.2⟩,
  (HK1.out.weaken (T := fun k => k = gp ∨ k = gr) (fun _ h => .inl h)).trans ((Kept.refl (fun k => k = gr) w1).setCell _ _ rfl) (fun _ _ h => .inr h)⟩
theorem el_ret {α : Type} {enc : α → List Value} {K n : _} {T : TypeId} {rd : RS → α × RS} {w w2 : World} {gr gp : Nat} {s s1 : RS} {wb : Bool} (he : ∀ a, (enc a).length = K) (HL : Hid (elL rd wb s = if elW wb n = true then ([], s1) else rRs rd n.toNat s1)) (HN : Hid (n = (rI s).1)) (HE : Hid (elW wb n = true)) (HP : Hid (WR w2 gr gp s1 true)) (HK : Hid (Kept (fun k => k = gp ∨ k = gr) w w2)) :
  ∃ a m c, Ending.returned (.slice none 0 0) = .returned (.slice a m c) ∧ OwnR enc K T w2 w.heap.size (.slice a m c) (elL rd wb s).1 ∧ WR w2 gr gp (elL rd wb s).2 (elW wb (rI s).1) ∧ Kept (fun k => k = gp ∨ k = gr) w w2 := by
 have hE : elL rd wb s = ([], s1) := by rw [HL.out, if_pos HE.out]
 exact ⟨none, 0, 0, rfl, by rw [hE]; exact OwnR.empty he _ _ _, by rw [hE, ← HN.out, HE.out]; exact HP.out, HK.out⟩
theorem el_row {α : Type} {enc : α → List Value} {K : Nat} {T : TypeId} {w wr w3 : World} {gr gp : Nat} {s s3 : RS} {wb wc : Bool} {v : Value} {L : List α} (c : α) (he : ∀ a, (enc a).length = K) (HO : Hid (OwnR enc K T wr w.heap.size v L)) (HKP : Hid (Kept (fun k => k = gp ∨ k = gr) w wr)) (hw3 : WR w3 gr gp s3 wc) (hk3 : Kept (fun k => k = gp) wr w3) (H : Hid (WR w gr gp s wb)) :
  OwnR enc K T (w3.alloc (.cells (enc c).toArray T)) w.heap.size v L ∧ Rs enc K (w3.alloc (.cells (enc c).toArray T)) (.slice (some ⟨w3.heap.size, 0, none⟩) 1 1) [c] ∧ Hid (WR (w3.alloc (.cells (enc c).toArray T)) gr gp s3 wc) ∧ Hid (Kept (fun k => k = gp ∨ k = gr) w (w3.alloc (.cells (enc c).toArray T))) :=
 ⟨(OwnR.keptS HO.out hk3 (fun j hj (e : j = gp) => by have := OwnR.ge HO.out j hj; have := H.out.lt; have := H.out.2.2; omega)).alloc _, Rs.one he w3 c T, hw3.below (Bn), (HKP.out.trans hk3 (fun _ _ h => .inl h)).alloc _⟩
theorem el_app {α : Type} {enc : α → List Value} {K : Nat} {T : TypeId} {w wr wx w7 : World} {gr gp : Nat} {s s3 : RS} {wb wc : Bool} {v : Value} {L : List α} (HO : Hid (OwnR enc K T wr w.heap.size v L)) (HWA : Hid (WR wx gr gp s3 wc)) (HKA : Hid (Kept (fun k => k = gp ∨ k = gr) w wx)) (hg : wx.grownBy w7 v.ownBlock) (H : Hid (WR w gr gp s wb)) : WR w7 gr gp s3 wc ∧ Kept (fun k => k = gp ∨ k = gr) w w7 := by
 have hge := OwnR.ge HO.out
 have hkg := Kept.of_grown hg
 have h1 := H.out.lt
 have h2 := H.out.2.2
 exact ⟨HWA.out.go (HWA.out.2.1.kept hkg (fun j hj e => by have := hge j e; omega)) hkg (fun e => by have := hge gr e; omega), HKA.out.trans hkg (fun j hj e => by have := hge j e; omega)⟩
def ElDT (w : World) (gr gp : Nat) (s : RS) (wb : Bool) (e : Ending) (w' : World) : Prop := ∃ a n c, e = .returned (.slice a n c) ∧ OwnR DT.vs 3 106 w' w.heap.size (.slice a n c) (elL rdDT wb s).1 ∧ WR w' gr gp (elL rdDT wb s).2 (elW wb (rI s).1) ∧ Kept (fun k => k = gp ∨ k = gr) w w'
theorem elems_due (w : World) (gr gp : Nat) (s : RS) (wb : Bool) (h : WR w gr gp s wb) (hlen : s.1.length ≤ 70368744177664) :
  Calls Tryz.prog 112 #[.pointer (some ⟨gr, 0, none⟩), .func (.func 113) #[.pointer (some ⟨gr, 0, none⟩)] #[]] w (ElDT w gr gp s wb) := by
 have hc0 := h.cell.1
 have ri := RInt_any w gp s h.2.1 hlen
 obtain ⟨n, hn⟩ : ∃ n, n = (rI s).1 := ⟨_, rfl⟩
 obtain ⟨s1, hs1⟩ : ∃ s1, s1 = (rI s).2 := ⟨_, rfl⟩
 rw [← hn, ← hs1] at ri
 have HL : Hid (elL rdDT wb s = if elW wb n = true then ([], s1) else rRs rdDT n.toNat s1) := by show _ = _; unfold elL; rw [← hn, ← hs1]
 have HN := Lh hn
 have HLEN : Hid (s1.1.length ≤ 70368744177664) := by show _ ≤ _; rw [hs1]; exact Nat.le_trans (rIs_left 1 s) hlen
 have H := Lh h
 have hgg : gp < gr := h.2.2
 have HGG := Lh hgg
 have hnr : -9223372036854775808 ≤ n ∧ n ≤ 9223372036854775807 := by rw [hn]; exact rI_range s
 clear hn hs1 h hlen hgg
 go_in
 go_wp2_with fail
 refine ri.mono ?_
 clear ri hc0
 rintro e w1 ⟨rfl, hd1, hk1⟩
 have hw1 := H.out.go hd1 hk1 (fun e => by have := HGG.out; omega)
 have HK1 := Lh hk1
 have HW1 := Lh hw1
 have hcw := hw1.cell.2.1
 have hfw := hw1.cell.2.2
 clear hd1 hk1 hw1
 by_cases hneg : n < 0
 ·
  have hd : decide (n < 0) = true := by simpa using hneg
  obtain ⟨HPUT, HK2⟩ := el_bad HW1 HK1 HGG
  have hcp := HPUT.out.cell.2.1
  have HE : Hid (elW wb n = true) := by show _ = _; unfold elW; simp; omega
  go_wp2_with fail
  generalize hw2 : w1.setCell ⟨gr, 1, none⟩ (.bool true) = w2 at *
  clear hw2
  go_loopw [6, 7] (fun v6 v7 wr => v6 = .slice none 0 0 ∧ v7 = .int .i64 0 ∧ wr = w2) (fun _ _ _ => 0)
  case atStart => exact ⟨rfl, rfl, rfl⟩
  case round =>
   obtain ⟨rfl, rfl, rfl⟩ := hrel
   go_wp2_with fail
   all_goals
    go_ret
    exact el_ret DT.len HL HN HE HPUT HK2
 ·
  have hneg' : 0 ≤ n := by omega
  obtain ⟨N, rfl⟩ : ∃ N : Nat, n = N := ⟨n.toNat, by omega⟩
  clear hneg hneg' hnr
  by_cases hbig : 1024 < N
  ·
   obtain ⟨HPUT, HK2⟩ := el_bad HW1 HK1 HGG
   have hcp := HPUT.out.cell.2.1
   have HE : Hid (elW wb (N : Int) = true) := by show _ = _; unfold elW; simp; omega
   go_wp2_with fail
   generalize hw2 : w1.setCell ⟨gr, 1, none⟩ (.bool true) = w2 at *
   clear hw2
   go_loopw [6, 7] (fun v6 v7 wr => v6 = .slice none 0 0 ∧ v7 = .int .i64 0 ∧ wr = w2) (fun _ _ _ => 0)
   case atStart => exact ⟨rfl, rfl, rfl⟩
   case round =>
    obtain ⟨rfl, rfl, rfl⟩ := hrel
    go_wp2_with fail
    all_goals
     go_ret
     exact el_ret DT.len HL HN HE HPUT HK2
  ·
   have HE : Hid (elW wb (N : Int) = wb) := by show _ = _; unfold elW; cases wb <;> simp <;> omega
   have HK2 : Hid (Kept (fun k => k = gp ∨ k = gr) w w1) := HK1.out.weaken (T := fun k => k = gp ∨ k = gr) (fun _ h => .inl h)
   cases wb with
   | true =>
    have HPUT := HW1
    have hcp := hcw
    obtain ⟨w2, hw2⟩ : ∃ w2, w2 = w1 := ⟨_, rfl⟩
    subst hw2
    clear hcw
    go_wp2_with fail
    go_loopw [6, 7] (fun v6 v7 wr => v6 = .slice none 0 0 ∧ v7 = .int .i64 0 ∧ wr = w2) (fun _ _ _ => 0)
    case atStart => exact ⟨rfl, rfl, rfl⟩
    case round =>
     obtain ⟨rfl, rfl, rfl⟩ := hrel
     go_wp2_with fail
     all_goals
      go_ret
      exact el_ret DT.len HL HN HE HPUT HK2
   | false =>
    have HBIG := Lh hbig
    clear hcw hfw
    go_wp2_with fail
    go_loopw [6, 7] (fun v6 v7 wr => ∃ (k : Nat) (a : Option Addr) (n6 c6 : Nat), k ≤ N ∧ v7 = .int .i64 k ∧ v6 = .slice a n6 c6 ∧ OwnR DT.vs 3 106 wr w.heap.size (.slice a n6 c6) (rRs rdDT k s1).1 ∧ WR wr gr gp (rRs rdDT k s1).2 false ∧ Kept (fun k => k = gp ∨ k = gr) w wr) (fun _ i _ => N - (intOf i).toNat)
    case atStart => exact ⟨0, none, 0, 0, Nat.zero_le _, rfl, rfl, OwnR.empty DT.len _ _ _, HW1.out, HK2.out⟩
    case round =>
     obtain ⟨k, a, n6, c6, hk, rfl, rfl, ho, hw, hkp⟩ := hrel
     have hcw := hw.cell.2.1
     by_cases hlt : k < N
     ·
      have rd := rddue_any wr gr gp (rRs rdDT k s1).2 false hw (Nat.le_trans (rRs_left rdDT_left k s1) HLEN.out)
      rw [rdDT_vs] at rd
      obtain ⟨c, hc⟩ : ∃ c, c = (rdDT (rRs rdDT k s1).2).1 := ⟨_, rfl⟩
      rw [← hc, show (rIs 3 (rRs rdDT k s1).2).2 = (rRs rdDT (k + 1) s1).2 from rfl] at rd
      simp only [DT.vs] at rd
      have HN1 : Hid ((rRs rdDT (k + 1) s1).1 = (rRs rdDT k s1).1 ++ [c]) := by rw [hc]; rfl
      have HO := Lh ho
      have HKP := Lh hkp
      have hlr := rRs_len rdDT k s1
      have hle : ((rRs rdDT k s1).1.length + [c].length) * 24 ≤ 140737488355328 := by have := HBIG.out; rw [hlr]; simp; omega
      clear hc ho hw hkp hlr
      go_wp2_with fail
      refine rd.mono ?_
      clear rd hcw
      rintro e w3 ⟨rfl, hw3, hk3⟩
      obtain ⟨hoA, hone, HWA, HKA⟩ := el_row c DT.len HO HKP hw3 hk3 H
      have hbase := HKA.out.size
      clear hw3 hk3
      go_wp2_with (first
       | (at_builtin; refine wpList_append_rows (v := .slice a n6 c6) rfl (.tmp 34) (.tmp 37) 60 rfl (L := (rRs rdDT k s1).1) (M := [c]) (base := w.heap.size) elem_due rfl rfl hoA hone DT.one hle (by decide) hbase ?_; intro a7 n7 c7 w7 Hn7 ho7 hg7 hat7 hb7)
       | fail)
      exact ⟨⟨k + 1, a7, n7, c7, by omega, by push_cast; rfl, rfl, by rw [HN1.out]; exact ho7, el_app HO HWA HKA hg7 H⟩, by simp [intOf]; omega⟩
     ·
      obtain rfl : k = N := by omega
      have HO := Lh ho
      have HW := Lh hw
      have HKP := Lh hkp
      clear ho hw hkp
      go_wp2_with fail
      go_ret
      have hE : elL rdDT false s = rRs rdDT k s1 := by rw [HL.out, HE.out]; simp
      exact ⟨_, _, _, rfl, by rw [hE]; exact HO.out, by rw [hE, ← HN.out, HE.out]; exact HW.out, HKP.out⟩
theorem splice_next {C xs ys : List Value} (m : Nat) (hm : m = xs.length) : splice (splice C 0 xs) m ys = splice C 0 (xs ++ ys) := by
 subst hm
 unfold splice
 simp only [List.take_zero, List.nil_append, Nat.zero_add, List.length_append]
 rw [List.take_append_of_le_length (Nat.le_refl _), List.take_length, List.drop_append, List.drop_of_length_le (by omega), List.nil_append, List.drop_drop, List.append_assoc]
 congr 3
 omega
theorem Kept.drop {w w' : World} {g : Nat} (h : Kept (fun k => k = g ∨ k = w.heap.size) w w') : Kept (fun k => k = g) w w' := ⟨h.os, h.tape, h.output, h.size, fun k hk hn => h.block k hk (fun e => e.elim hn (fun e => by omega))⟩
theorem into_nx (w : World) (gr gp gc gs : Nat) (s : RS) (m k : Nat) (C : List Value) (t : TypeId) (wb : Bool) (hw : WR w gr gp (rIs m s).2 wb) (hc : HT w gc t (splice C 0 (ivs (rIs m s).1)))
  (hs : ∀ i, i < k → w.cell? ⟨gs, i, none⟩ = some (.pointer (some ⟨gc, m + i, none⟩))) (hmk : m + k ≤ C.length) (hpc : gp < gc) (hrc : gr < gc) (hsc : gc < gs) (hk : k ≤ 1000) (hlen : s.1.length ≤ 70368744177664) :
  Calls Tryz.prog 73 #[.pointer (some ⟨gr, 0, none⟩), .slice (some ⟨gs, 0, none⟩) k k] w fun e w' => e = .returned (.tuple #[]) ∧ WR w' gr gp (rIs (m + k) s).2 wb ∧ HT w' gc t (splice C 0 (ivs (rIs (m + k) s).1)) ∧ Kept (fun k => k = gp ∨ k = gc) w w' := by
 have hl := rIs_len m s
 have hpr := hw.2.2
 have it := into_any w gr gp gc gs (rIs m s).2 m k _ _ hw.cell.1 hw.2.1 hc hs (by rw [splice_length (by rw [List.length_map, hl]; omega)]; exact hmk) hpc (by omega) (by omega) (by omega) (by omega) hk (Nat.le_trans (rIs_left _ _) hlen)
 refine it.mono ?_
 rintro e w' ⟨rfl, h1, h2, h3⟩
 have ha := rIs_add m k s
 refine ⟨rfl, ?_, ?_, h3⟩
 ·
  rw [ha]
  exact hw.go h1 h3 (fun e => by omega)
 ·
  rw [ha]
  rw [splice_next m (by rw [List.length_map, hl])] at h2
  simpa [ivs] using h2
def ptrsTo (g : Nat) : Nat → Nat → List Value
 | _, 0 => []
 | o, k + 1 => .pointer (some ⟨g, o, none⟩) :: ptrsTo g (o + 1) k
theorem ptrsTo_at (g : Nat) : ∀ (k o i : Nat), i < k → (ptrsTo g o k)[i]? = some (.pointer (some ⟨g, o + i, none⟩))
 | k + 1, o, 0, _ => rfl
 | k + 1, o, i + 1, h => by
  show (ptrsTo g (o + 1) k)[i]? = _
  rw [ptrsTo_at g k (o + 1) i (by omega)]
  congr 4
  omega
theorem rd_in {w : World} {gr gp : Nat} {s : RS} {wb : Bool} (T : TypeId) (n k : Nat) (h : WR w gr gp s wb) (hlen : s.1.length ≤ 70368744177664) (hk : k ≤ n) (hn : n ≤ 1000) :
  Calls Tryz.prog 73 #[.pointer (some ⟨gr, 0, none⟩), .slice (some ⟨w.heap.size + 1, 0, none⟩) k k] ((w.alloc (.cells (ivs (List.replicate n 0)).toArray T)).alloc (.cells (ptrsTo w.heap.size 0 k).toArray 165)) fun e w' => e = .returned (.tuple #[]) ∧ WR w' gr gp (rIs (0 + k) s).2 wb ∧ HT w' w.heap.size T (splice (ivs (List.replicate n 0)) 0 (ivs (rIs (0 + k) s).1)) ∧ Kept (fun k => k = gp ∨ k = w.heap.size) w w' := by
 have hlt := h.lt
 have hpr := h.2.2
 have hb1 : Below w.heap.size w (w.alloc (.cells (ivs (List.replicate n 0)).toArray T)) := Bn
 have hc : HT (w.alloc (.cells (ivs (List.replicate n 0)).toArray T)) w.heap.size T (splice (ivs (List.replicate n 0)) 0 (ivs (rIs 0 s).1)) := by
  have := HT.new (w := w) (t := T) (C := ivs (List.replicate n 0))
  simpa [splice, rIs, ivs] using this
 have hbx := (Below.refl _ (w.alloc (.cells (ivs (List.replicate n 0)).toArray T))).alloc (Nat.le_refl _) (.cells (ptrsTo w.heap.size 0 k).toArray 165)
 have hz : (w.alloc (.cells (ivs (List.replicate n 0)).toArray T)).heap.size = w.heap.size + 1 := by simp
 have hs : ∀ i, i < k → ((w.alloc (.cells (ivs (List.replicate n 0)).toArray T)).alloc (.cells (ptrsTo w.heap.size 0 k).toArray 165)).cell? ⟨w.heap.size + 1, i, none⟩ = some (.pointer (some ⟨w.heap.size, 0 + i, none⟩)) := by
  intro i hi
  have hh := HT.new (w := w.alloc (.cells (ivs (List.replicate n 0)).toArray T)) (t := 165) (C := ptrsTo w.heap.size 0 k)
  rw [hz] at hh
  exact hh.cell (ptrsTo_at w.heap.size k 0 i hi)
 refine (into_nx _ gr gp w.heap.size (w.heap.size + 1) s 0 k (ivs (List.replicate n 0)) T wb ((h.below hb1).below hbx) (hc.below hbx) hs (by simp [ivs]; exact hk) (by omega) hlt (by omega) (by omega) hlen).mono ?_
 rintro e w' ⟨h1, h2, h3, h4⟩
 exact ⟨h1, h2, h3, (((Kept.of_below hb1).weaken (fun _ h => h.elim)).alloc _).trans h4 (fun _ _ h => h)⟩
theorem table_nx (w : World) (gr gp gc : Nat) (s : RS) (m k : Nat) (C : List Value) (t : TypeId) (wb : Bool) (hw : WR w gr gp (rIs m s).2 wb) (hc : HT w gc t (splice C 0 (ivs (rIs m s).1)))
  (hmk : m + k ≤ C.length) (hpc : gp < gc) (hrc : gr < gc) (hk : k ≤ 1000) (hlen : s.1.length ≤ 70368744177664) :
  Calls Tryz.prog 106 #[.pointer (some ⟨gr, 0, none⟩), .slice (some ⟨gc, m, none⟩) k k] w fun e w' => e = .returned (.tuple #[]) ∧ WR w' gr gp (rIs (m + k) s).2 wb ∧ HT w' gc t (splice C 0 (ivs (rIs (m + k) s).1)) ∧ Kept (fun k => k = gp ∨ k = gc) w w' := by
 have hl := rIs_len m s
 have hpr := hw.2.2
 have it := table_any w gr gp gc (rIs m s).2 m k _ _ hw.cell.1 hw.2.1 hc (by rw [splice_length (by rw [List.length_map, hl]; omega)]; exact hmk) hpc (by omega) (by omega) hk (Nat.le_trans (rIs_left _ _) hlen)
 refine it.mono ?_
 rintro e w' ⟨rfl, h1, h2, h3⟩
 have ha := rIs_add m k s
 refine ⟨rfl, ?_, ?_, h3⟩
 ·
  rw [ha]
  exact hw.go h1 h3 (fun e => by omega)
 ·
  rw [ha]
  rw [splice_next m (by rw [List.length_map, hl])] at h2
  simpa [ivs] using h2
theorem rdfall_any_sz : (Tryz.prog.info? 159).map (·.size) = some 8 := by kernel_rfl
theorem rdfall_any (w : World) (gr gp : Nat) (s : RS) (wb : Bool) (h : WR w gr gp s wb) (hlen : s.1.length ≤ 70368744177664) : Calls Tryz.prog 115 #[.pointer (some ⟨gr, 0, none⟩)] w fun e w' => e = .returned (.agg (ivs (rIs 8 s).1).toArray) ∧ WR w' gr gp (rIs 8 s).2 wb ∧ Kept (fun k => k = gp) w w' := by
 have hlt := h.lt
 have hpr := h.2.2
 have HH := Lh (⟨hlt, hpr⟩ : _ ∧ _)
 have HLEN := Lh hlen
 obtain ⟨g, hg⟩ : ∃ g, g = w.heap.size := ⟨_, rfl⟩
 have HG0 := Lh hg
 have nx0 := rd_in 159 8 2 h hlen (by decide) (by decide)
 clear hlt hpr h hlen
 clear hg
 go_in
 go_wp2_with fail
 refine nx0.mono ?_
 clear nx0
 rintro e w2 ⟨rfl, hw2, hc2, hk2⟩
 have HSZ1 : Hid (w.heap.size < w2.heap.size) := hc2.lt
 have nx1 := table_nx w2 gr gp w.heap.size s 2 5 (ivs (List.replicate 8 0)) _ wb hw2 hc2 (by simp [ivs]) (by have := HH.out; omega) (by have := HH.out; omega) (by omega) HLEN.out
 have hka1 := Lh hk2
 clear hw2 hc2 hk2
 go_wp2_with fail
 refine nx1.mono ?_
 clear nx1
 rintro e w3 ⟨rfl, hw3, hc3, hkk3⟩
 have hk3 := hka1.out.trans hkk3 (fun _ _ h => h)
 clear hkk3
 have HSZ2 : Hid (w.heap.size < w3.heap.size) := hc3.lt
 have hbx2 : Below w3.heap.size w3 (w3.alloc (.cells #[.pointer (some ⟨w.heap.size, 7, none⟩)] 165)) := Bn
 have hs2 : ∀ i, i < 1 → (w3.alloc (.cells #[.pointer (some ⟨w.heap.size, 7, none⟩)] 165)).cell? ⟨w3.heap.size, i, none⟩ = some (.pointer (some ⟨w.heap.size, 7 + i, none⟩)) := by
  intro i hi
  have hh : (w3.alloc (.cells #[.pointer (some ⟨w.heap.size, 7, none⟩)] 165)).heap[w3.heap.size]? = some (.cells #[.pointer (some ⟨w.heap.size, 7, none⟩)] 165) := heap_alloc_new _ _
  unfold World.cell?
  rw [hh]
  rcases i with _ | i
  all_goals first | rfl | omega
 have nx2 := into_nx (w3.alloc (.cells #[.pointer (some ⟨w.heap.size, 7, none⟩)] 165)) gr gp w.heap.size w3.heap.size s 7 1 (ivs (List.replicate 8 0)) _ wb (hw3.below hbx2) (hc3.below hbx2) hs2 (by simp [ivs]) (by have := HH.out; omega) (by have := HH.out; omega) (by have := HSZ2.out; omega) (by omega) HLEN.out
 have hka2 := Lh (hk3.alloc (.cells #[.pointer (some ⟨w.heap.size, 7, none⟩)] 165))
 clear hbx2 hs2 hw3 hc3 hk3
 go_wp2_with fail
 refine nx2.mono ?_
 clear nx2
 rintro e w4 ⟨rfl, hw4, hc4, hkk4⟩
 have hk4 := hka2.out.trans hkk4 (fun _ _ h => h)
 clear hkk4
 have HSZ3 : Hid (w.heap.size < w4.heap.size) := hc4.lt
 rw [splice_all (by simp [ivs, rIs_len])] at hc4
 have hl := rIs_len 8 s
 obtain ⟨L, hL⟩ : ∃ L, L = (rIs 8 s).1 := ⟨_, rfl⟩
 simp only [Nat.reduceAdd] at hc4 hw4
 rw [← hL] at hc4 hl
 have HG : Hid (w4.heap[w.heap.size]? = some (.cells (ivs L).toArray 159 (0, 0))) := hc4
 have HSZ : Hid ((Tryz.prog.info? 159).map (·.size) = some (ivs L).toArray.size) := by show _ = _; rw [rdfall_any_sz]; simp [ivs, hl]
 have HWF := Lh hw4
 have HKF := Lh hk4
 have HL := Lh hL
 clear hc4 hw4 hk4 hl hL
 go_wp2_with (first
  | (refine wpList_load_row rfl 159 (.tmp 2) rfl w.heap.size rfl 159 (ivs L).toArray (0, 0) _ HG.out Tryz.underlying159 rfl HSZ.out ?_)
  | (refine wpList_store_row rfl 159 (.tmp 2) (.tmp 16) rfl w.heap.size (ivs L).toArray rfl rfl 159 (ivs L).toArray HG.out HSZ.out rfl (ivs_one L) ?_)
  | fail)
 refine bodyPost_ret (results_cell_row rfl _ _ w.heap.size 159 (ivs L).toArray (0, 0) _ rfl (setRow_heap _ _ _ _ _ _ HG.out) Tryz.underlying159 rfl HSZ.out) rfl ?_
 have hkr : Kept (fun k => k = w.heap.size) w4 (w4.setRow w.heap.size (ivs L).toArray) := ⟨rfl, rfl, rfl, by simp [World.setRow], fun k _ hn => setRow_other _ _ _ _ hn⟩
 refine ⟨by rw [HL.out], HWF.out.go (HWF.out.2.1.kept hkr (fun k hk e => by have := HH.out; omega)) hkr (fun e => by have := HH.out; omega), ?_⟩
 exact ((HKF.out.trans hkr (fun i hi e => .inr e)).drop).weaken (fun _ h => h)
def rdFT (s : RS) : FT × RS := (⟨(rIs 8 s).1.getD 0 0, (rIs 8 s).1.getD 1 0, (rIs 8 s).1.getD 2 0, (rIs 8 s).1.getD 3 0, (rIs 8 s).1.getD 4 0, (rIs 8 s).1.getD 5 0, (rIs 8 s).1.getD 6 0, (rIs 8 s).1.getD 7 0⟩, (rIs 8 s).2)
theorem rdFT_vs (s : RS) : (ivs (rIs 8 s).1) = (rdFT s).1.vs := by
 have h := rIs_len 8 s
 unfold rdFT
 generalize (rIs 8 s).1 = L at h
 match L, h with
 | [a0, a1, a2, a3, a4, a5, a6, a7], _ => rfl
theorem rdFT_left (s : RS) : (rdFT s).2.1.length ≤ s.1.length := rIs_left 8 s
theorem FT.one (c : FT) : ∀ u ∈ c.vs, u.oneCell' = true := by
 intro u hu
 simp only [FT.vs, List.mem_cons, List.not_mem_nil, or_false] at hu
 rcases hu with rfl | rfl | rfl | rfl | rfl | rfl | rfl | rfl <;> rfl
theorem elem_fall : Elem Tryz.prog 61 159 8 64 := Elem.mk' (z := .agg #[(0:Int), (0:Int), (0:Int), (0:Int), (0:Int), (0:Int), (0:Int), (0:Int)]) Tryz.underlying61 (by kernel_rfl) rfl (by decide)
def ElFT (w : World) (gr gp : Nat) (s : RS) (wb : Bool) (e : Ending) (w' : World) : Prop := ∃ a n c, e = .returned (.slice a n c) ∧ OwnR FT.vs 8 159 w' w.heap.size (.slice a n c) (elL rdFT wb s).1 ∧ WR w' gr gp (elL rdFT wb s).2 (elW wb (rI s).1) ∧ Kept (fun k => k = gp ∨ k = gr) w w'
theorem elems_fall (w : World) (gr gp : Nat) (s : RS) (wb : Bool) (h : WR w gr gp s wb) (hlen : s.1.length ≤ 70368744177664) :
  Calls Tryz.prog 114 #[.pointer (some ⟨gr, 0, none⟩), .func (.func 115) #[.pointer (some ⟨gr, 0, none⟩)] #[]] w (ElFT w gr gp s wb) := by
 have hc0 := h.cell.1
 have ri := RInt_any w gp s h.2.1 hlen
 obtain ⟨n, hn⟩ : ∃ n, n = (rI s).1 := ⟨_, rfl⟩
 obtain ⟨s1, hs1⟩ : ∃ s1, s1 = (rI s).2 := ⟨_, rfl⟩
 rw [← hn, ← hs1] at ri
 have HL : Hid (elL rdFT wb s = if elW wb n = true then ([], s1) else rRs rdFT n.toNat s1) := by show _ = _; unfold elL; rw [← hn, ← hs1]
 have HN := Lh hn
 have HLEN : Hid (s1.1.length ≤ 70368744177664) := by show _ ≤ _; rw [hs1]; exact Nat.le_trans (rIs_left 1 s) hlen
 have H := Lh h
 have hgg : gp < gr := h.2.2
 have HGG := Lh hgg
 have hnr : -9223372036854775808 ≤ n ∧ n ≤ 9223372036854775807 := by rw [hn]; exact rI_range s
 clear hn hs1 h hlen hgg
 go_in
 go_wp2_with fail
 refine ri.mono ?_
 clear ri hc0
 rintro e w1 ⟨rfl, hd1, hk1⟩
 have hw1 := H.out.go hd1 hk1 (fun e => by have := HGG.out; omega)
 have HK1 := Lh hk1
 have HW1 := Lh hw1
 have hcw := hw1.cell.2.1
 have hfw := hw1.cell.2.2
 clear hd1 hk1 hw1
 by_cases hneg : n < 0
 ·
  have hd : decide (n < 0) = true := by simpa using hneg
  obtain ⟨HPUT, HK2⟩ := el_bad HW1 HK1 HGG
  have hcp := HPUT.out.cell.2.1
  have HE : Hid (elW wb n = true) := by show _ = _; unfold elW; simp; omega
  go_wp2_with fail
  generalize hw2 : w1.setCell ⟨gr, 1, none⟩ (.bool true) = w2 at *
  clear hw2
  go_loopw [6, 7] (fun v6 v7 wr => v6 = .slice none 0 0 ∧ v7 = .int .i64 0 ∧ wr = w2) (fun _ _ _ => 0)
  case atStart => exact ⟨rfl, rfl, rfl⟩
  case round =>
   obtain ⟨rfl, rfl, rfl⟩ := hrel
   go_wp2_with fail
   all_goals
    go_ret
    exact el_ret FT.len HL HN HE HPUT HK2
 ·
  have hneg' : 0 ≤ n := by omega
  obtain ⟨N, rfl⟩ : ∃ N : Nat, n = N := ⟨n.toNat, by omega⟩
  clear hneg hneg' hnr
  by_cases hbig : 1024 < N
  ·
   obtain ⟨HPUT, HK2⟩ := el_bad HW1 HK1 HGG
   have hcp := HPUT.out.cell.2.1
   have HE : Hid (elW wb (N : Int) = true) := by show _ = _; unfold elW; simp; omega
   go_wp2_with fail
   generalize hw2 : w1.setCell ⟨gr, 1, none⟩ (.bool true) = w2 at *
   clear hw2
   go_loopw [6, 7] (fun v6 v7 wr => v6 = .slice none 0 0 ∧ v7 = .int .i64 0 ∧ wr = w2) (fun _ _ _ => 0)
   case atStart => exact ⟨rfl, rfl, rfl⟩
   case round =>
    obtain ⟨rfl, rfl, rfl⟩ := hrel
    go_wp2_with fail
    all_goals
     go_ret
     exact el_ret FT.len HL HN HE HPUT HK2
  ·
   have HE : Hid (elW wb (N : Int) = wb) := by show _ = _; unfold elW; cases wb <;> simp <;> omega
   have HK2 : Hid (Kept (fun k => k = gp ∨ k = gr) w w1) := HK1.out.weaken (T := fun k => k = gp ∨ k = gr) (fun _ h => .inl h)
   cases wb with
   | true =>
    have HPUT := HW1
    have hcp := hcw
    obtain ⟨w2, hw2⟩ : ∃ w2, w2 = w1 := ⟨_, rfl⟩
    subst hw2
    clear hcw
    go_wp2_with fail
    go_loopw [6, 7] (fun v6 v7 wr => v6 = .slice none 0 0 ∧ v7 = .int .i64 0 ∧ wr = w2) (fun _ _ _ => 0)
    case atStart => exact ⟨rfl, rfl, rfl⟩
    case round =>
     obtain ⟨rfl, rfl, rfl⟩ := hrel
     go_wp2_with fail
     all_goals
      go_ret
      exact el_ret FT.len HL HN HE HPUT HK2
   | false =>
    have HBIG := Lh hbig
    clear hcw hfw
    go_wp2_with fail
    go_loopw [6, 7] (fun v6 v7 wr => ∃ (k : Nat) (a : Option Addr) (n6 c6 : Nat), k ≤ N ∧ v7 = .int .i64 k ∧ v6 = .slice a n6 c6 ∧ OwnR FT.vs 8 159 wr w.heap.size (.slice a n6 c6) (rRs rdFT k s1).1 ∧ WR wr gr gp (rRs rdFT k s1).2 false ∧ Kept (fun k => k = gp ∨ k = gr) w wr) (fun _ i _ => N - (intOf i).toNat)
    case atStart => exact ⟨0, none, 0, 0, Nat.zero_le _, rfl, rfl, OwnR.empty FT.len _ _ _, HW1.out, HK2.out⟩
    case round =>
     obtain ⟨k, a, n6, c6, hk, rfl, rfl, ho, hw, hkp⟩ := hrel
     have hcw := hw.cell.2.1
     by_cases hlt : k < N
     ·
      have rd := rdfall_any wr gr gp (rRs rdFT k s1).2 false hw (Nat.le_trans (rRs_left rdFT_left k s1) HLEN.out)
      rw [rdFT_vs] at rd
      obtain ⟨c, hc⟩ : ∃ c, c = (rdFT (rRs rdFT k s1).2).1 := ⟨_, rfl⟩
      rw [← hc, show (rIs 8 (rRs rdFT k s1).2).2 = (rRs rdFT (k + 1) s1).2 from rfl] at rd
      simp only [FT.vs] at rd
      have HN1 : Hid ((rRs rdFT (k + 1) s1).1 = (rRs rdFT k s1).1 ++ [c]) := by rw [hc]; rfl
      have HO := Lh ho
      have HKP := Lh hkp
      have hlr := rRs_len rdFT k s1
      have hle : ((rRs rdFT k s1).1.length + [c].length) * 64 ≤ 140737488355328 := by have := HBIG.out; rw [hlr]; simp; omega
      clear hc ho hw hkp hlr
      go_wp2_with fail
      refine rd.mono ?_
      clear rd hcw
      rintro e w3 ⟨rfl, hw3, hk3⟩
      obtain ⟨hoA, hone, HWA, HKA⟩ := el_row c FT.len HO HKP hw3 hk3 H
      have hbase := HKA.out.size
      clear hw3 hk3
      go_wp2_with (first
       | (at_builtin; refine wpList_append_rows (v := .slice a n6 c6) rfl (.tmp 34) (.tmp 37) 61 rfl (L := (rRs rdFT k s1).1) (M := [c]) (base := w.heap.size) elem_fall rfl rfl hoA hone FT.one hle (by decide) hbase ?_; intro a7 n7 c7 w7 Hn7 ho7 hg7 hat7 hb7)
       | fail)
      exact ⟨⟨k + 1, a7, n7, c7, by omega, by push_cast; rfl, rfl, by rw [HN1.out]; exact ho7, el_app HO HWA HKA hg7 H⟩, by simp [intOf]; omega⟩
     ·
      obtain rfl : k = N := by omega
      have HO := Lh ho
      have HW := Lh hw
      have HKP := Lh hkp
      clear ho hw hkp
      go_wp2_with fail
      go_ret
      have hE : elL rdFT false s = rRs rdFT k s1 := by rw [HL.out, HE.out]; simp
      exact ⟨_, _, _, rfl, by rw [hE]; exact HO.out, by rw [hE, ← HN.out, HE.out]; exact HW.out, HKP.out⟩
theorem WR.set {w : World} {gr gp : Nat} {s : RS} {wr : Bool} (h : WR w gr gp s wr) {g : Nat} (o : Nat) (v : Value) (hg : gr < g) : WR (w.setCell ⟨g, o, none⟩ v) gr gp s wr := by
 have hk : Kept (fun k => k = g) w (w.setCell ⟨g, o, none⟩ v) := (Kept.refl _ w).setCell _ _ rfl
 exact h.go (h.2.1.kept hk (fun k hk e => by have := h.2.2; omega)) hk (fun e => by omega)
theorem HT.put' {w : World} {g : Nat} {t : TypeId} {C C' : List Value} (h : HT w g t C) (j : Nat) (v : Value) (e : C.set j v = C') : HT (w.setCell ⟨g, j, none⟩ v) g t C' := by
 subst e
 exact h.put j v
structure RepT where
 c : Int
 n : Int
 a : Int
 D : List DT
 F : List FT
def RepT.zero : RepT := ⟨0, 0, 0, [], []⟩
def rpD (wb : Bool) (s : RS) : List DT × RS := elL rdDT wb (rIs 3 s).2
def rpV (wb : Bool) (s : RS) : Bool := elW wb (rI (rIs 3 s).2).1
def rpF (wb : Bool) (s : RS) : List FT × RS := elL rdFT (rpV wb s) (rpD wb s).2
def rpW (wb : Bool) (s : RS) : Bool := elW (rpV wb s) (rI (rpD wb s).2).1
def rpT (wb : Bool) (s : RS) : RepT := ⟨(rIs 3 s).1.getD 0 0, (rIs 3 s).1.getD 1 0, (rIs 3 s).1.getD 2 0, (rpD wb s).1, (rpF wb s).1⟩
def RepV (w : World) (base : Nat) (v : Value) (x : RepT) : Prop := ∃ a1 n1 c1 a2 n2 c2, v = .agg #[x.c, x.n, x.a, .slice a1 n1 c1, .slice a2 n2 c2] ∧ OwnR DT.vs 3 106 w base (.slice a1 n1 c1) x.D ∧ OwnR FT.vs 8 159 w base (.slice a2 n2 c2) x.F
theorem elL_left {α : Type} {rd : RS → α × RS} (h : ∀ s, (rd s).2.1.length ≤ s.1.length) (wb : Bool) (s : RS) : (elL rd wb s).2.1.length ≤ s.1.length := by
 unfold elL
 split
 ·
  exact rI_len _
 ·
  exact Nat.le_trans (rRs_left h _ _) (rI_len _)
theorem rpD_left (wb : Bool) (s : RS) : (rpD wb s).2.1.length ≤ s.1.length := Nat.le_trans (elL_left rdDT_left _ _) (rIs_left _ _)
theorem rpF_left (wb : Bool) (s : RS) : (rpF wb s).2.1.length ≤ s.1.length := Nat.le_trans (elL_left rdFT_left _ _) (rpD_left _ _)
def RpPost (w : World) (gr gp : Nat) (s : RS) (wb : Bool) (e : Ending) (w' : World) : Prop := ∃ v, e = .returned v ∧ RepV w' w.heap.size v (rpT wb s) ∧ WR w' gr gp (rpF wb s).2 (rpW wb s) ∧ Kept (fun k => k = gp ∨ k = gr) w w'
theorem repSz : (Tryz.prog.info? 63).map (·.size) = some 5 := by kernel_rfl
theorem rdreply_any (w : World) (gr gp : Nat) (s : RS) (wb : Bool) (h : WR w gr gp s wb) (hlen : s.1.length ≤ 70368744177664) : Calls Tryz.prog 52 #[.pointer (some ⟨gr, 0, none⟩)] w (RpPost w gr gp s wb) := by
 have hlt := h.lt
 have hpr := h.2.2
 have hb1 : Below w.heap.size w (w.alloc (.cells #[(0:Int), (0:Int), (0:Int), (), ()] 63)) := Bn
 have hc : HT (w.alloc (.cells #[(0:Int), (0:Int), (0:Int), (), ()] 63)) w.heap.size 63 [(0:Int), (0:Int), (0:Int), (), ()] := HT.new (w := w)
 have h0 := h.below hb1
 have ri := RInt_any (w.alloc (.cells #[(0:Int), (0:Int), (0:Int), (), ()] 63)) gp s h0.2.1 hlen
 have hcr := h0.cell.1
 obtain ⟨x0, hx0⟩ : ∃ n, n = (rI s).1 := ⟨_, rfl⟩
 obtain ⟨s1, hs1⟩ : ∃ s1, s1 = (rI s).2 := ⟨_, rfl⟩
 rw [← hx0, ← hs1] at ri
 have H0 := Lh h0
 have HC0 := Lh hc
 have HH := Lh (⟨hlt, hpr⟩ : _ ∧ _)
 have HB1 := Lh hb1
 have HL1 : Hid (s1.1.length ≤ 70368744177664) := by show _ ≤ _; rw [hs1]; exact Nat.le_trans (rI_len s) hlen
 obtain ⟨y1, y2, hy⟩ : ∃ y1 y2, (rIs 2 s1).1 = [y1, y2] := by
  have h := rIs_len 2 s1
  generalize (rIs 2 s1).1 = L at h
  match L, h with
  | [a, b], _ => exact ⟨a, b, rfl⟩
 obtain ⟨s2, hs2⟩ : ∃ s2, s2 = (rIs 2 s1).2 := ⟨_, rfl⟩
 have HS : Hid ((rIs 3 s).1 = [x0, y1, y2] ∧ (rIs 3 s).2 = s2) := by
  have h := rIs_add 1 2 s
  rw [show 1 + 2 = 3 from rfl, show rIs 1 s = ([(rI s).1], (rI s).2) from rfl] at h
  simp only at h
  rw [← hs1, ← hx0, hy, ← hs2] at h
  show _ ∧ _
  rw [h]
  exact ⟨rfl, rfl⟩
 have HL2 : Hid (s2.1.length ≤ 70368744177664) := by show _ ≤ _; rw [hs2]; exact Nat.le_trans (rIs_left 2 s1) HL1.out
 have HY := Lh (⟨hy, hs2⟩ : _ ∧ _)
 obtain ⟨D, hD⟩ : ∃ D, D = (elL rdDT wb s2).1 := ⟨_, rfl⟩
 obtain ⟨s3, hs3⟩ : ∃ s3, s3 = (elL rdDT wb s2).2 := ⟨_, rfl⟩
 obtain ⟨wb3, hwb3⟩ : ∃ b, b = elW wb (rI s2).1 := ⟨_, rfl⟩
 obtain ⟨F, hF⟩ : ∃ F, F = (elL rdFT wb3 s3).1 := ⟨_, rfl⟩
 obtain ⟨s4, hs4⟩ : ∃ s4, s4 = (elL rdFT wb3 s3).2 := ⟨_, rfl⟩
 obtain ⟨wb4, hwb4⟩ : ∃ b, b = elW wb3 (rI s3).1 := ⟨_, rfl⟩
 have HL3 : Hid (s3.1.length ≤ 70368744177664) := by show _ ≤ _; rw [hs3]; exact Nat.le_trans (elL_left rdDT_left wb s2) HL2.out
 have HRES : Hid (rpT wb s = ⟨x0, y1, y2, D, F⟩ ∧ (rpF wb s).2 = s4 ∧ rpW wb s = wb4) := by
  show _ ∧ _
  unfold rpT rpW rpF rpV rpD
  rw [HS.out.1, HS.out.2, ← hD, ← hs3, ← hwb3, ← hF, ← hs4, ← hwb4]
  exact ⟨rfl, rfl, rfl⟩
 have HD := Lh (⟨hD, hs3, hwb3, hF, hs4, hwb4⟩ : _ ∧ _ ∧ _ ∧ _ ∧ _ ∧ _)
 clear hlt hpr hb1 hc h h0 hlen hx0 hs1 hy hs2 hD hs3 hwb3 hF hs4 hwb4
 go_in
 go_wp2_with fail
 refine ri.mono ?_
 clear ri hcr
 rintro e w1 ⟨rfl, hd1, hk1⟩
 have hw1 := H0.out.go hd1 hk1 (fun e => by have := HH.out; omega)
 have hc1 := HC0.out.keptH hk1 (fun e => by have := HH.out; omega)
 have hcell := hc1.cell (j := 0) rfl
 have hfr := hc1.frozen 0
 have hw2 := hw1.set 0 (.int .i64 x0) HH.out.1
 have hc2 : HT (w1.setCell ⟨w.heap.size, 0, none⟩ (.int .i64 x0)) w.heap.size 63 [x0, (0:Int), (0:Int), (), ()] := hc1.put' 0 _ rfl
 have hsz : (w1.setCell ⟨w.heap.size, 0, none⟩ (.int .i64 x0)).heap.size = w1.heap.size := by simp
 have hk2 : Kept (fun k => k = gp ∨ k = w.heap.size) w (w1.setCell ⟨w.heap.size, 0, none⟩ (.int .i64 x0)) := ((((Kept.of_below HB1.out).weaken (fun _ h => h.elim)).trans hk1 (fun _ _ h => .inl h)).setCell _ _ (.inr rfl))
 obtain ⟨W1, hW1⟩ : ∃ W, W = w1.setCell ⟨w.heap.size, 0, none⟩ (.int .i64 x0) := ⟨_, rfl⟩
 rw [← hW1] at hw2 hc2 hsz hk2
 have hbx : Below W1.heap.size W1 (W1.alloc (.cells #[.pointer (some ⟨w.heap.size, 1, none⟩), .pointer (some ⟨w.heap.size, 2, none⟩)] 165)) := Bn
 have hs : ∀ i, i < 2 → (W1.alloc (.cells #[.pointer (some ⟨w.heap.size, 1, none⟩), .pointer (some ⟨w.heap.size, 2, none⟩)] 165)).cell? ⟨w1.heap.size, i, none⟩ = some (.pointer (some ⟨w.heap.size, 1 + i, none⟩)) := by
  intro i hi
  have hh : (W1.alloc (.cells #[.pointer (some ⟨w.heap.size, 1, none⟩), .pointer (some ⟨w.heap.size, 2, none⟩)] 165)).heap[w1.heap.size]? = some (.cells #[.pointer (some ⟨w.heap.size, 1, none⟩), .pointer (some ⟨w.heap.size, 2, none⟩)] 165) := by rw [← hsz]; exact heap_alloc_new _ _
  unfold World.cell?
  rw [hh]
  rcases i with _ | _ | i
  all_goals first | rfl | omega
 have it := into_any (W1.alloc (.cells #[.pointer (some ⟨w.heap.size, 1, none⟩), .pointer (some ⟨w.heap.size, 2, none⟩)] 165)) gr gp w.heap.size w1.heap.size s1 1 2 _ _ (hw2.below hbx).cell.1 (hw2.below hbx).2.1 (hc2.below hbx) hs (by simp) (by have := HH.out; omega) (by have := HH.out; omega) (by have := HH.out; omega) (by have := HH.out; have := hc1.lt; omega) (by have := hc1.lt; omega) (by omega) HL1.out
 rw [HY.out.1, ← HY.out.2] at it
 have HW2 := Lh (hw2.below hbx)
 have HK2 := Lh (hk2.alloc (.cells #[.pointer (some ⟨w.heap.size, 1, none⟩), .pointer (some ⟨w.heap.size, 2, none⟩)] 165))
 have HW1 := Lh hW1
 rw [hW1] at it
 clear hw1 hc1 hw2 hc2 hsz hk2 hd1 hk1 hbx hs hW1
 go_wp2_with fail
 rw [← HW1.out] at it
 rw [← HW1.out]
 refine it.mono ?_
 clear it hcell hfr
 rintro e w3 ⟨rfl, hd3, hc3, hk3⟩
 have hw3 := HW2.out.go hd3 hk3 (fun e => by have := HH.out; omega)
 have hc3' : HT w3 w.heap.size 63 [x0, y1, y2, (), ()] := hc3
 have hk3' := HK2.out.trans hk3 (fun _ _ h => h)
 have el := elems_due w3 gr gp s2 wb hw3 HL2.out
 have HC3 := Lh hc3'
 have HK3 := Lh hk3'
 clear hd3 hc3 hk3 hw3 hc3' hk3'
 go_wp2_with fail
 refine el.mono ?_
 clear el
 rintro e w4 ⟨a1, n1, c1, rfl, ho4, hw4, hk4⟩
 rw [← HD.out.1] at ho4
 rw [← HD.out.2.1, ← HD.out.2.2.1] at hw4
 have hgg : w.heap.size < w3.heap.size := HC3.out.lt
 have hc4 := HC3.out.keptH hk4 (fun e => by have := HH.out; omega)
 have hcell := hc4.cell (j := 3) rfl
 have hfr := hc4.frozen 3
 have hw5 := hw4.set 3 (.slice a1 n1 c1) HH.out.1
 have hc5 : HT (w4.setCell ⟨w.heap.size, 3, none⟩ (.slice a1 n1 c1)) w.heap.size 63 [x0, y1, y2, .slice a1 n1 c1, ()] := hc4.put' 3 _ rfl
 have ho5 : OwnR DT.vs 3 106 (w4.setCell ⟨w.heap.size, 3, none⟩ (.slice a1 n1 c1)) w3.heap.size (.slice a1 n1 c1) D := OwnR.keptS ho4 ((Kept.refl (fun k => k = w.heap.size) w4).setCell _ _ rfl) (fun k hk (e : k = w.heap.size) => by have := OwnR.ge ho4 k hk; omega)
 have hk5 : Kept (fun k => (k = gp ∨ k = gr) ∨ k = w.heap.size) w (w4.setCell ⟨w.heap.size, 3, none⟩ (.slice a1 n1 c1)) := ((HK3.out.weaken (fun k h => by rcases h with h | h; exact .inl (.inl h); exact .inr h)).trans hk4 (fun _ _ h => .inl h)).setCell _ _ (.inr rfl)
 have el := elems_fall _ gr gp s3 wb3 hw5 HL3.out
 have HGG := Lh hgg
 have HS4 := Lh hk4.size
 have HC5 := Lh hc5
 have HO5 := Lh ho5
 have HK5 := Lh hk5
 clear hgg hc4 hw5 hc5 ho5 hk5 ho4 hw4 hk4
 go_wp2_with fail
 refine el.mono ?_
 clear el hcell hfr
 rintro e w6 ⟨a2, n2, c2, rfl, ho6, hw6, hk6⟩
 rw [← HD.out.2.2.2.1] at ho6
 rw [← HD.out.2.2.2.2.1, ← HD.out.2.2.2.2.2] at hw6
 have hs5 : w3.heap.size ≤ (w4.setCell ⟨w.heap.size, 3, none⟩ (.slice a1 n1 c1)).heap.size := by
  simpa using HS4.out
 have hc6 := HC5.out.keptH hk6 (fun e => by have := HH.out; omega)
 have hcell := hc6.cell (j := 4) rfl
 have hfr := hc6.frozen 4
 have hw7 := hw6.set 4 (.slice a2 n2 c2) HH.out.1
 have hc7 : HT (w6.setCell ⟨w.heap.size, 4, none⟩ (.slice a2 n2 c2)) w.heap.size 63 [x0, y1, y2, .slice a1 n1 c1, .slice a2 n2 c2] := hc6.put' 4 _ rfl
 have hkS : Kept (fun k => k = w.heap.size) w6 (w6.setCell ⟨w.heap.size, 4, none⟩ (.slice a2 n2 c2)) := (Kept.refl _ w6).setCell _ _ rfl
 have ho7 := OwnR.keptS ho6 hkS (fun k hk (e : k = w.heap.size) => by have := OwnR.ge ho6 k hk; have := HGG.out; omega)
 have ho8 := OwnR.keptS (OwnR.keptS HO5.out hk6 (fun k hk e => by have := OwnR.ge HO5.out k hk; have := HGG.out; have := HH.out; omega)) hkS (fun k hk (e : k = w.heap.size) => by have := OwnR.ge HO5.out k hk; have := HGG.out; omega)
 have hk7 : Kept (fun k => (k = gp ∨ k = gr) ∨ k = w.heap.size) w (w6.setCell ⟨w.heap.size, 4, none⟩ (.slice a2 n2 c2)) := (HK5.out.trans hk6 (fun _ _ h => .inl h)).setCell _ _ (.inr rfl)
 have HG : Hid ((w6.setCell ⟨w.heap.size, 4, none⟩ (.slice a2 n2 c2)).heap[w.heap.size]? = some (.cells #[x0, y1, y2, .slice a1 n1 c1, .slice a2 n2 c2] 63 (0, 0))) := hc7
 have HO7 := Lh (⟨ho7, ho8, hw7, hk7⟩ : _ ∧ _ ∧ _ ∧ _)
 have HSZ : Hid ((Tryz.prog.info? 63).map (·.size) = some (#[x0, y1, y2, .slice a1 n1 c1, .slice a2 n2 c2] : Array Value).size) := by show _ = _; rw [repSz]; rfl
 have HONE : Hid ((#[x0, y1, y2, .slice a1 n1 c1, .slice a2 n2 c2] : Array Value).all (·.oneCell') = true) := by show _ = true; simp [Value.oneCell']
 have HS5 := Lh hs5
 clear hc6 hw7 hc7 hkS ho7 ho8 hk7 ho6 hw6 hk6 hs5
 go_wp2_with (first
  | (refine wpList_load_row rfl 63 (.tmp 2) rfl w.heap.size rfl 63 #[x0, y1, y2, .slice a1 n1 c1, .slice a2 n2 c2] (0, 0) _ HG.out Tryz.underlying63 rfl HSZ.out ?_)
  | (refine wpList_store_row rfl 63 (.tmp 2) (.tmp 24) rfl w.heap.size #[x0, y1, y2, .slice a1 n1 c1, .slice a2 n2 c2] rfl rfl 63 #[x0, y1, y2, .slice a1 n1 c1, .slice a2 n2 c2] HG.out HSZ.out rfl HONE.out ?_)
  | fail)
 refine bodyPost_ret (results_cell_row rfl _ _ w.heap.size 63 #[x0, y1, y2, .slice a1 n1 c1, .slice a2 n2 c2] (0, 0) _ rfl (setRow_heap _ _ _ _ _ _ HG.out) Tryz.underlying63 rfl HSZ.out) rfl ?_
 obtain ⟨ho7, ho8, hw7, hk7⟩ := HO7.out
 generalize w6.setCell ⟨w.heap.size, 4, none⟩ (.slice a2 n2 c2) = w9 at *
 have hkr : Kept (fun k => k = w.heap.size) w9 (w9.setRow w.heap.size #[x0, y1, y2, .slice a1 n1 c1, .slice a2 n2 c2]) := ⟨rfl, rfl, rfl, by simp [World.setRow], fun k _ hn => setRow_other _ _ _ _ hn⟩
 have hg1 := HGG.out
 have hr := HRES.out
 refine ⟨_, rfl, ?_, ?_, ?_⟩
 ·
  rw [hr.1]
  exact ⟨a1, n1, c1, a2, n2, c2, rfl, OwnR.base (OwnR.keptS ho8 hkr (fun k hk (e : k = w.heap.size) => by have := OwnR.ge ho8 k hk; omega)) (by omega), OwnR.base (OwnR.keptS ho7 hkr (fun k hk (e : k = w.heap.size) => by have := OwnR.ge ho7 k hk; have := HS5.out; omega)) (by have := HS5.out; omega)⟩
 ·
  rw [hr.2.1, hr.2.2]
  exact hw7.go (hw7.2.1.kept hkr (fun k hk e => by have := HH.out; omega)) hkr (fun e => by have := HH.out; omega)
 ·
  have := hk7.trans hkr (fun _ _ h => .inr h)
  exact ⟨this.os, this.tape, this.output, this.size, fun k hk hn => this.block k hk (fun e => e.elim hn (fun e => by omega))⟩
theorem RepV.kept {S : Nat → Prop} {w w' : World} {base : Nat} {v : Value} {x : RepT} (h : RepV w base v x) (hk : Kept S w w') (hS : ∀ k, base ≤ k → ¬ S k) : RepV w' base v x := by
 obtain ⟨a1, n1, c1, a2, n2, c2, e, h1, h2⟩ := h
 exact ⟨a1, n1, c1, a2, n2, c2, e, OwnR.keptS h1 hk (fun k hk => hS k (OwnR.ge h1 k hk)), OwnR.keptS h2 hk (fun k hk => hS k (OwnR.ge h2 k hk))⟩
theorem RepV.below {w w' : World} {base : Nat} {v : Value} {x : RepT} (h : RepV w base v x) (hb : Below w.heap.size w w') : RepV w' base v x := h.kept (Kept.of_below hb) (fun _ _ h => h)
theorem RepV.base {w : World} {base b : Nat} {v : Value} {x : RepT} (h : RepV w base v x) (hb : b ≤ base) : RepV w b v x := by
 obtain ⟨a1, n1, c1, a2, n2, c2, e, h1, h2⟩ := h
 exact ⟨a1, n1, c1, a2, n2, c2, e, OwnR.base h1 hb, OwnR.base h2 hb⟩
theorem rI_stick {s : RS} (h : s.2 ≠ 0) : (rI s).2.2 ≠ 0 := by rw [rI_err s h]; exact h
theorem rIs_stick (k : Nat) {s : RS} (h : s.2 ≠ 0) : (rIs k s).2.2 ≠ 0 := by
 induction k with
 | zero => exact h
 | succ k ih => exact rI_stick ih
def Good (wb : Bool) (s : RS) : Prop := wb = false ∧ s.2 = 0
theorem Good.ints {wb : Bool} {s : RS} (k : Nat) (h : Good wb (rIs k s).2) : Good wb s := ⟨h.1, Decidable.byContradiction fun hn => rIs_stick k hn h.2⟩
theorem elL_stick {α : Type} {rd : RS → α × RS} (wb : Bool) {s : RS} (h : s.2 ≠ 0) : (elL rd wb s).2.2 ≠ 0 := by
 unfold elL
 rw [rI_err s h]
 split
 ·
  exact h
 ·
  exact h
theorem Good.list {α : Type} {rd : RS → α × RS} {wb : Bool} {s : RS} (h : Good (elW wb (rI s).1) (elL rd wb s).2) : Good wb s := by
 refine ⟨?_, Decidable.byContradiction fun hn => elL_stick wb hn h.2⟩
 have := h.1
 unfold elW at this
 cases wb
 ·
  rfl
 ·
  simp at this
theorem dE_zero {wb : Bool} {s : RS} : dE wb s = 0 ↔ wb = false ∧ rD s = 0 := by
 unfold dE
 cases wb <;> by_cases h : rD s = 0 <;> simp [h]
theorem rD_zero {s : RS} (h : rD s = 0) : s.2 = 0 := by
 unfold rD at h
 split at h
 ·
  next h0 => exact h0
 ·
  exact h
theorem Good.rep {wb : Bool} {s : RS} (h : Good (rpW wb s) (rpF wb s).2) : Good wb s := Good.ints 3 (Good.list (rd := rdDT) (Good.list (rd := rdFT) h))
def Firm (S : Nat → Prop) (M : World → Prop) : Prop := ∀ w w', M w → Kept S w w' → M w'
theorem Firm.mono {S T : Nat → Prop} {M : World → Prop} (h : Firm S M) (hs : ∀ k, T k → S k) : Firm T M := fun w w' hm hk => h w w' hm (hk.weaken hs)
theorem Firm.below {S : Nat → Prop} {M : World → Prop} (h : Firm S M) {w w' : World} (hm : M w) (hb : Below w.heap.size w w') : M w' := h _ _ hm ((Kept.of_below hb).weaken (fun _ h => h.elim))
theorem Firm.and {S : Nat → Prop} {M N : World → Prop} (h : Firm S M) (k : Firm S N) : Firm S (fun w => M w ∧ N w) := fun w w' hm hk => ⟨h w w' hm.1 hk, k w w' hm.2 hk⟩
theorem Firm.ht {S : Nat → Prop} {a : Nat} {t : TypeId} {C : List Value} (h : ¬ S a) : Firm S (fun w => HT w a t C) := fun _ _ hm hk => hm.keptH hk h
theorem Firm.own' {α : Type} {enc : α → List Value} {K base : Nat} {S : Nat → Prop} {t : TypeId} {v : Value} {L : List α} (h : ∀ k, v.ownBlock = some k → ¬ S k) : Firm S (fun w => OwnR enc K t w base v L) := fun _ _ hm hk => OwnR.keptS hm hk h
theorem Firm.own {α : Type} {enc : α → List Value} {K g base : Nat} {t : TypeId} {v : Value} {L : List α} (h : g < base) : Firm (fun k => k = g) (fun w => OwnR enc K t w base v L) := fun _ _ hm hk => OwnR.keptS hm hk (fun k hk e => by have := OwnR.ge hm k hk; omega)
theorem Firm.size {S : Nat → Prop} {b : Nat} : Firm S (fun w => b ≤ w.heap.size) := fun _ _ hm hk => Nat.le_trans hm hk.size
end Cam
