import Derived.Test.YtgeclnjkkjmbaaaWsE
import Derived.Test.YtgeclnjkkjmbaaaRow
/- wire.elements over dues. -/
namespace Cam
open Go Go.RowKit Go.Proofs

/-- rows, read -/
def rRs {α : Type} (rd : RS → α × RS) : Nat → RS → List α × RS
  | 0, s => ([], s)
  | k + 1, s => ((rRs rd k s).1 ++ [(rd (rRs rd k s).2).1], (rd (rRs rd k s).2).2)
theorem rRs_len {α : Type} (rd : RS → α × RS) (k : Nat) (s : RS) : (rRs rd k s).1.length = k := by
  induction k with
  | zero => rfl
  | succ k ih => simp [rRs, ih]
theorem rRs_left {α : Type} {rd : RS → α × RS} (h : ∀ s, (rd s).2.1.length ≤ s.1.length) (k : Nat) (s : RS) : (rRs rd k s).2.1.length ≤ s.1.length := by
  induction k with
  | zero => exact Nat.le_refl _
  | succ k ih => exact Nat.le_trans (h _) ih
theorem OwnR.keptS {α : Type} {enc : α → List Value} {K : Nat} {S : Nat → Prop} {t : TypeId} {w w' : World} {base : Nat} {v : Value} {L : List α} (h : OwnR enc K t w base v L) (hk : Kept S w w') (hS : ∀ k, v.ownBlock = some k → ¬ S k) : OwnR enc K t w' base v L := by
  refine ⟨h.1, h.2.1, ?_⟩
  rcases h.2.2 with h2 | ⟨g, cap, cur, hv, hg, hh, r⟩
  · exact Or.inl h2
  · refine Or.inr ⟨g, cap, cur, hv, hg, ?_, r⟩
    rw [hk.block g (Array.getElem?_eq_some_iff.1 hh).1 (hS g (by rw [hv]; rfl))]
    exact hh
def elW (wb : Bool) (n : Int) : Bool := wb || decide (n < 0) || decide (1024 < n)
/-- what a list reads as -/
def elL {α : Type} (rd : RS → α × RS) (wb : Bool) (s : RS) : List α × RS := if elW wb (rI s).1 = true then ([], (rI s).2) else rRs rd (rI s).1.toNat (rI s).2

def rdDT (s : RS) : DT × RS := (⟨(rIs 3 s).1.getD 0 0, (rIs 3 s).1.getD 1 0, (rIs 3 s).1.getD 2 0⟩, (rIs 3 s).2)
theorem rdDT_vs (s : RS) : (ivs (rIs 3 s).1) = (rdDT s).1.vs := by
  have h := rIs_len 3 s
  unfold rdDT
  generalize (rIs 3 s).1 = L at h
  match L, h with
  | [a0, a1, a2], _ => rfl
theorem rdDT_left (s : RS) : (rdDT s).2.1.length ≤ s.1.length := rIs_left 3 s
theorem DT.one (c : DT) : ∀ u ∈ c.vs, u.oneCell' = true := by
  intro u hu
  simp only [DT.vs, List.mem_cons, List.not_mem_nil, or_false] at hu
  rcases hu with rfl | rfl | rfl <;> rfl
theorem elem_due : Elem Try.prog 38 127 3 24 := Elem.mk' (z := .agg #[.int .i64 0, .int .i64 0, .int .i64 0]) Try.underlying38 (by kernel_rfl) rfl (by decide)
def ElDT (w : World) (gr gp : Nat) (s : RS) (wb : Bool) (e : Ending) (w' : World) : Prop := ∃ a n c, e = .returned (.slice a n c) ∧ OwnR DT.vs 3 127 w' w.heap.size (.slice a n c) (elL rdDT wb s).1 ∧ WR w' gr gp (elL rdDT wb s).2 (elW wb (rI s).1) ∧ Kept (fun k => k = gp ∨ k = gr) w w'
set_option maxRecDepth 100000 in
set_option maxHeartbeats 3200000 in
theorem elems_due (w : World) (gr gp : Nat) (s : RS) (wb : Bool) (h : WR w gr gp s wb) (hlen : s.1.length ≤ 70368744177664) :
    Calls Try.prog 63 #[.pointer (some ⟨gr, 0, none⟩), .func (.func 64) #[.pointer (some ⟨gr, 0, none⟩)] #[]] w (ElDT w gr gp s wb) := by
  have hc0 := h.cell.1
  have ri := RInt_any w gp s h.2.1 hlen
  obtain ⟨n, hn⟩ : ∃ n, n = (rI s).1 := ⟨_, rfl⟩
  obtain ⟨s1, hs1⟩ : ∃ s1, s1 = (rI s).2 := ⟨_, rfl⟩
  rw [← hn, ← hs1] at ri
  have HL : Hid (elL rdDT wb s = if elW wb n = true then ([], s1) else rRs rdDT n.toNat s1) := by show _ = _; unfold elL; rw [← hn, ← hs1]
  have HN := Lib.hid hn
  have HLEN : Hid (s1.1.length ≤ 70368744177664) := by show _ ≤ _; rw [hs1]; exact Nat.le_trans (rIs_left 1 s) hlen
  have H := Lib.hid h
  have hgg : gp < gr := h.2.2
  have HGG := Lib.hid hgg
  have hnr : -9223372036854775808 ≤ n ∧ n ≤ 9223372036854775807 := by rw [hn]; exact rI_range s
  clear hn hs1 h hlen hgg
  go_enter Try.func63, Try.ntmps63
  go_wp2_with fail
  refine ri.mono ?_
  clear ri hc0
  rintro e w1 ⟨rfl, hd1, hk1⟩
  have hw1 := H.out.go hd1 hk1 (fun e => by have := HGG.out; omega)
  have HK1 := Lib.hid hk1
  have HW1 := Lib.hid hw1
  have hcw := hw1.cell.2.1
  have hfw := hw1.cell.2.2
  clear hd1 hk1 hw1
  by_cases hneg : n < 0
  · have hd : decide (n < 0) = true := by simpa using hneg
    have hput : WR (w1.setCell ⟨gr, 1, none⟩ (.bool true)) gr gp s1 true := ⟨HT.put (C := [.pointer (some ⟨gp, 0, none⟩), .bool wb]) HW1.out.1 1 (.bool true), HW1.out.2.1.kept ((Kept.refl (fun k => k = gr) w1).setCell _ _ rfl) (fun k hk (e : k = gr) => by have := HGG.out; omega), HW1.out.2.2⟩
    have hcp := hput.cell.2.1
    have HPUT := Lib.hid hput
    have HK2 : Hid (Kept (fun k => k = gp ∨ k = gr) w (w1.setCell ⟨gr, 1, none⟩ (.bool true))) := (HK1.out.weaken (T := fun k => k = gp ∨ k = gr) (fun _ h => .inl h)).trans ((Kept.refl (fun k => k = gr) w1).setCell _ _ rfl) (fun _ _ h => .inr h)
    have HE : Hid (elW wb n = true) := by show _ = _; unfold elW; simp; omega
    clear hput
    go_wp2_with fail
    generalize hw2 : w1.setCell ⟨gr, 1, none⟩ (.bool true) = w2 at *
    clear hw2
    go_loopw [6, 7] (fun v6 v7 wr => v6 = .slice none 0 0 ∧ v7 = .int .i64 0 ∧ wr = w2) (fun _ _ _ => 0)
    case atStart => exact ⟨rfl, rfl, rfl⟩
    case round =>
      obtain ⟨rfl, rfl, rfl⟩ := hrel
      go_wp2_with fail
      all_goals
        go_ret
        have hE : elL rdDT wb s = ([], s1) := by rw [HL.out, if_pos HE.out]
        exact ⟨none, 0, 0, rfl, by rw [hE]; exact OwnR.empty DT.len _ _ _, by rw [hE, ← HN.out, HE.out]; exact HPUT.out, HK2.out⟩
  · have hneg' : 0 ≤ n := by omega
    obtain ⟨N, rfl⟩ : ∃ N : Nat, n = N := ⟨n.toNat, by omega⟩
    clear hneg hneg' hnr
    by_cases hbig : 1024 < N
    · have hput : WR (w1.setCell ⟨gr, 1, none⟩ (.bool true)) gr gp s1 true := ⟨HT.put (C := [.pointer (some ⟨gp, 0, none⟩), .bool wb]) HW1.out.1 1 (.bool true), HW1.out.2.1.kept ((Kept.refl (fun k => k = gr) w1).setCell _ _ rfl) (fun k hk (e : k = gr) => by have := HGG.out; omega), HW1.out.2.2⟩
      have hcp := hput.cell.2.1
      have HPUT := Lib.hid hput
      have HK2 : Hid (Kept (fun k => k = gp ∨ k = gr) w (w1.setCell ⟨gr, 1, none⟩ (.bool true))) := (HK1.out.weaken (T := fun k => k = gp ∨ k = gr) (fun _ h => .inl h)).trans ((Kept.refl (fun k => k = gr) w1).setCell _ _ rfl) (fun _ _ h => .inr h)
      have HE : Hid (elW wb (N : Int) = true) := by show _ = _; unfold elW; simp; omega
      clear hput
      go_wp2_with fail
      generalize hw2 : w1.setCell ⟨gr, 1, none⟩ (.bool true) = w2 at *
      clear hw2
      go_loopw [6, 7] (fun v6 v7 wr => v6 = .slice none 0 0 ∧ v7 = .int .i64 0 ∧ wr = w2) (fun _ _ _ => 0)
      case atStart => exact ⟨rfl, rfl, rfl⟩
      case round =>
        obtain ⟨rfl, rfl, rfl⟩ := hrel
        go_wp2_with fail
        all_goals
          go_ret
          have hE : elL rdDT wb s = ([], s1) := by rw [HL.out, if_pos HE.out]
          exact ⟨none, 0, 0, rfl, by rw [hE]; exact OwnR.empty DT.len _ _ _, by rw [hE, ← HN.out, HE.out]; exact HPUT.out, HK2.out⟩
    · have HE : Hid (elW wb (N : Int) = wb) := by show _ = _; unfold elW; cases wb <;> simp <;> omega
      have HK2 : Hid (Kept (fun k => k = gp ∨ k = gr) w w1) := HK1.out.weaken (T := fun k => k = gp ∨ k = gr) (fun _ h => .inl h)
      cases wb with
      | true =>
        have HPUT := HW1
        have hcp := hcw
        obtain ⟨w2, hw2⟩ : ∃ w2, w2 = w1 := ⟨_, rfl⟩
        subst hw2
        clear hcw
        go_wp2_with fail
        go_loopw [6, 7] (fun v6 v7 wr => v6 = .slice none 0 0 ∧ v7 = .int .i64 0 ∧ wr = w2) (fun _ _ _ => 0)
        case atStart => exact ⟨rfl, rfl, rfl⟩
        case round =>
          obtain ⟨rfl, rfl, rfl⟩ := hrel
          go_wp2_with fail
          all_goals
            go_ret
            have hE : elL rdDT true s = ([], s1) := by rw [HL.out, if_pos HE.out]
            exact ⟨none, 0, 0, rfl, by rw [hE]; exact OwnR.empty DT.len _ _ _, by rw [hE, ← HN.out, HE.out]; exact HPUT.out, HK2.out⟩
      | false =>
        have HBIG := Lib.hid hbig
        clear hcw hfw
        go_wp2_with fail
        go_loopw [6, 7] (fun v6 v7 wr => ∃ (k : Nat) (a : Option Addr) (n6 c6 : Nat), k ≤ N ∧ v7 = .int .i64 k ∧ v6 = .slice a n6 c6 ∧ OwnR DT.vs 3 127 wr w.heap.size (.slice a n6 c6) (rRs rdDT k s1).1 ∧ WR wr gr gp (rRs rdDT k s1).2 false ∧ Kept (fun k => k = gp ∨ k = gr) w wr) (fun _ i _ => N - (intOf i).toNat)
        case atStart => exact ⟨0, none, 0, 0, Nat.zero_le _, rfl, rfl, OwnR.empty DT.len _ _ _, HW1.out, HK2.out⟩
        case round =>
          obtain ⟨k, a, n6, c6, hk, rfl, rfl, ho, hw, hkp⟩ := hrel
          have hcw := hw.cell.2.1
          by_cases hlt : k < N
          · have rd := rddue_any wr gr gp (rRs rdDT k s1).2 false hw (Nat.le_trans (rRs_left rdDT_left k s1) HLEN.out)
            rw [rdDT_vs] at rd
            obtain ⟨c, hc⟩ : ∃ c, c = (rdDT (rRs rdDT k s1).2).1 := ⟨_, rfl⟩
            rw [← hc, show (rIs 3 (rRs rdDT k s1).2).2 = (rRs rdDT (k + 1) s1).2 from rfl] at rd
            simp only [DT.vs] at rd
            have HN1 : Hid ((rRs rdDT (k + 1) s1).1 = (rRs rdDT k s1).1 ++ [c]) := by rw [hc]; rfl
            have HO := Lib.hid ho
            have HKP := Lib.hid hkp
            have hlr := rRs_len rdDT k s1
            have hle : ((rRs rdDT k s1).1.length + [c].length) * 24 ≤ 140737488355328 := by have := HBIG.out; rw [hlr]; simp; omega
            clear hc ho hw hkp hlr
            go_wp2_with fail
            refine rd.mono ?_
            clear rd hcw
            rintro e w3 ⟨rfl, hw3, hk3⟩
            have hbx : Below w3.heap.size w3 (w3.alloc (.cells #[.int .i64 c.who, .int .i64 c.cur, .int .i64 c.amt] 127)) := (Below.refl _ _).alloc (Nat.le_refl _) _
            have hoA : OwnR DT.vs 3 127 (w3.alloc (.cells #[.int .i64 c.who, .int .i64 c.cur, .int .i64 c.amt] 127)) w.heap.size (.slice a n6 c6) (rRs rdDT k s1).1 := (OwnR.keptS HO.out hk3 (fun j hj (e : j = gp) => by have := OwnR.ge HO.out j hj; have := H.out.lt; have := HGG.out; omega)).alloc _
            have hone : Rs DT.vs 3 (w3.alloc (.cells #[.int .i64 c.who, .int .i64 c.cur, .int .i64 c.amt] 127)) (.slice (some ⟨w3.heap.size, 0, none⟩) 1 1) [c] := Rs.one DT.len w3 c 127
            have HWA := Lib.hid (hw3.below hbx)
            have HKA : Hid (Kept (fun k => k = gp ∨ k = gr) w (w3.alloc (.cells #[.int .i64 c.who, .int .i64 c.cur, .int .i64 c.amt] 127))) := (HKP.out.trans hk3 (fun _ _ h => .inl h)).alloc _
            have hbase : w.heap.size ≤ (w3.alloc (.cells #[.int .i64 c.who, .int .i64 c.cur, .int .i64 c.amt] 127)).heap.size := HKA.out.size
            clear hbx hw3 hk3
            go_wp2_with (first
              | (at_builtin; refine wpList_append_rows (v := .slice a n6 c6) rfl (.tmp 34) (.tmp 37) 38 rfl (L := (rRs rdDT k s1).1) (M := [c]) (base := w.heap.size) elem_due rfl rfl hoA hone DT.one hle (by decide) hbase ?_; intro a7 n7 c7 w7 Hn7 ho7 hg7 hat7 hb7)
              | fail)
            have hge : ∀ j, (Value.slice a n6 c6).ownBlock = some j → w.heap.size ≤ j := OwnR.ge HO.out
            have hkg := Kept.of_grown hg7
            refine ⟨⟨k + 1, a7, n7, c7, by omega, by push_cast; rfl, rfl, by rw [HN1.out]; exact ho7, HWA.out.go (HWA.out.2.1.kept hkg (fun j hj e => by have := hge j e; have := H.out.lt; have := HGG.out; omega)) hkg (fun e => by have := hge gr e; have := H.out.lt; omega), HKA.out.trans hkg (fun j hj e => by have := hge j e; omega)⟩, by simp [intOf]; omega⟩
          · obtain rfl : k = N := by omega
            have HO := Lib.hid ho
            have HW := Lib.hid hw
            have HKP := Lib.hid hkp
            clear ho hw hkp
            go_wp2_with fail
            go_ret
            have hE : elL rdDT false s = rRs rdDT k s1 := by rw [HL.out, HE.out]; simp
            exact ⟨_, _, _, rfl, by rw [hE]; exact HO.out, by rw [hE, ← HN.out, HE.out]; exact HW.out, HKP.out⟩
end Cam
