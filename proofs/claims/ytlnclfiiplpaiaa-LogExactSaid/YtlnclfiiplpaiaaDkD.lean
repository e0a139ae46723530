import Derived.Test.YtlnclfiiplpaiaaDkBaz
/- disk.Disk in memory; right, last, Arm, Off, Open, Blocks. -/
namespace Cam
open Go Go.RowKit Go.Proofs
structure DK where
 syn : List (List UInt8)
 now : List (List UInt8)
 op : List (Nat × List UInt8)
 off : Bool
 arm : Int
 torn : Bool
def fW (x : Nat × List UInt8) : List Value := .int .i64 x.1 :: bvs x.2
structure DOk (n : Nat) (D : DK) : Prop where
 n1 : n ≤ 65536
 syn : D.syn.length = n ∧ ∀ b ∈ D.syn, b.length = 64
 now : D.now.length = n ∧ ∀ b ∈ D.now, b.length = 64
 op : ∀ x ∈ D.op, x.1 < n ∧ x.2.length = 64
 few : D.op.length ≤ 1000000
 arm : 0 ≤ D.arm ∧ D.arm ≤ 9223372036854775807
def dcells (gs gn n : Nat) (vo : Value) (D : DK) : List Value := [.slice (some ⟨gs, 0, none⟩) n n, .slice (some ⟨gn, 0, none⟩) n n, vo, .bool D.off, .int .i64 D.arm, .bool D.torn]
structure DM (w : World) (g gs gn : Nat) (vo : Value) (n : Nat) (D : DK) : Prop where
 hd : HC w g (dcells gs gn n vo D)
 hs : HC w gs (flatW bvs D.syn)
 hn : HC w gn (flatW bvs D.now)
 ho : w.ownsRow (g + 1) 100 65 vo D.op.length (flatW fW D.op)
 lt : gs ≠ gn ∧ gs < g ∧ gn < g
 ok : DOk n D
def DS (g gs gn : Nat) (vo : Value) (k : Nat) : Prop := k = g ∨ k = gs ∨ k = gn ∨ vo.ownBlock = some k
theorem DM.row {w : World} {g gs gn : Nat} {vo : Value} {n : Nat} {D : DK} (h : DM w g gs gn vo n D) (k : Nat) (hk : vo.ownBlock = some k) : g < k ∧ k < w.heap.size := by
 have := World.ownsRow.lt h.ho k hk
 omega
theorem DM.kept {S : Nat → Prop} {w w' : World} {g gs gn : Nat} {vo : Value} {n : Nat} {D : DK} (h : DM w g gs gn vo n D) (hk : Kept S w w') (hS : ∀ k, DS g gs gn vo k → ¬ S k) : DM w' g gs gn vo n D := by
 refine ⟨h.hd.kept hk (hS g (.inl rfl)), h.hs.kept hk (hS gs (.inr (.inl rfl))), h.hn.kept hk (hS gn (.inr (.inr (.inl rfl)))), ?_, h.lt, h.ok⟩
 refine ⟨h.ho.1, ?_⟩
 rcases h.ho.2 with h2 | ⟨b, cap, cur, rfl, hg, hh, r⟩
 ·
  exact Or.inl h2
 ·
  exact Or.inr ⟨b, cap, cur, rfl, hg, (hk.block b (Array.getElem?_eq_some_iff.1 hh).1 (hS b (.inr (.inr (.inr rfl))))).trans hh, r⟩
theorem DM.below {w w' : World} {g gs gn : Nat} {vo : Value} {n : Nat} {D : DK} (h : DM w g gs gn vo n D) (hb : Below w.heap.size w w') : DM w' g gs gn vo n D := h.kept (Kept.of_below hb) (fun _ _ h => h)
theorem DM.alloc {w : World} {g gs gn : Nat} {vo : Value} {n : Nat} {D : DK} (h : DM w g gs gn vo n D) (o : Obj) : DM (w.alloc o) g gs gn vo n D := h.below ((Below.refl _ _).alloc (Nat.le_refl _) o)
theorem DM.cells {w : World} {g gs gn : Nat} {vo : Value} {n : Nat} {D : DK} (h : DM w g gs gn vo n D) :
  w.cell? ⟨g, 0, none⟩ = some (.slice (some ⟨gs, 0, none⟩) n n) ∧ w.cell? ⟨g, 1, none⟩ = some (.slice (some ⟨gn, 0, none⟩) n n) ∧ w.cell? ⟨g, 2, none⟩ = some vo ∧ w.cell? ⟨g, 3, none⟩ = some (.bool D.off) ∧ w.cell? ⟨g, 4, none⟩ = some (.int .i64 D.arm) ∧ w.cell? ⟨g, 5, none⟩ = some (.bool D.torn) :=
 ⟨h.hd.cell rfl, h.hd.cell rfl, h.hd.cell rfl, h.hd.cell rfl, h.hd.cell rfl, h.hd.cell rfl⟩
theorem DM.put {w : World} {g gs gn : Nat} {vo : Value} {n : Nat} {D D' : DK} (h : DM w g gs gn vo n D) {j : Nat} {v : Value} (hc : (dcells gs gn n vo D).set j v = dcells gs gn n vo D') (hs : D'.syn = D.syn) (hn : D'.now = D.now) (ho : D'.op = D.op) (ha : 0 ≤ D'.arm ∧ D'.arm ≤ 9223372036854775807) :
  DM (w.setCell ⟨g, j, none⟩ v) g gs gn vo n D' := by
 have hk : Kept (fun k => k = g) w (w.setCell ⟨g, j, none⟩ v) := (Kept.refl _ w).setCell _ _ rfl
 have hl := h.lt
 have ok := h.ok
 refine ⟨?_, ?_, ?_, ?_, hl, ⟨ok.n1, by rw [hs]; exact ok.syn, by rw [hn]; exact ok.now, by rw [ho]; exact ok.op, by rw [ho]; exact ok.few, ha⟩⟩
 ·
  rw [← hc]
  exact h.hd.put j v
 ·
  rw [hs]
  exact h.hs.kept hk (by omega)
 ·
  rw [hn]
  exact h.hn.kept hk (by omega)
 ·
  rw [ho]
  refine ownsRow_setCell_other h.ho (a := ⟨g, j, none⟩) (fun e => ?_) v
  have := (h.row g e).1
  omega
theorem DM.keptPut {w : World} {g j : Nat} {v : Value} : Kept (fun k => k = g) w (w.setCell ⟨g, j, none⟩ v) := (Kept.refl _ w).setCell _ _ rfl
def dRight (n : Nat) (D : DK) (at_ : Int) : Int := if D.off = true then 7 else if at_ < 0 ∨ (n : Int) ≤ at_ then 3 else 0
set_option maxHeartbeats 800000 in
theorem right_any (w : World) (g gs gn : Nat) (vo : Value) (n : Nat) (D : DK) (h : DM w g gs gn vo n D) (at_ : Int) :
  Calls Try.prog 46 #[.pointer (some ⟨g, 0, none⟩), .int .i64 at_] w fun e w' => e = .returned (.int .i64 (dRight n D at_)) ∧ w = w' := by
 obtain ⟨hc0, hc1, hc2, hc3, hc4, hc5⟩ := h.cells
 obtain ⟨o, ho⟩ : ∃ o, o = D.off := ⟨_, rfl⟩
 have HD : Hid (dRight n D at_ = if o = true then 7 else if at_ < 0 ∨ (n : Int) ≤ at_ then 3 else 0) := by show _ = _; rw [ho]; rfl
 rw [← ho] at hc3
 clear ho h
 cases o with
 | true =>
  go_enter Try.func46, Try.ntmps46
  go_wp2_with fail
  go_ret
  exact ⟨by rw [HD.out]; rfl, rfl⟩
 | false =>
  by_cases h0 : at_ < 0
  ·
   go_enter Try.func46, Try.ntmps46
   go_wp2_with fail
   go_ret
   exact ⟨by rw [HD.out, if_neg (by simp), if_pos (.inl h0)]; rfl, rfl⟩
  ·
   have h0' : decide (at_ < 0) = false := by simp; omega
   by_cases h1 : (n : Int) ≤ at_
   ·
    go_enter Try.func46, Try.ntmps46
    go_wp2_with fail
    go_ret
    exact ⟨by rw [HD.out, if_neg (by simp), if_pos (.inr h1)]; rfl, rfl⟩
   ·
    have h1' : decide ((n : Int) ≤ at_) = false := by simp; omega
    go_enter Try.func46, Try.ntmps46
    go_wp2_with fail
    go_ret
    exact ⟨by rw [HD.out, if_neg (by simp), if_neg (by omega)]; rfl, rfl⟩
def dLast (D : DK) : Bool × DK := if D.arm = 0 then (false, D) else if 1 < D.arm then (false, { D with arm := D.arm - 1 }) else (true, { D with arm := D.arm - 1, off := true, torn := true })
set_option maxHeartbeats 1600000 in
theorem last_any (w : World) (g gs gn : Nat) (vo : Value) (n : Nat) (D : DK) (h : DM w g gs gn vo n D) :
  Calls Try.prog 62 #[.pointer (some ⟨g, 0, none⟩)] w fun e w' => e = .returned (.bool (dLast D).1) ∧ DM w' g gs gn vo n (dLast D).2 ∧ Kept (fun k => k = g) w w' := by
 obtain ⟨hc0, hc1, hc2, hc3, hc4, hc5⟩ := h.cells
 have hf3 := h.hd.frozen 3
 have hf4 := h.hd.frozen 4
 have hf5 := h.hd.frozen 5
 have ha := h.ok.arm
 have Ha := Lib.hid ha
 have Hh := Lib.hid h
 obtain ⟨m, hm⟩ : ∃ m, m = D.arm := ⟨_, rfl⟩
 rw [← hm] at hc4 ha
 have HD : Hid (dLast D = if m = 0 then (false, D) else if 1 < m then (false, { D with arm := m - 1 }) else (true, { D with arm := m - 1, off := true, torn := true })) := by show _ = _; rw [hm]; rfl
 clear hm h hc0 hc1 hc2
 by_cases h0 : m = 0
 ·
  subst h0
  go_enter Try.func62, Try.ntmps62
  go_wp2_with fail
  go_ret
  rw [HD.out]
  exact ⟨rfl, Hh.out, Kept.refl _ _⟩
 ·
  have h0' : ((m : Int) == 0) = false := by simp [h0]
  by_cases h1 : 1 < m
  ·
   have h1' : decide ((0 : Int) < m - 1) = true := by simp; omega
   go_enter Try.func62, Try.ntmps62
   go_wp2_with fail
   go_ret
   rw [HD.out, if_neg h0, if_pos h1]
   exact ⟨rfl, Hh.out.put rfl rfl rfl rfl (by simp only; omega), DM.keptPut⟩
  ·
   obtain rfl : m = 1 := by omega
   go_enter Try.func62, Try.ntmps62
   go_wp2_with fail
   go_ret
   rw [HD.out, if_neg h0, if_neg (by omega)]
   refine ⟨rfl, ?_, ?_⟩
   ·
    have d1 : DM (w.setCell ⟨g, 4, none⟩ (.int .i64 0)) g gs gn vo n { D with arm := 0 } := Hh.out.put rfl rfl rfl rfl (by simp only; omega)
    have d2 : DM ((w.setCell ⟨g, 4, none⟩ (.int .i64 0)).setCell ⟨g, 3, none⟩ (.bool true)) g gs gn vo n { D with arm := 0, off := true } := d1.put rfl rfl rfl rfl (by simp only; omega)
    have d3 : DM (((w.setCell ⟨g, 4, none⟩ (.int .i64 0)).setCell ⟨g, 3, none⟩ (.bool true)).setCell ⟨g, 5, none⟩ (.bool true)) g gs gn vo n { D with arm := 0, off := true, torn := true } := d2.put rfl rfl rfl rfl (by simp only; omega)
    exact d3
   ·
    exact (((Kept.refl (fun k => k = g) w).setCell ⟨g, 4, none⟩ (.int .i64 0) rfl).setCell ⟨g, 3, none⟩ (.bool true) rfl).setCell ⟨g, 5, none⟩ (.bool true) rfl
def dArm (D : DK) (m : Int) : DK := if D.off = true then D else { D with arm := max m 0 }
set_option maxHeartbeats 800000 in
theorem Arm_any (w : World) (g gs gn : Nat) (vo : Value) (n : Nat) (D : DK) (h : DM w g gs gn vo n D) (m : Int) (hm : m ≤ 9223372036854775807) :
  Calls Try.prog 30 #[.pointer (some ⟨g, 0, none⟩), .int .i64 m] w fun e w' => e = .returned (.tuple #[]) ∧ DM w' g gs gn vo n (dArm D m) ∧ Kept (fun k => k = g) w w' := by
 obtain ⟨hc0, hc1, hc2, hc3, hc4, hc5⟩ := h.cells
 have hf4 := h.hd.frozen 4
 obtain ⟨o, ho⟩ : ∃ o, o = D.off := ⟨_, rfl⟩
 have HD : Hid (dArm D m = if o = true then D else { D with arm := max m 0 }) := by show _ = _; rw [ho]; rfl
 rw [← ho] at hc3
 have Hh := Lib.hid h
 clear ho h hc0 hc1 hc2
 cases o with
 | true =>
  go_enter Try.func30, Try.ntmps30
  go_wp2_with fail
  go_end0
  rw [HD.out]
  exact ⟨rfl, Hh.out, Kept.refl _ _⟩
 | false =>
  have Hm := Lib.hid hm
  clear hm
  by_cases h0 : 0 ≤ m
  ·
   have e0 : max m 0 = m := by omega
   have E0 := Lib.hid e0
   have h0' : decide (m < 0) = false := by simp; omega
   go_enter Try.func30, Try.ntmps30
   go_wp2_with fail
   go_end0
   rw [HD.out, if_neg (by simp), E0.out]
   exact ⟨rfl, Hh.out.put rfl rfl rfl rfl (by have := Hm.out; simp only; omega), DM.keptPut⟩
  ·
   have e0 : max m 0 = 0 := by omega
   have E0 := Lib.hid e0
   have h0' : m < 0 := by omega
   clear h0
   go_enter Try.func30, Try.ntmps30
   go_wp2_with fail
   go_end0
   rw [HD.out, if_neg (by simp), E0.out]
   exact ⟨rfl, Hh.out.put rfl rfl rfl rfl (by simp only; omega), DM.keptPut⟩
theorem Off_any (w : World) (g gs gn : Nat) (vo : Value) (n : Nat) (D : DK) (h : DM w g gs gn vo n D) :
  Calls Try.prog 38 #[.pointer (some ⟨g, 0, none⟩)] w fun e w' => e = .returned (.bool D.off) ∧ w = w' := by
 obtain ⟨hc0, hc1, hc2, hc3, hc4, hc5⟩ := h.cells
 go_enter Try.func38, Try.ntmps38
 go_wp2_with fail
 go_ret
 exact ⟨rfl, rfl⟩
theorem Open_any (w : World) (g gs gn : Nat) (vo : Value) (n : Nat) (D : DK) (h : DM w g gs gn vo n D) :
  Calls Try.prog 58 #[.pointer (some ⟨g, 0, none⟩)] w fun e w' => e = .returned (.int .i64 D.op.length) ∧ w = w' := by
 obtain ⟨hc0, hc1, hc2, hc3, hc4, hc5⟩ := h.cells
 obtain ⟨a, c, rfl, _, _⟩ := (Sl.of_owns h.ho).shape
 go_enter Try.func58, Try.ntmps58
 go_wp2_with fail
 go_ret
 exact ⟨rfl, rfl⟩
end Cam
