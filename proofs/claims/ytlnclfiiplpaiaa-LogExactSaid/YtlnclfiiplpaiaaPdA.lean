import Derived.Test.YtlnclfiiplpaiaaJnA0
/- the page's disk in memory; last, block, Arm. -/
namespace Cam
open Go Go.RowKit Go.Proofs
def encW (x : Nat × List UInt8) : List Value := .int .i64 (x.1 : Int) :: encB x.2
theorem encW_len (x : Nat × List UInt8) : (encW x).length = 65 := by simp [encW, encB_len]
theorem encW_fW {x : Nat × List UInt8} (h : x.2.length = 64) : encW x = fW x := by unfold encW fW; rw [encB_64 h]
theorem encW_one (x : Nat × List UInt8) : ∀ u ∈ encW x, u.oneCell' = true := by
 intro u hu
 unfold encW at hu
 rcases List.mem_cons.1 hu with rfl | hu
 ·
  rfl
 ·
  exact encB_one _ u hu
theorem HT.own_neP {w : World} {gl k : Nat} {t e : TypeId} {C : List Value} {v : Value} {base size n : Nat} {xs : List Value} (hx : HT w gl t C) (h : w.ownsRow base e size v n xs) (hne : e ≠ t) (hk : v.ownBlock = some k) : ¬ k = gl := fun e1 => by
 obtain ⟨cur, fr, h3⟩ := ownsRow_type h hk
 unfold HT at hx
 rw [e1, hx] at h3
 have := Option.some.inj h3
 simp only [Obj.cells.injEq] at this
 exact hne this.2.1.symm
theorem HT.ne {w : World} {g k : Nat} {t e : TypeId} {C E : List Value} (h1 : HT w g t C) (h2 : HT w k e E) (hne : t ≠ e) : g ≠ k := fun e1 => by
 unfold HT at h1 h2
 rw [e1, h2] at h1
 have := Option.some.inj h1
 simp only [Obj.cells.injEq] at this
 exact hne this.2.1.symm
def pcells (gs n : Nat) (vo : Value) (D : DK) : List Value := [.int .i64 (n : Int), .slice (some ⟨gs, 0, none⟩) n n, vo, .bool D.off, .int .i64 D.arm, .bool D.torn]
structure PMem (w : World) (g gs : Nat) (vo : Value) (n : Nat) (D : DK) : Prop where
 hd : HT w g 78 (pcells gs n vo D)
 hs : HT w gs 36 (flatW bvs D.syn)
 ho : OwnR encW 65 100 w 0 vo D.op
 ok : DOk n D
def PS (g gs : Nat) (vo : Value) (k : Nat) : Prop := k = g ∨ k = gs ∨ vo.ownBlock = some k
theorem PMem.ne {w : World} {g gs : Nat} {vo : Value} {n : Nat} {D : DK} (h : PMem w g gs vo n D) : g ≠ gs := h.hd.ne h.hs (by decide)
theorem PMem.own {w : World} {g gs : Nat} {vo : Value} {n : Nat} {D : DK} (h : PMem w g gs vo n D) {k : Nat} (hk : vo.ownBlock = some k) : k ≠ g ∧ k ≠ gs ∧ k < w.heap.size := ⟨h.hd.own_neP h.ho.2 (by decide) hk, h.hs.own_neP h.ho.2 (by decide) hk, h.ho.lt k hk⟩
theorem PMem.lt {w : World} {g gs : Nat} {vo : Value} {n : Nat} {D : DK} (h : PMem w g gs vo n D) (k : Nat) (hk : PS g gs vo k) : k < w.heap.size := by
 rcases hk with rfl | rfl | e
 ·
  exact h.hd.lt
 ·
  exact h.hs.lt
 ·
  exact (h.own e).2.2
theorem PMem.kept {S : Nat → Prop} {w w' : World} {g gs : Nat} {vo : Value} {n : Nat} {D : DK} (h : PMem w g gs vo n D) (hk : Kept S w w') (hS : ∀ k, PS g gs vo k → ¬ S k) : PMem w' g gs vo n D :=
 ⟨h.hd.keptJ hk (hS g (.inl rfl)), h.hs.keptJ hk (hS gs (.inr (.inl rfl))), h.ho.keptJ hk (fun k e => hS k (.inr (.inr e))), h.ok⟩
theorem PMem.below {w w' : World} {g gs : Nat} {vo : Value} {n : Nat} {D : DK} (h : PMem w g gs vo n D) (hb : Below w.heap.size w w') : PMem w' g gs vo n D := h.kept (Kept.of_below hb) (fun _ _ e => e)
theorem PMem.cells {w : World} {g gs : Nat} {vo : Value} {n : Nat} {D : DK} (h : PMem w g gs vo n D) :
  w.cell? ⟨g, 0, none⟩ = some (.int .i64 (n : Int)) ∧ w.cell? ⟨g, 1, none⟩ = some (.slice (some ⟨gs, 0, none⟩) n n) ∧ w.cell? ⟨g, 2, none⟩ = some vo ∧ w.cell? ⟨g, 3, none⟩ = some (.bool D.off) ∧ w.cell? ⟨g, 4, none⟩ = some (.int .i64 D.arm) ∧ w.cell? ⟨g, 5, none⟩ = some (.bool D.torn) :=
 ⟨h.hd.cell rfl, h.hd.cell rfl, h.hd.cell rfl, h.hd.cell rfl, h.hd.cell rfl, h.hd.cell rfl⟩
theorem keptG (w : World) (g j : Nat) (v : Value) : Kept (fun k => k = g) w (w.setCell ⟨g, j, none⟩ v) := (Kept.refl _ w).setCell _ _ rfl
theorem PMem.put {w : World} {g gs : Nat} {vo : Value} {n : Nat} {D D' : DK} (h : PMem w g gs vo n D) {j : Nat} {v : Value} (hc : (pcells gs n vo D).set j v = pcells gs n vo D') (hs : D'.syn = D.syn) (hn : D'.now = D.now) (ho : D'.op = D.op) (ha : 0 ≤ D'.arm ∧ D'.arm ≤ 9223372036854775807) : PMem (w.setCell ⟨g, j, none⟩ v) g gs vo n D' := by
 have hk := keptG w g j v
 refine ⟨?_, ?_, ?_, ⟨h.ok.n1, by rw [hs]; exact h.ok.syn, by rw [hn]; exact h.ok.now, by rw [ho]; exact h.ok.op, by rw [ho]; exact h.ok.few, ha⟩⟩
 ·
  rw [← hc]
  exact h.hd.put j v
 ·
  rw [hs]
  exact h.hs.keptJ hk (fun e => h.ne e.symm)
 ·
  rw [ho]
  exact h.ho.keptJ hk (fun k e => (h.own e).1)
set_option maxHeartbeats 800000 in
theorem plast_any (w : World) (g gs : Nat) (vo : Value) (n : Nat) (D : DK) (h : PMem w g gs vo n D) :
  Calls Try.prog 64 #[.pointer (some ⟨g, 0, none⟩)] w fun e w' => e = .returned (.bool (dLast D).1) ∧ PMem w' g gs vo n (dLast D).2 ∧ Kept (fun k => k = g) w w' := by
 have hc4 := h.cells.2.2.2.2.1
 have hfz := h.hd.frozen
 have ha := h.ok.arm
 by_cases h0 : D.arm = 0
 ·
  have e : dLast D = (false, D) := by unfold dLast; rw [if_pos h0]
  rw [h0] at hc4
  rw [e]
  have H := Lib.hid h
  clear h ha e h0
  go_enter Try.func64, Try.ntmps64
  go_wp2_with fail
  go_ret
  exact ⟨rfl, H.out, Kept.refl _ _⟩
 ·
  obtain ⟨m, hm⟩ : ∃ m, m = D.arm := ⟨_, rfl⟩
  rw [← hm] at hc4 ha h0
  have hm1 : decide (m < 1) = false := by simp; omega
  have hp4 : PMem (w.setCell ⟨g, 4, none⟩ (.int .i64 (m - 1))) g gs vo n { D with arm := m - 1 } := h.put rfl rfl rfl rfl ⟨by show 0 ≤ m - 1; omega, by show m - 1 ≤ _; omega⟩
  have hc4' : (w.setCell ⟨g, 4, none⟩ (.int .i64 (m - 1))).cell? ⟨g, 4, none⟩ = some (.int .i64 (m - 1)) := hp4.cells.2.2.2.2.1
  have HP4 := Lib.hid hp4
  have hfz4 := hp4.hd.frozen
  have hc3 := h.cells.2.2.2.1
  have hc5 := h.cells.2.2.2.2.2
  have hmw : (-9223372036854775808 : Int) ≤ m - 1 ∧ m - 1 ≤ 9223372036854775807 := by omega
  by_cases h1 : 1 < D.arm
  ·
   have e : dLast D = (false, { D with arm := m - 1 }) := by unfold dLast; rw [if_neg (by omega), if_pos h1, hm]
   rw [e]
   have hm0 : ((m - 1 : Int) == 0) = false := by rw [beq_eq_false_iff_ne]; omega
   clear h h1 e hm hp4
   go_enter Try.func64, Try.ntmps64
   go_wp2_with fail
   go_ret
   exact ⟨rfl, HP4.out, keptG _ _ _ _⟩
  ·
   have hm1' : m = 1 := by omega
   have e : dLast D = (true, { D with arm := m - 1, off := true, torn := true }) := by unfold dLast; rw [if_neg (by omega), if_neg h1, hm]
   rw [e]
   have hz : m - 1 = 0 := by omega
   rw [hz] at hp4 hc4' ⊢
   have hp3 : PMem ((w.setCell ⟨g, 4, none⟩ (.int .i64 0)).setCell ⟨g, 3, none⟩ (.bool true)) g gs vo n { D with arm := 0, off := true } := hp4.put rfl rfl rfl rfl ⟨by show (0 : Int) ≤ 0; decide, by show (0 : Int) ≤ _; decide⟩
   have hp5 : PMem (((w.setCell ⟨g, 4, none⟩ (.int .i64 0)).setCell ⟨g, 3, none⟩ (.bool true)).setCell ⟨g, 5, none⟩ (.bool true)) g gs vo n { D with arm := 0, off := true, torn := true } := hp3.put rfl rfl rfl rfl ⟨by show (0 : Int) ≤ 0; decide, by show (0 : Int) ≤ _; decide⟩
   have HP5 := Lib.hid hp5
   subst hm1'
   clear h h1 e hm hp4 hp3 hp5 HP4 hz hmw hfz4 hc4'
   go_enter Try.func64, Try.ntmps64
   go_wp2_with fail
   go_ret
   exact ⟨rfl, HP5.out, ((keptG _ _ _ _).trans (keptG _ _ _ _) (fun _ _ e => e)).trans (keptG _ _ _ _) (fun _ _ e => e)⟩
theorem pblock_any (w : World) (g gs : Nat) (vo : Value) (n : Nat) (D : DK) (h : PMem w g gs vo n D) (at_ : Int) :
  Calls Try.prog 68 #[.pointer (some ⟨g, 0, none⟩), .int .i64 at_] w fun e w' => e = .returned (.bool (decide (0 ≤ at_ ∧ at_ < (n : Int)))) ∧ w = w' := by
 have hc0 := h.cells.1
 clear h
 by_cases h0 : 0 ≤ at_
 ·
  by_cases h1 : at_ < (n : Int)
  ·
   rw [decide_eq_true ⟨h0, h1⟩]
   go_enter Try.func68, Try.ntmps68
   go_wp2_with fail
   go_ret
   exact ⟨rfl, rfl⟩
  ·
   rw [decide_eq_false (fun e => h1 e.2)]
   have h1' : decide (at_ < (n : Int)) = false := by simp; omega
   go_enter Try.func68, Try.ntmps68
   go_wp2_with fail
   go_ret
   exact ⟨rfl, rfl⟩
 ·
  rw [decide_eq_false (fun e => h0 e.1)]
  have h0' : decide (0 ≤ at_) = false := by simp; omega
  go_enter Try.func68, Try.ntmps68
  go_wp2_with fail
  go_ret
  exact ⟨rfl, rfl⟩
end Cam
