import Derived.Test.YteabnccmomdnpaaClU
/- call.Ask in two cases; the statements' wakes. -/
namespace Cam
open Go Go.RowKit Go.Proofs

def AskPost (w : World) (l : List CT) (e : Ending) (w' : World) : Prop := ∃ a n c, e = .returned (.tuple #[.slice a n c, .int .i64 0]) ∧ OwnC w' w.heap.size (.slice a n c) l ∧ Below w.heap.size w w'
theorem Ask_of (w : World) (v : Value) (l r : List CT) (who cur amt at0 : Int) (h : Cs w v l) (hl : l.length ≤ 100000) (hw : wrongE l who cur amt at0 = 0)
    (put : ∀ w1 : World, Cs w1 v l → Calls Try.prog 27 #[v, .agg #[.int .i64 who, .int .i64 cur, .int .i64 amt], .int .i64 at0] w1 (InsPost w1 w1.heap.size r)) :
    Calls Try.prog 11 #[v, .agg #[.int .i64 who, .int .i64 cur, .int .i64 amt], .int .i64 at0] w (AskPost w r) := by
  have hbW := (Below.refl w.heap.size w).alloc (Nat.le_refl _) (.cells #[.int .i64 who, .int .i64 cur, .int .i64 amt] 26)
  have hn0 := heap_alloc_new w (.cells #[.int .i64 who, .int .i64 cur, .int .i64 amt] 26)
  have hcl : ∀ j u, #[Value.int .i64 who, .int .i64 cur, .int .i64 amt][j]? = some u → (w.alloc (.cells #[.int .i64 who, .int .i64 cur, .int .i64 amt] 26)).cell? ⟨w.heap.size, j, none⟩ = some u := by
    intro j u hu
    unfold World.cell?
    rw [hn0]
    exact hu
  have hS3 : (w.alloc (.cells #[.int .i64 who, .int .i64 cur, .int .i64 amt] 26)).cell? ⟨w.heap.size, 0, none⟩ = some (.int .i64 who) ∧ (w.alloc (.cells #[.int .i64 who, .int .i64 cur, .int .i64 amt] 26)).cell? ⟨w.heap.size, 1, none⟩ = some (.int .i64 cur) ∧ (w.alloc (.cells #[.int .i64 who, .int .i64 cur, .int .i64 amt] 26)).cell? ⟨w.heap.size, 2, none⟩ = some (.int .i64 amt) ∧ Below w.heap.size w (w.alloc (.cells #[.int .i64 who, .int .i64 cur, .int .i64 amt] 26)) := ⟨hcl 0 _ rfl, hcl 1 _ rfl, hcl 2 _ rfl, hbW⟩
  obtain ⟨c0, c1, c2, hbe⟩ := hS3
  have hv := h.mono hbW
  obtain ⟨av, cap, rfl, _, _⟩ := h.shape
  obtain ⟨m, hm⟩ : ∃ m, m = l.length := ⟨_, rfl⟩
  have wr0 := wrong_any (w.alloc (.cells #[.int .i64 who, .int .i64 cur, .int .i64 amt] 26)) (.slice av l.length cap) l who cur amt at0 hv hl
  rw [hw] at wr0
  rw [← hm] at wr0 put ⊢
  have HV := Lib.hid hv
  rw [← hm] at HV
  have HBE := Lib.hid hbe
  clear hcl hn0 hbW h hm hv hw hbe
  go_enter Try.func11, Try.ntmps11
  go_wp2_with fail
  refine wr0.mono ?_
  clear wr0
  rintro e w1 ⟨rfl, hb1⟩
  obtain ⟨d0, d1, d2, hbe1⟩ := keepK3 hb1 ⟨c0, c1, c2, HBE.out⟩
  have put1 := put w1 (HV.out.mono hb1)
  have HBE1 := Lib.hid hbe1
  clear hb1 c0 c1 c2 hbe1 put
  go_wp2_with fail
  refine put1.mono ?_
  clear put1
  rintro e w2 ⟨a, n, c, rfl, ho, hb2⟩
  have HO := Lib.hid ho
  clear ho
  go_wp2_with fail
  go_ret2
  exact ⟨a, n, c, rfl, HO.out.base HBE1.out.size, HBE1.out.trans (hb2.mono HBE1.out.size)⟩

theorem ask1 (w : World) : Calls Try.prog 11 #[.slice none 0 0, .agg #[.int .i64 1, .int .i64 0, .int .i64 50], .int .i64 7] w (AskPost w [⟨1, 0, 50, 7⟩]) :=
  Ask_of w _ [] [⟨1, 0, 50, 7⟩] 1 0 50 7 (Rs.nil CT.len w) (by decide) (by decide) (fun w1 h => put_nil w1 _ 1 0 50 7 h (by decide))
theorem ask2 (w : World) (v : Value) (h : Cs w v [⟨1, 0, 50, 7⟩]) : Calls Try.prog 11 #[v, .agg #[.int .i64 1, .int .i64 0, .int .i64 80], .int .i64 9] w (AskPost w [⟨1, 0, 80, 7⟩]) := by
  refine Ask_of w v [⟨1, 0, 50, 7⟩] [⟨1, 0, 80, 7⟩] 1 0 80 9 h (by decide) (by decide) (fun w1 h => ?_)
  refine (put_set w1 _ [⟨1, 0, 50, 7⟩] 1 0 80 9 h (by decide) ?_ ?_ (by decide)).mono ?_
  · intro p q hq hpq
    have hp : p = 0 := by simp at hq; omega
    have hq' : q = 0 := by simp at hq; omega
    subst hp hq'
    exact fun h => h
  · intro i hf
    have hi : i = 0 := by
      rcases i with _ | i
      · rfl
      · exfalso
        have := hf.2.1 0 (by decide) (by omega)
        revert this
        decide
    subst hi
    exact ⟨by decide, by decide⟩
  · rintro e w' ⟨a, n, c, i, hi, hf, rfl, ho, hb⟩
    have hi0 : i = 0 := by simp at hi; exact hi
    subst hi0
    exact ⟨a, n, c, rfl, ho, hb⟩
theorem wakes18_any (w : World) : Calls Try.prog 10 #[] w fun e w' => e = .returned (.bool true) ∧ Below w.heap.size w w' := by
  go_enter Try.func10, Try.ntmps10
  go_wp2_with fail
  refine (ask1 _).mono ?_
  rintro e w1 ⟨a, n, c, rfl, ho, hb⟩
  have a2 := ask2 w1 (.slice a n c) ho.rs
  have HB := Lib.hid hb
  clear ho hb
  go_wp2_with fail
  refine a2.mono ?_
  clear a2
  rintro e w2 ⟨a, n, c, rfl, ho, hb⟩
  obtain rfl : n = 1 := by
    obtain ⟨_, _, e9, _, _⟩ := ho.rs.shape
    simp only [Value.slice.injEq] at e9
    exact e9.2.1
  obtain ⟨bl, off, rfl, _, hc⟩ := Cs.at4 ho.rs (by decide)
  obtain ⟨h0, h1, h2, h3⟩ := hc 0 (by decide)
  simp only [Nat.zero_mul, Nat.add_zero, List.getElem_cons_zero] at h0 h1 h2 h3
  have HB2 := Lib.hid (HB.out.trans (hb.mono HB.out.size))
  clear hc ho hb HB
  go_wp2_with fail
  go_ret
  exact ⟨rfl, HB2.out⟩
end Cam
