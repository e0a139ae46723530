import Derived.Test.YteabnccmomdnpaaClB
import Derived.WalkSpells
/- slices.Clone, slices.Insert (at the end) over calls. -/
namespace Cam
open Go Go.RowKit Go.Proofs

def ClonePost (w : World) (l : List CT) (e : Ending) (w' : World) : Prop := ∃ a n c, e = .returned (.slice a n c) ∧ OwnC w' w.heap.size (.slice a n c) l ∧ Below w.heap.size w w'
theorem Cs.none_nil {w : World} {n c : Nat} {l : List CT} (h : Cs w (.slice none n c) l) : l = [] := by
  obtain ⟨he, hl, a, cap, hv, hle, _, hn, _⟩ := h
  cases hv
  have h0 := hn rfl
  cases l with
  | nil => rfl
  | cons c l =>
    simp only [List.length_cons] at hle
    omega
theorem OwnC.lit0 (w : World) (base : Nat) (hb : base ≤ w.heap.size) : OwnC (w.alloc (.cells #[] 28)) base (.slice (some ⟨w.heap.size, 0, none⟩) 0 0) [] :=
  ⟨CT.len, World.ownsRow_lit w #[] 0 hb (by simp [maxLen]) rfl⟩
set_option maxHeartbeats 800000 in
theorem Clone_any (w : World) (v : Value) (l : List CT) (h : Cs w v l) (hl : l.length ≤ 100000) :
    Calls Try.prog 38 #[v] w (ClonePost w l) := by
  obtain ⟨av, cap, rfl, hcap, hm⟩ := h.shape
  have q22 : ∀ (w : World) (a : Option Addr) (n c n' c' : Nat), (binOp .eql 22 (.slice a n c) (.slice none n' c')).run Try.prog w = .ok (.bool a.isNone) w := fun w a n c n' c' => Lib.run_eql_slice_nil w _ _ a n c n' c' Try.underlying22
  cases av with
  | none =>
    obtain rfl := Cs.none_nil h
    go_enter Try.func38, Try.ntmps38
    go_wp2_with fail
    go_ret
    exact ⟨none, 0, 0, rfl, OwnR.empty CT.len _ _ _, Below.refl _ _⟩
  | some ad =>
    have hA := h.alloc (.cells #[] 28)
    have h0 := OwnC.lit0 w w.heap.size (Nat.le_refl _)
    have hle : (([] : List CT).length + l.length) * 32 ≤ 140737488355328 := by simp; omega
    go_enter Try.func38, Try.ntmps38
    go_wp2_with (first
      | (at_builtin; refine wpList_append_rows (v := .slice (some ⟨w.heap.size, 0, none⟩) 0 0) rfl (.tmp 5) (.tmp 6) 22 rfl (L := []) (M := l) (base := w.heap.size) elem_call rfl rfl h0 hA CT.one hle (by decide) (by simp) ?_; intro a7 n7 c7 w7 Hn7 ho7 hg7 hat7 hb7)
      | fail)
    go_ret
    exact ⟨a7, n7, c7, rfl, ho7, ((Below.refl _ _).alloc (Nat.le_refl _) _).trans hb7⟩

def InsPost (w : World) (base : Nat) (l : List CT) (e : Ending) (w' : World) : Prop := ∃ a n c, e = .returned (.slice a n c) ∧ OwnC w' base (.slice a n c) l ∧ Below base w w'
set_option maxHeartbeats 800000 in
theorem InsEnd_any (w : World) (base : Nat) (a : Option Addr) (n c : Nat) (l : List CT) (v2 : Value) (x : CT) (h : OwnC w base (.slice a n c) l) (h2 : Cs w v2 [x]) (hn : n = l.length) (hl : l.length ≤ 100000) (hb : base ≤ w.heap.size) :
    Calls Try.prog 42 #[.slice a n c, .int .i64 n, v2] w (InsPost w base (l ++ [x])) := by
  obtain ⟨a2, c2, rfl, hcap2, hm2⟩ := h2.shape
  obtain ⟨a9, c9, e9, hcap, hm⟩ := h.rs.shape
  simp only [Value.slice.injEq] at e9
  obtain ⟨_, _, rfl⟩ := e9
  have hle : (l.length + [x].length) * 32 ≤ 140737488355328 := by simp; omega
  have hn1 : n ≤ 100000 ∧ n ≤ c := by omega
  have HN := Lib.hid hn
  clear hn hcap
  by_cases hcn : c = n
  · subst hcn
    go_enter Try.func42, Try.ntmps42
    go_wp2_with (first
      | (at_builtin; refine wpList_append_rows (v := .slice a c c) rfl (.tmp 23) (.tmp 24) 22 rfl (L := l) (M := [x]) (base := base) elem_call rfl rfl h h2 CT.one hle (by decide) hb ?_; intro a7 n7 c7 w7 Hn7 ho7 hg7 hat7 hb7)
      | fail)
    go_ret
    exact ⟨a7, n7, c7, rfl, ho7, hb7⟩
  · go_enter Try.func42, Try.ntmps42
    go_wp2_with (first
      | (at_builtin; refine wpList_append_rows (v := .slice a n c) rfl (.tmp 23) (.tmp 24) 22 rfl (L := l) (M := [x]) (base := base) elem_call rfl rfl h h2 CT.one hle (by decide) hb ?_; intro a7 n7 c7 w7 Hn7 ho7 hg7 hat7 hb7)
      | fail)
    go_ret
    exact ⟨a7, n7, c7, rfl, ho7, hb7⟩

end Cam
