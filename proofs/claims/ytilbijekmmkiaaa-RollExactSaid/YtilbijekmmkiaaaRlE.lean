import Derived.Test.YtilbijekmmkiaaaRlD
import Derived.WalkSpells
/- slices.Clone, slices.Insert (at the end) over rows of a roll. -/
namespace Cam
open Go Go.RowKit Go.Proofs
def RowsPost {α : Type} (enc : α → List Value) (K : Nat) (t : TypeId) (w : World) (base : Nat) (S : Nat → Prop) (L : List α) (e : Ending) (w' : World) : Prop := ∃ a n c, e = .returned (.slice a n c) ∧ OwnR enc K t w' base (.slice a n c) L ∧ Below base w w' ∧ Kept S w w'
theorem Rs.none_nil {α : Type} {enc : α → List Value} {K : Nat} {w : World} {n c : Nat} {l : List α} (h : Rs enc K w (.slice none n c) l) : l = [] := by
 obtain ⟨he, hl, a, cap, hv, hle, _, hn, _⟩ := h
 cases hv
 have h0 := hn rfl
 cases l with
 | nil => rfl
 | cons c l =>
  simp only [List.length_cons] at hle
  omega
theorem OwnR.lit0 {α : Type} {enc : α → List Value} {K : Nat} (he : ∀ a, (enc a).length = K) (t : TypeId) (w : World) (base : Nat) (hb : base ≤ w.heap.size) : OwnR enc K t (w.alloc (.cells #[] t)) base (.slice (some ⟨w.heap.size, 0, none⟩) 0 0) ([] : List α) :=
 ⟨he, World.ownsRow_lit w #[] 0 hb (by simp [maxLen]) (by simp)⟩
set_option maxHeartbeats 800000 in
theorem CloneM_any (w : World) (v : Value) (l : List MbT) (h : Rs MbT.vs 3 w v l) (hl : l.length ≤ 100000) :
  Calls Try.prog 69 #[v] w (RowsPost MbT.vs 3 33 w w.heap.size (fun _ => False) l) := by
 obtain ⟨av, cap, rfl, hcap, hm⟩ := h.shape
 have q22 : ∀ (w : World) (a : Option Addr) (n c n' c' : Nat), (binOp .eql 22 (.slice a n c) (.slice none n' c')).run Try.prog w = .ok (.bool a.isNone) w := fun w a n c n' c' => Lib.run_eql_slice_nil w _ _ a n c n' c' Try.underlying22
 cases av with
 | none =>
  obtain rfl := Rs.none_nil h
  go_enter Try.func69, Try.ntmps69
  go_wp2_with fail
  go_ret
  exact ⟨none, 0, 0, rfl, OwnR.empty MbT.len _ _ _, Below.refl _ _, Kept.refl _ _⟩
 | some ad =>
  have hA := h.alloc (.cells #[] 33)
  have h0 := OwnR.lit0 MbT.len 33 w w.heap.size (Nat.le_refl _)
  have hle : (([] : List MbT).length + l.length) * 24 ≤ 140737488355328 := by simp; omega
  go_enter Try.func69, Try.ntmps69
  go_wp2_with (first
   | (at_builtin; refine wpList_append_rows (v := .slice (some ⟨w.heap.size, 0, none⟩) 0 0) rfl (.tmp 5) (.tmp 6) 22 rfl (L := []) (M := l) (base := w.heap.size) elem_mem rfl rfl h0 hA MbT.one hle (by decide) (by simp) ?_; intro a7 n7 c7 w7 Hn7 ho7 hg7 hat7 hb7)
   | fail)
  go_ret
  have hbb : Below w.heap.size w w7 := ((Below.refl _ _).alloc (Nat.le_refl _) _).trans hb7
  exact ⟨a7, n7, c7, rfl, ho7, hbb, Kept.of_below hbb⟩
set_option maxHeartbeats 800000 in
theorem InsEndM_any (w : World) (base : Nat) (a : Option Addr) (n c : Nat) (l : List MbT) (v2 : Value) (x : MbT) (h : OwnR MbT.vs 3 33 w base (.slice a n c) l) (h2 : Rs MbT.vs 3 w v2 [x]) (hn : n = l.length) (hl : l.length ≤ 100000) (hb : base ≤ w.heap.size) :
  Calls Try.prog 73 #[.slice a n c, .int .i64 n, v2] w (RowsPost MbT.vs 3 33 w base (fun k => (Value.slice a n c).ownBlock = some k) (l ++ [x])) := by
 obtain ⟨a2, c2, rfl, hcap2, hm2⟩ := h2.shape
 obtain ⟨a9, c9, e9, hcap, hm⟩ := h.rs.shape
 simp only [Value.slice.injEq] at e9
 obtain ⟨_, _, rfl⟩ := e9
 have hle : (l.length + [x].length) * 24 ≤ 140737488355328 := by simp; omega
 have hn1 : n ≤ 100000 ∧ n ≤ c := by omega
 have HN := Lib.hid hn
 clear hn hcap
 by_cases hcn : c = n
 ·
  subst hcn
  go_enter Try.func73, Try.ntmps73
  go_wp2_with (first
   | (at_builtin; refine wpList_append_rows (v := .slice a c c) rfl (.tmp 23) (.tmp 24) 22 rfl (L := l) (M := [x]) (base := base) elem_mem rfl rfl h h2 MbT.one hle (by decide) hb ?_; intro a7 n7 c7 w7 Hn7 ho7 hg7 hat7 hb7)
   | fail)
  go_ret
  exact ⟨a7, n7, c7, rfl, ho7, hb7, (Kept.of_grown hg7).weaken (fun k h => h)⟩
 ·
  go_enter Try.func73, Try.ntmps73
  go_wp2_with (first
   | (at_builtin; refine wpList_append_rows (v := .slice a n c) rfl (.tmp 23) (.tmp 24) 22 rfl (L := l) (M := [x]) (base := base) elem_mem rfl rfl h h2 MbT.one hle (by decide) hb ?_; intro a7 n7 c7 w7 Hn7 ho7 hg7 hat7 hb7)
   | fail)
  go_ret
  exact ⟨a7, n7, c7, rfl, ho7, hb7, (Kept.of_grown hg7).weaken (fun k h => h)⟩
set_option maxHeartbeats 800000 in
theorem CloneI_any (w : World) (v : Value) (l : List InT) (h : Rs InT.vs 12 w v l) (hl : l.length ≤ 100000) :
  Calls Try.prog 70 #[v] w (RowsPost InT.vs 12 38 w w.heap.size (fun _ => False) l) := by
 obtain ⟨av, cap, rfl, hcap, hm⟩ := h.shape
 have q22 : ∀ (w : World) (a : Option Addr) (n c n' c' : Nat), (binOp .eql 23 (.slice a n c) (.slice none n' c')).run Try.prog w = .ok (.bool a.isNone) w := fun w a n c n' c' => Lib.run_eql_slice_nil w _ _ a n c n' c' Try.underlying23
 cases av with
 | none =>
  obtain rfl := Rs.none_nil h
  go_enter Try.func70, Try.ntmps70
  go_wp2_with fail
  go_ret
  exact ⟨none, 0, 0, rfl, OwnR.empty InT.len _ _ _, Below.refl _ _, Kept.refl _ _⟩
 | some ad =>
  have hA := h.alloc (.cells #[] 38)
  have h0 := OwnR.lit0 InT.len 38 w w.heap.size (Nat.le_refl _)
  have hle : (([] : List InT).length + l.length) * 96 ≤ 140737488355328 := by simp; omega
  go_enter Try.func70, Try.ntmps70
  go_wp2_with (first
   | (at_builtin; refine wpList_append_rows (v := .slice (some ⟨w.heap.size, 0, none⟩) 0 0) rfl (.tmp 5) (.tmp 6) 23 rfl (L := []) (M := l) (base := w.heap.size) elem_ins rfl rfl h0 hA InT.one hle (by decide) (by simp) ?_; intro a7 n7 c7 w7 Hn7 ho7 hg7 hat7 hb7)
   | fail)
  go_ret
  have hbb : Below w.heap.size w w7 := ((Below.refl _ _).alloc (Nat.le_refl _) _).trans hb7
  exact ⟨a7, n7, c7, rfl, ho7, hbb, Kept.of_below hbb⟩
set_option maxHeartbeats 800000 in
theorem InsEndI_any (w : World) (base : Nat) (a : Option Addr) (n c : Nat) (l : List InT) (v2 : Value) (x : InT) (h : OwnR InT.vs 12 38 w base (.slice a n c) l) (h2 : Rs InT.vs 12 w v2 [x]) (hn : n = l.length) (hl : l.length ≤ 100000) (hb : base ≤ w.heap.size) :
  Calls Try.prog 74 #[.slice a n c, .int .i64 n, v2] w (RowsPost InT.vs 12 38 w base (fun k => (Value.slice a n c).ownBlock = some k) (l ++ [x])) := by
 obtain ⟨a2, c2, rfl, hcap2, hm2⟩ := h2.shape
 obtain ⟨a9, c9, e9, hcap, hm⟩ := h.rs.shape
 simp only [Value.slice.injEq] at e9
 obtain ⟨_, _, rfl⟩ := e9
 have hle : (l.length + [x].length) * 96 ≤ 140737488355328 := by simp; omega
 have hn1 : n ≤ 100000 ∧ n ≤ c := by omega
 have HN := Lib.hid hn
 clear hn hcap
 by_cases hcn : c = n
 ·
  subst hcn
  go_enter Try.func74, Try.ntmps74
  go_wp2_with (first
   | (at_builtin; refine wpList_append_rows (v := .slice a c c) rfl (.tmp 23) (.tmp 24) 23 rfl (L := l) (M := [x]) (base := base) elem_ins rfl rfl h h2 InT.one hle (by decide) hb ?_; intro a7 n7 c7 w7 Hn7 ho7 hg7 hat7 hb7)
   | fail)
  go_ret
  exact ⟨a7, n7, c7, rfl, ho7, hb7, (Kept.of_grown hg7).weaken (fun k h => h)⟩
 ·
  go_enter Try.func74, Try.ntmps74
  go_wp2_with (first
   | (at_builtin; refine wpList_append_rows (v := .slice a n c) rfl (.tmp 23) (.tmp 24) 23 rfl (L := l) (M := [x]) (base := base) elem_ins rfl rfl h h2 InT.one hle (by decide) hb ?_; intro a7 n7 c7 w7 Hn7 ho7 hg7 hat7 hb7)
   | fail)
  go_ret
  exact ⟨a7, n7, c7, rfl, ho7, hb7, (Kept.of_grown hg7).weaken (fun k h => h)⟩
set_option maxHeartbeats 800000 in
theorem CloneA_any (w : World) (v : Value) (l : List AsT) (h : Rs AsT.vs 4 w v l) (hl : l.length ≤ 100000) :
  Calls Try.prog 71 #[v] w (RowsPost AsT.vs 4 42 w w.heap.size (fun _ => False) l) := by
 obtain ⟨av, cap, rfl, hcap, hm⟩ := h.shape
 have q22 : ∀ (w : World) (a : Option Addr) (n c n' c' : Nat), (binOp .eql 24 (.slice a n c) (.slice none n' c')).run Try.prog w = .ok (.bool a.isNone) w := fun w a n c n' c' => Lib.run_eql_slice_nil w _ _ a n c n' c' Try.underlying24
 cases av with
 | none =>
  obtain rfl := Rs.none_nil h
  go_enter Try.func71, Try.ntmps71
  go_wp2_with fail
  go_ret
  exact ⟨none, 0, 0, rfl, OwnR.empty AsT.len _ _ _, Below.refl _ _, Kept.refl _ _⟩
 | some ad =>
  have hA := h.alloc (.cells #[] 42)
  have h0 := OwnR.lit0 AsT.len 42 w w.heap.size (Nat.le_refl _)
  have hle : (([] : List AsT).length + l.length) * 32 ≤ 140737488355328 := by simp; omega
  go_enter Try.func71, Try.ntmps71
  go_wp2_with (first
   | (at_builtin; refine wpList_append_rows (v := .slice (some ⟨w.heap.size, 0, none⟩) 0 0) rfl (.tmp 5) (.tmp 6) 24 rfl (L := []) (M := l) (base := w.heap.size) elem_ass rfl rfl h0 hA AsT.one hle (by decide) (by simp) ?_; intro a7 n7 c7 w7 Hn7 ho7 hg7 hat7 hb7)
   | fail)
  go_ret
  have hbb : Below w.heap.size w w7 := ((Below.refl _ _).alloc (Nat.le_refl _) _).trans hb7
  exact ⟨a7, n7, c7, rfl, ho7, hbb, Kept.of_below hbb⟩
set_option maxHeartbeats 800000 in
theorem InsEndA_any (w : World) (base : Nat) (a : Option Addr) (n c : Nat) (l : List AsT) (v2 : Value) (x : AsT) (h : OwnR AsT.vs 4 42 w base (.slice a n c) l) (h2 : Rs AsT.vs 4 w v2 [x]) (hn : n = l.length) (hl : l.length ≤ 100000) (hb : base ≤ w.heap.size) :
  Calls Try.prog 75 #[.slice a n c, .int .i64 n, v2] w (RowsPost AsT.vs 4 42 w base (fun k => (Value.slice a n c).ownBlock = some k) (l ++ [x])) := by
 obtain ⟨a2, c2, rfl, hcap2, hm2⟩ := h2.shape
 obtain ⟨a9, c9, e9, hcap, hm⟩ := h.rs.shape
 simp only [Value.slice.injEq] at e9
 obtain ⟨_, _, rfl⟩ := e9
 have hle : (l.length + [x].length) * 32 ≤ 140737488355328 := by simp; omega
 have hn1 : n ≤ 100000 ∧ n ≤ c := by omega
 have HN := Lib.hid hn
 clear hn hcap
 by_cases hcn : c = n
 ·
  subst hcn
  go_enter Try.func75, Try.ntmps75
  go_wp2_with (first
   | (at_builtin; refine wpList_append_rows (v := .slice a c c) rfl (.tmp 23) (.tmp 24) 24 rfl (L := l) (M := [x]) (base := base) elem_ass rfl rfl h h2 AsT.one hle (by decide) hb ?_; intro a7 n7 c7 w7 Hn7 ho7 hg7 hat7 hb7)
   | fail)
  go_ret
  exact ⟨a7, n7, c7, rfl, ho7, hb7, (Kept.of_grown hg7).weaken (fun k h => h)⟩
 ·
  go_enter Try.func75, Try.ntmps75
  go_wp2_with (first
   | (at_builtin; refine wpList_append_rows (v := .slice a n c) rfl (.tmp 23) (.tmp 24) 24 rfl (L := l) (M := [x]) (base := base) elem_ass rfl rfl h h2 AsT.one hle (by decide) hb ?_; intro a7 n7 c7 w7 Hn7 ho7 hg7 hat7 hb7)
   | fail)
  go_ret
  exact ⟨a7, n7, c7, rfl, ho7, hb7, (Kept.of_grown hg7).weaken (fun k h => h)⟩
end Cam
