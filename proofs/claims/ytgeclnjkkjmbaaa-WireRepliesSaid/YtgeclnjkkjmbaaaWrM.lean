import Derived.Test.YtgeclnjkkjmbaaaWrW
/- pack.Writer: Mark, Text, Bytes. -/
namespace Cam
open Go Go.RowKit Go.Proofs
variable {tw : TypeId} {rs : List Value}

def markB (b : Bool) : List UInt8 := if b then [1] else [0]

theorem WMark_any (w : World) (g : Nat) (v : Value) (l : List UInt8) (lg b : Bool) (hp : PW tw rs w g v l lg) (hlen : l.length ≤ 70368744177664) :
    Calls Try.prog 110 #[.pointer (some ⟨g, 0, none⟩), .bool b] w fun e w' => e = .returned (.tuple #[]) ∧ PWPost tw rs w g v (l ++ markB b) lg w' := by
  obtain ⟨a2, n2, c2, hv2, Hn2, _⟩ := OwnB.named hp.2
  subst hv2
  have ⟨hc0, hc1, hf0, hf1⟩ := hp.cell
  cases b with
  | true =>
    have hlit : Bs (w.alloc (.cells #[.int .u8 1] 5)) (.slice (some ⟨w.heap.size, 0, none⟩) 1 1) [1] := Bs.block (l := [1]) (heap_new rfl) (Nat.le_refl _) (by simp [maxLen])
    go_enter Try.func110, Try.ntmps110
    go_wp2_with (first | (at_builtin; refine wpList_append_bytes_at (v := .slice a2 n2 c2) rfl (.tmp 9) (.tmp 10) 25 rfl (m := [1]) elem_byte rfl rfl (hp.alloc _).2 hlit (by simp; omega) (by have := hp.lt; simp; omega) ?_; intro a' n' c' w' Hn' ho' hg' hat'; obtain ⟨⟨hcell, hfz⟩, hpw3, hk3, hown3⟩ := PW.step _ hp (Kept.refl _ _) (fun k hk => .inl hk) hg' ho' hat'.out))
    go_end0
    exact ⟨rfl, _, hpw3, hk3, hown3⟩
  | false =>
    have hlit : Bs (w.alloc (.cells #[.int .u8 0] 5)) (.slice (some ⟨w.heap.size, 0, none⟩) 1 1) [0] := Bs.block (l := [0]) (heap_new rfl) (Nat.le_refl _) (by simp [maxLen])
    go_enter Try.func110, Try.ntmps110
    go_wp2_with (first | (at_builtin; refine wpList_append_bytes_at (v := .slice a2 n2 c2) rfl (.tmp 18) (.tmp 19) 25 rfl (m := [0]) elem_byte rfl rfl (hp.alloc _).2 hlit (by simp; omega) (by have := hp.lt; simp; omega) ?_; intro a' n' c' w' Hn' ho' hg' hat'; obtain ⟨⟨hcell, hfz⟩, hpw3, hk3, hown3⟩ := PW.step _ hp (Kept.refl _ _) (fun k hk => .inl hk) hg' ho' hat'.out))
    go_end0
    exact ⟨rfl, _, hpw3, hk3, hown3⟩

theorem OwnB.lit0 {w : World} {g : Nat} (hg : g = w.heap.size) : OwnB 5 (w.alloc (.cells #[] 5)) w.heap.size (.slice (some ⟨g, 0, none⟩) 0 0) [] := by
  refine ⟨rfl, Or.inr ⟨g, 0, #[], rfl, by omega, heap_new hg, Nat.le_refl _, by simp [maxLen], rfl, rfl⟩⟩

/-- the bytes, copied; a text was not too long -/
theorem WBytes_ok (w : World) (g : Nat) (v : Value) (l : List UInt8) (hp : PW tw rs w g v l false) (hlen : l.length ≤ 70368744177664) :
    Calls Try.prog 48 #[.pointer (some ⟨g, 0, none⟩)] w fun e w' => (∃ r, e = .returned (.tuple #[r, .int .i64 0]) ∧ OwnB 5 w' w.heap.size r l) ∧ Below w.heap.size w w' := by
  obtain ⟨a2, n2, c2, hv2, Hn2, _⟩ := OwnB.named hp.2
  subst hv2
  have ⟨_, hc1, _, _⟩ := hp.cell
  have ⟨hd0, _, _, _⟩ := (hp.alloc (.cells #[] 5)).cell
  go_enter Try.func48, Try.ntmps48
  go_wp2_with (first | (at_builtin; refine wpList_append_bytes rfl (.tmp 8) (.tmp 12) 25 rfl (l := []) (m := l) (base := w.heap.size) elem_byte rfl rfl (OwnB.lit0 rfl) (OwnB.alloc hp.2 _).bs (by simp; omega) (by simp) ?_; intro a' n' c' w' Hn' ho' hb' hg'))
  go_ret2
  exact ⟨⟨_, rfl, ho'⟩, ((Below.refl _ _).alloc (Nat.le_refl _) _).trans hb'⟩

theorem WBytes_no (w : World) (g : Nat) (v : Value) (l : List UInt8) (hp : PW tw rs w g v l true) :
    Calls Try.prog 48 #[.pointer (some ⟨g, 0, none⟩)] w fun e w' => e = .returned (.tuple #[.slice none 0 0, .int .i64 5]) ∧ w' = w := by
  have ⟨hc0, hc1, hf0, hf1⟩ := hp.cell
  go_enter Try.func48, Try.ntmps48
  go_wp2_with fail
  go_ret2
  exact ⟨rfl, rfl⟩

theorem Kept.heap {S : Nat → Prop} {w w' : World} (h : Kept S w w') {k : Nat} {o : Obj} (ho : w.heap[k]? = some o) (hk : ¬ S k) : w'.heap[k]? = some o := (h.block k (Array.getElem?_eq_some_iff.1 ho).1 hk).trans ho


theorem PWPost.of_box {w w' : World} {g : Nat} {v : Value} {l : List UInt8} {lg : Bool} (o : Obj) (h : PWPost tw rs (w.alloc o) g v l lg w') : PWPost tw rs w g v l lg w' := by
  obtain ⟨v', h1, h2, h3⟩ := h
  refine ⟨v', h1, ((Kept.refl _ w).alloc o).trans h2 (fun _ _ h => h), fun k hk => ?_⟩
  rcases h3 k hk with e | e
  · exact .inl e
  · simp at e
    exact .inr (by omega)

end Cam
