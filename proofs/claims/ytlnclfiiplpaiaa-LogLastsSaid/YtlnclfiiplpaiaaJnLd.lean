import Derived.Test.YtlnclfiiplpaiaaKeep
import Derived.Test.YtlnclfiiplpaiaaDkM
import Derived.Test.YtlnclfiiplpaiaaOpenS
/- lives as arguments. -/
namespace Cam
open Go Go.RowKit Go.Proofs Go.ChangeShapes Go.WideShapes Go.ChangeAt

structure LvT where
  snap : List UInt8
  safe : List (List UInt8)
  rest : List (List UInt8)
  arm : Int
  picks : List Int
/-- a life's five cells -/
def LvOk (w : World) (cs : List Value) (x : LvT) : Prop := ∃ v0 v1 v2 v4, cs = [v0, v1, v2, .int .i64 x.arm, v4] ∧ Bs w v0 x.snap ∧ Bss w v1 x.safe ∧ Bss w v2 x.rest ∧ Is w v4 x.picks ∧ x.arm ≤ 9223372036854775807
def Lvs (w : World) (v : Value) (ls : List LvT) : Prop := ∃ css : List (List Value), css.length = ls.length ∧ Sl w v 5 ls.length css.flatten ∧ ∀ i (h : i < css.length) (h' : i < ls.length), LvOk w css[i] ls[i]
theorem LvOk.len {w : World} {cs : List Value} {x : LvT} (h : LvOk w cs x) : cs.length = 5 := by
  obtain ⟨v0, v1, v2, v4, rfl, _⟩ := h
  rfl
theorem Lvs.shape {w : World} {v : Value} {ls : List LvT} (h : Lvs w v ls) : ∃ a c, v = .slice a ls.length c ∧ ls.length ≤ c ∧ c ≤ 9223372036854775807 := by
  obtain ⟨css, h1, h2, h3⟩ := h
  exact Sl.shape h2
theorem Lvs.at {w : World} {a : Option Addr} {n c : Nat} {ls : List LvT} (h : Lvs w (.slice a n c) ls) (hp : 0 < ls.length) :
    ∃ b off, a = some ⟨b, off, none⟩ ∧ b < w.heap.size ∧ ∀ i (hi : i < ls.length), ∃ v0 v1 v2 v4, (∀ j u, [v0, v1, v2, .int .i64 ls[i].arm, v4][j]? = some u → w.cell? ⟨b, off + i * 5 + j, none⟩ = some u) ∧ Bs w v0 ls[i].snap ∧ Bss w v1 ls[i].safe ∧ Bss w v2 ls[i].rest ∧ Is w v4 ls[i].picks ∧ ls[i].arm ≤ 9223372036854775807 := by
  obtain ⟨css, h1, h2, h3⟩ := h
  have h5 : ∀ a ∈ css, (id a).length = 5 := fun a ha => by
    obtain ⟨i, hi, rfl⟩ := List.getElem_of_mem ha
    exact (h3 i hi (by omega)).len
  have hfl : css.flatten = flatW id css := by simp [flatW]
  rw [hfl] at h2
  have hl := flatW_length h5
  obtain ⟨b, off, rfl, hb, hc⟩ := Sl.at h2 (by rw [hl]; omega)
  refine ⟨b, off, rfl, hb, fun i hi => ?_⟩
  obtain ⟨v0, v1, v2, v4, e, k0, k1, k2, k4, k5⟩ := h3 i (by omega) hi
  refine ⟨v0, v1, v2, v4, fun j u hu => ?_, k0, k1, k2, k4, k5⟩
  rw [← e] at hu
  have h9 := flatW_at (f := id) (W := 5) h5 (k := i) (by omega) j u hu
  have h8 := (List.getElem?_eq_some_iff.1 h9)
  obtain ⟨hlt, h8⟩ := h8
  have := hc (i * 5 + j) hlt
  rw [h8, ← Nat.add_assoc] at this
  exact this
theorem lives_of {w : World} : ∀ {css : List (List Value)}, (∀ c ∈ css, ∃ x, LvOk w c x) → ∃ ls : List LvT, css.length = ls.length ∧ ∀ i (h : i < css.length) (h' : i < ls.length), LvOk w css[i] ls[i]
  | [], _ => ⟨[], rfl, fun i h => absurd h (Nat.not_lt_zero _)⟩
  | c :: css, h => by
    obtain ⟨x, hx⟩ := h c (by simp)
    obtain ⟨ls, h1, h2⟩ := lives_of (css := css) (fun c hc => h c (by simp [hc]))
    refine ⟨x :: ls, by simp [h1], fun i a b => ?_⟩
    cases i with
    | zero => exact hx
    | succ i => exact h2 i (by simpa using a) (by simpa using b)
set_option maxRecDepth 100000 in
theorem opens_life : Opens Try.prog 59 (fun w cs => ∃ x, LvOk w cs x) :=
  (Opens.struct (Q := fun i w cs => if i = 0 then ∃ (v : Value) (l : List UInt8), cs = [v] ∧ Bs w v l ∧ l.length ≤ 140737488351232 else if i = 3 then ∃ n, cs = [.int .i64 n] ∧ (Lit.int .i64 n).wf = true else if i = 4 then ∃ (v : Value) (l : List Int), cs = [v] ∧ l.length * 8 ≤ 140737488351232 ∧ Sl w v 1 l.length (l.map (.int .i64)) ∧ ∀ n ∈ l, (Lit.int .i64 n).wf = true
      else ∃ (v : Value) (ls : List (List UInt8)), cs = [v] ∧ ls.length * 24 ≤ 140737488351232 ∧ Bss w v ls ∧ ∀ l ∈ ls, l.length ≤ 140737488351232) Try.underlying59 (by
    intro i f hf
    match i, hf with
    | 0, hf => simp at hf; subst hf; exact Opens.bytes Try.underlying22 Try.underlying5 (by kernel_rfl) (by kernel_rfl)
    | 1, hf => simp at hf; subst hf; exact Opens.rows (bytes := 24) Try.underlying23 Try.underlying22 Try.underlying5 (by kernel_rfl) (by kernel_rfl) (by kernel_rfl) (by kernel_rfl)
    | 2, hf => simp at hf; subst hf; exact Opens.rows (bytes := 24) Try.underlying23 Try.underlying22 Try.underlying5 (by kernel_rfl) (by kernel_rfl) (by kernel_rfl) (by kernel_rfl)
    | 3, hf => simp at hf; subst hf; exact Opens.int Try.underlying3
    | 4, hf => simp at hf; subst hf; exact Opens.ints (bytes := 8) Try.underlying46 Try.underlying3 (by kernel_rfl) (by kernel_rfl)
    | i + 5, hf => simp at hf)).mono fun w cs ⟨hl, hq⟩ => by
    have hc : Try.prog.cellsOf 59 = 5 := by kernel_rfl
    rw [hc] at hl
    match cs, hl with
    | [u0, u1, u2, u3, u4], _ =>
      have h0 := hq 0 _ rfl
      have h1 := hq 1 _ rfl
      have h2 := hq 2 _ rfl
      have h3 := hq 3 _ rfl
      have h4 := hq 4 _ rfl
      obtain ⟨v0, l0, e0, k0, _⟩ : ∃ (v : Value) (l : List UInt8), [u0] = [v] ∧ Bs w v l ∧ l.length ≤ 140737488351232 := h0
      obtain ⟨v1, l1, e1, _, k1, _⟩ : ∃ (v : Value) (ls : List (List UInt8)), [u1] = [v] ∧ ls.length * 24 ≤ 140737488351232 ∧ Bss w v ls ∧ ∀ l ∈ ls, l.length ≤ 140737488351232 := h1
      obtain ⟨v2, l2, e2, _, k2, _⟩ : ∃ (v : Value) (ls : List (List UInt8)), [u2] = [v] ∧ ls.length * 24 ≤ 140737488351232 ∧ Bss w v ls ∧ ∀ l ∈ ls, l.length ≤ 140737488351232 := h2
      obtain ⟨n3, e3, k3⟩ : ∃ n, [u3] = [Value.int .i64 n] ∧ (Lit.int .i64 n).wf = true := h3
      obtain ⟨v4, l4, e4, _, k4, _⟩ : ∃ (v : Value) (l : List Int), [u4] = [v] ∧ l.length * 8 ≤ 140737488351232 ∧ Sl w v 1 l.length (l.map (.int .i64)) ∧ ∀ n ∈ l, (Lit.int .i64 n).wf = true := h4
      simp only [List.cons.injEq, and_true] at e0 e1 e2 e3 e4
      subst e0 e1 e2 e3 e4
      exact ⟨⟨l0, l1, l2, n3, l4⟩, _, _, _, _, rfl, k0, k1, k2, k4, (i64_of_wf k3).2⟩
theorem open_lives {W : World} {v : Value} (h : ArgOk Try.prog W 57 v) : ∃ ls, Lvs W v ls := by
  have h1 := h.single Try.underlying57
  obtain ⟨v', css, h2, _, h4, h5⟩ := h.2 _ (Opens.slice Try.underlying57 (size := 5) (by kernel_rfl) rfl opens_life)
  rw [h1] at h2
  cases h2
  obtain ⟨ls, e1, e2⟩ := lives_of (fun c hc => (h5 c hc).2)
  rw [e1] at h4
  exact ⟨ls, css, e1, h4, e2⟩
end Cam
