import Derived.Test.YtlnclfiiplpaiaaKeep
import Derived.Test.YtlnclfiiplpaiaaOpen
/- a []bool argument. -/
namespace Cam
open Go Go.RowKit Go.Proofs Go.ChangeShapes Go.WideShapes Go.ChangeAt

/-- a slice of marks -/
def Ms (w : World) (v : Value) (l : List Bool) : Prop := Sl w v 1 l.length (l.map Value.bool)
theorem marks_of : ∀ {css : List (List Value)}, (∀ c ∈ css, ∃ b, c = [.bool b]) → ∃ l : List Bool, css = l.map fun b => [.bool b]
  | [], _ => ⟨[], rfl⟩
  | c :: css, h => by
    obtain ⟨b, rfl⟩ := h c (by simp)
    obtain ⟨l, rfl⟩ := marks_of (css := css) (fun c hc => h c (by simp [hc]))
    exact ⟨b :: l, rfl⟩
theorem open_marks {W : World} {v : Value} (h : ArgOk Try.prog W 24 v) : ∃ l, Ms W v l := by
  have h1 := h.single Try.underlying24
  obtain ⟨v', css, h2, _, h4, h5⟩ := h.2 _ (Opens.slice (bytes := 1) Try.underlying24 (by kernel_rfl) (by kernel_rfl) (Opens.bool Try.underlying4))
  rw [h1] at h2
  cases h2
  obtain ⟨l, rfl⟩ := marks_of (fun c hc => (h5 c hc).2)
  rw [flatten_single] at h4
  exact ⟨l, by simpa [Ms] using h4⟩
theorem Ms.at {w : World} {a : Option Addr} {len cap : Nat} {l : List Bool} (h : Ms w (.slice a len cap) l) (hp : 0 < l.length) :
    ∃ b off, a = some ⟨b, off, none⟩ ∧ b < w.heap.size ∧ ∀ i (hi : i < l.length), w.cell? ⟨b, off + i, none⟩ = some (.bool l[i]) := by
  obtain ⟨b, off, e, h1, h2⟩ := Sl.at h (by simpa using hp)
  refine ⟨b, off, e, h1, fun i hi => ?_⟩
  have := h2 i (by simpa using hi)
  simpa using this
theorem Ms.mono {w w' : World} {v : Value} {l : List Bool} (h : Ms w v l) (hb : Below w.heap.size w w') : Ms w' v l := Sl.mono h hb
theorem Ms.shape {w : World} {v : Value} {l : List Bool} (h : Ms w v l) : ∃ a c, v = .slice a l.length c ∧ l.length ≤ c ∧ c ≤ 9223372036854775807 := Sl.shape h
end Cam
