import Derived.Test.YtdenijpdkfnjeaaMemA
/- Slices that a call leaves as they are. No program in sight. (Seat 04 has these in XPkS, XPkG: do not import both.) -/
namespace Cam
open Go Go.RowKit

def inBlock (v : Value) (k : Nat) : Prop := ∃ ad n c, v = .slice (some ad) n c ∧ ad.block = k
theorem Kept.cell {S : Nat → Prop} {w w' : World} (hk : Kept S w w') {p : Addr} {x : Value} (h : w.cell? p = some x) (hp : ¬ S p.block) : w'.cell? p = some x := by
  have hlt := World.block_lt_of_cell? w _ h
  unfold World.cell? at *
  rw [hk.block _ hlt hp]
  exact h
theorem Sl.kept1 {S : Nat → Prop} {w w' : World} {v : Value} {size n : Nat} {cs : List Value} (h : Sl w v size n cs) (hk : Kept S w w') (ha : cs ≠ [] → ∀ k, inBlock v k → ¬ S k) : Sl w' v size n cs := by
  obtain ⟨h0, a, c, rfl, h1, h2, h3, h4⟩ := h
  refine ⟨h0, a, c, rfl, h1, h2, h3, fun ad had i u hu => ?_⟩
  have hc := h4 ad had i u hu
  subst had
  have hb : (ad.add i).block = ad.block := by unfold Addr.add; split <;> rfl
  exact hk.cell hc (by rw [hb]; exact ha (fun e => by subst e; simp at hu) _ ⟨ad, n, c, rfl, rfl⟩)
theorem Sl.inlt {w : World} {v : Value} {size n : Nat} {cs : List Value} (h : Sl w v size n cs) (hn : cs ≠ []) {k : Nat} (hk : inBlock v k) : k < w.heap.size := by
  obtain ⟨h0, a, c, rfl, h1, h2, h3, h4⟩ := h
  obtain ⟨ad, n', c', he, rfl⟩ := hk
  injection he with h5 _ _
  have hp : 0 < cs.length := List.length_pos_iff.2 hn
  have hlt := World.block_lt_of_cell? w _ (h4 ad h5 0 _ (List.getElem?_eq_getElem hp))
  have hb : (ad.add 0).block = ad.block := by unfold Addr.add; split <;> rfl
  rw [hb] at hlt
  exact hlt
theorem Bs.kept1 {S : Nat → Prop} {w w' : World} {v : Value} {l : List UInt8} (h : Bs w v l) (hk : Kept S w w') (ha : l ≠ [] → ∀ k, inBlock v k → ¬ S k) : Bs w' v l := Sl.kept1 h hk (fun hn => ha (fun e => hn (by rw [e]; rfl)))
theorem Is.kept1 {S : Nat → Prop} {w w' : World} {v : Value} {l : List Int} (h : Is w v l) (hk : Kept S w w') (ha : l ≠ [] → ∀ k, inBlock v k → ¬ S k) : Is w' v l := Sl.kept1 h hk (fun hn => ha (fun e => hn (by rw [e]; rfl)))
theorem Bs.inlt {w : World} {v : Value} {l : List UInt8} (h : Bs w v l) (hn : l ≠ []) {k : Nat} (hk : inBlock v k) : k < w.heap.size := Sl.inlt h (by cases l; exact absurd rfl hn; simp) hk
theorem Is.inlt {w : World} {v : Value} {l : List Int} (h : Is w v l) (hn : l ≠ []) {k : Nat} (hk : inBlock v k) : k < w.heap.size := Sl.inlt h (by cases l; exact absurd rfl hn; simp) hk

end Cam
