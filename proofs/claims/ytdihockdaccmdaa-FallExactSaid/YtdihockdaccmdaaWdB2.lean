import Derived.Test.YtdihockdaccmdaaFall
import Derived.Test.YtdihockdaccmdaaNumS
import Derived.Test.YtdihockdaccmdaaWdM
import Derived.Laws.Rows
import Derived.Laws.Tables
import Derived.Laws.ResultCell
import Derived.Deep.RegionHeld3
/- what the references to wides need (cut by program) -/
namespace Cam
open Go Go.RowKit Go.Proofs

/-- a wide as a value -/
def wideV (v : Int) : Value := .agg #[.int .i64 (wHi v), .int .u64 (wLo v)]

theorem IsW.val {hi lo v : Int} (h : IsW hi lo v) : wideV v = .agg #[.int .i64 hi, .int .u64 lo] := by
  unfold wideV
  rw [h.words.1, h.words.2]

theorem wide_one (a b : Int) : (#[.int .i64 a, .int .u64 b] : Array Value).all (·.oneCell') = true := by simp [Value.oneCell']

theorem wideSize : (Try.prog.info? 63).map (·.size) = some 2 := by kernel_rfl

def wideZ : Array Value := #[.int .i64 0, .int .u64 0]

theorem keepL {W w1 : World} {x : Value} {p : Addr} (hb : Below W.heap.size W w1) (h : W.cell? p = some x) : w1.cell? p = some x := (hb.cell (World.block_lt_of_cell? W _ h)).trans h

theorem keep2 {W w1 : World} {g : Nat} {x y : Value} (hb : Below W.heap.size W w1) (h : W.cell? ⟨g, 0, none⟩ = some x ∧ W.cell? ⟨g, 1, none⟩ = some y) : w1.cell? ⟨g, 0, none⟩ = some x ∧ w1.cell? ⟨g, 1, none⟩ = some y :=
  ⟨(hb.cell (World.block_lt_of_cell? W _ h.1)).trans h.1, (hb.cell (World.block_lt_of_cell? W _ h.2)).trans h.2⟩

theorem nextB {B : Nat} {w w1 w2 : World} (h : Below B w w1) (h2 : Below w1.heap.size w1 w2) (hB : B ≤ w1.heap.size) : Below B w w2 := h.trans (h2.mono hB)

theorem Ws.lit1 {w : World} {g : Nat} (hg : g = w.heap.size) (n a b : Int) (hn : IsW a b n) (e : TypeId) : Ws (w.alloc (.cells #[.int .i64 a, .int .u64 b] e)) (.slice (some ⟨g, 0, none⟩) 1 1) [n] := by
  refine Ws.block (l := [n]) (fr := (0, 0)) (e := e) ?_ (Nat.le_refl _) (by simp [maxLen])
  simp only [wcells, hn.words.1, hn.words.2]
  exact heap_new hg

theorem elem_wide : Elem Try.prog 61 63 2 16 := Elem.mk' (z := .agg #[.int .i64 0, .int .u64 0]) Try.underlying61 (by kernel_rfl) rfl (by decide)

end Cam
