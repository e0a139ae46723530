import Derived.Test.YtilbijekmmkiaaaUni
/- an operation of a drawn region taken: its tests in one. -/
namespace Cam
open Go Go.RowKit
section
variable {P : Program} {ops : Array Oper} {Q : Exit → Act → World → Prop} {md : Region.Mode}
def otkB (md : Region.Mode) (ops : Array Oper) (listed : Array Bool) (i s : Nat) : Bool :=
 Region.noSelect ops && (Region.free md ops listed i && ((Region.ready md ops listed).contains i && (closedB md ops listed && (decide (ops.size ≤ s) || waits md ops ops.size s i))))
theorem otk {S0 S : World → Prop} {s : Nat} {i : Nat} {oi : Oper} {v : Value} {fuel : Nat} {listed : Array Bool} {a : Act} (hi : ops[i]? = some oi) (hb : otkB md ops listed i s = true) (hc : Cls S0 S)
  (hy : EffS P ops S0 oi v a) (h : wpAnyU P md ops Q S0 s fuel (listed.setIfInBounds i true) (a.put oi.dst v) S)
  (hQ : ∀ c a w, Q (.panic c) (a.put oi.dst v) w → Q (.panic c) a w := by exact fun _ _ _ h => h) : wpAnyU P md ops Q S0 s (fuel + 1) listed a S := by
 unfold otkB at hb
 simp only [Bool.and_eq_true] at hb
 exact wpAnyU_take hi hb.1 hb.2.1 hb.2.2.1 hb.2.2.2.1 hb.2.2.2.2 hQ hc hy h
theorem otks {S0 S : World → Prop} {s : Nat} {i : Nat} {oi : Oper} {v : Value} {fuel : Nat} {listed : Array Bool} {a : Act} (hi : ops[i]? = some oi) (hb : otkB md ops listed i s = true) (hc : Cls S0 S)
  (hw : Region.wanted oi (yielded ops a.tmps) = true) (he : ∀ w, S0 w → (execOp a.eval oi).run P w = .ok (.value v) w) (h : wpAnyU P md ops Q S0 s fuel (listed.setIfInBounds i true) (a.put oi.dst v) S)
  (hQ : ∀ c a w, Q (.panic c) (a.put oi.dst v) w → Q (.panic c) a w := by exact fun _ _ _ h => h) : wpAnyU P md ops Q S0 s (fuel + 1) listed a S :=
 otk hi hb hc (.inl ⟨hw, fun w hS => EffR.same (he w hS)⟩) h hQ
theorem otku {S0 S : World → Prop} {s : Nat} {i : Nat} {oi : Oper} {fuel : Nat} {listed : Array Bool} {a : Act} (hi : ops[i]? = some oi) (hb : otkB md ops listed i s = true) (hc : Cls S0 S)
  (hw : Region.wanted oi (yielded ops a.tmps) = false) (h : wpAnyU P md ops Q S0 s fuel (listed.setIfInBounds i true) (a.put oi.dst undef) S)
  (hQ : ∀ c a w, Q (.panic c) (a.put oi.dst undef) w → Q (.panic c) a w := by exact fun _ _ _ h => h) : wpAnyU P md ops Q S0 s (fuel + 1) listed a S :=
 otk hi hb hc (.inr ⟨hw, rfl⟩) h hQ
end
end Cam
