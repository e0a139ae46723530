/-
  No cell of these rows narrows 'for every input' (looked for: loops, veiled, ifaces, maps, wideKeys, modest, calm, conditions, laid).
  DERIVED. THE GIVEN ROWS OF THIS SEAT. 5 by the template 'for every input the law returns true; each argument reads behind the call as it read before'; 0 by the template 'total and deterministic' (their statements: YtdihockdaccmdaaTotals.lean).
  GIVEN WITH THE SEED: the statements are not yours to turn. If you find one false, say at which input.
  Laid BY PROGRAM, IN A SANDBOX (cutbox-rows.mjs): the forced cells as the released guide's own fill.sh prints them over the translation efd12f36a83df162… (all of the seat's roots in one cut). By AI agents, Wed Nov 11 2026. No macro, syntax, notation, axiom, sorry.
-/
import Derived.Test.YtdihockdaccmdaaChecked
import GoSem.Claim
import GoSem.ClaimJoined
import GoSem.ClaimMapViews
import Derived.JoinedTies
import Derived.KernelRfl
namespace Go.Proofs.Ytdihockdaccmdaa
/- THE CELL 'sum', in the pinned program and in every row, IS THE sha256 OF THE DUMP (.gsa) THAT YtdihockdaccmdaaProg.lean LOADS. Nothing in Lean hashes anything: it is a label: what it is worth is what the hold of that sum in a sandbox is worth. -/
noncomputable def Try.pinned : Pinned := { name := "ytdihockdaccmdaa", sum := "efd12f36a83df162b1016dcc02bb403ca974976dd3215e15a8e3d45465bbb453", checked := Try.checked }
namespace Rows
def none {H : Type} : Left H := { results := [], args := [] }

/-- 'cambistlaw20.FallGreedy': WHATEVER THE INPUT: true; the input reads as it did. -/
def fallGreedySpec : ChangeSpec := { name := "fallGreedy", fn := fun _ => fun
  | [d1, d2, d3] => { results := [.lit (.bool true)], args := [d1, d2, d3] }
  | _ => none }
def fallGreedyRow : OpenClaim := { program := "ytdihockdaccmdaa", sum := "efd12f36a83df162b1016dcc02bb403ca974976dd3215e15a8e3d45465bbb453", func := "cambist/cambistlaw20.FallGreedy", spec := "fallGreedy", apart := false }
def FallGreedySaid : Prop := fallGreedyRow.holds Try.pinned (OpenSpec.ofChange fallGreedySpec)

/-- ITS FALSE NEIGHBOUR: 'it returns false'. Refute it at one input. -/
def fallGreedyWrong : ChangeSpec := { name := "fallGreedy", fn := fun _ => fun
  | [d1, d2, d3] => { results := [.lit (.bool false)], args := [d1, d2, d3] }
  | _ => none }
def FallGreedyWrongFalsely : Prop := fallGreedyRow.holds Try.pinned (OpenSpec.ofChange fallGreedyWrong)

/-- 'cambistlaw20.FallOnly': WHATEVER THE INPUT: true; the input reads as it did. -/
def fallOnlySpec : ChangeSpec := { name := "fallOnly", fn := fun _ => fun
  | [d1, d2, d3, d4, d5] => { results := [.lit (.bool true)], args := [d1, d2, d3, d4, d5] }
  | _ => none }
def fallOnlyRow : OpenClaim := { program := "ytdihockdaccmdaa", sum := "efd12f36a83df162b1016dcc02bb403ca974976dd3215e15a8e3d45465bbb453", func := "cambist/cambistlaw20.FallOnly", spec := "fallOnly", apart := false }
def FallOnlySaid : Prop := fallOnlyRow.holds Try.pinned (OpenSpec.ofChange fallOnlySpec)

/-- ITS FALSE NEIGHBOUR: 'it returns false'. Refute it at one input. -/
def fallOnlyWrong : ChangeSpec := { name := "fallOnly", fn := fun _ => fun
  | [d1, d2, d3, d4, d5] => { results := [.lit (.bool false)], args := [d1, d2, d3, d4, d5] }
  | _ => none }
def FallOnlyWrongFalsely : Prop := fallOnlyRow.holds Try.pinned (OpenSpec.ofChange fallOnlyWrong)

/-- 'cambistlaw20.FallGrows': WHATEVER THE INPUT: true; the input reads as it did. -/
def fallGrowsSpec : ChangeSpec := { name := "fallGrows", fn := fun _ => fun
  | [d1, d2, d3, d4, d5, d6] => { results := [.lit (.bool true)], args := [d1, d2, d3, d4, d5, d6] }
  | _ => none }
def fallGrowsRow : OpenClaim := { program := "ytdihockdaccmdaa", sum := "efd12f36a83df162b1016dcc02bb403ca974976dd3215e15a8e3d45465bbb453", func := "cambist/cambistlaw20.FallGrows", spec := "fallGrows", apart := false }
def FallGrowsSaid : Prop := fallGrowsRow.holds Try.pinned (OpenSpec.ofChange fallGrowsSpec)

/-- ITS FALSE NEIGHBOUR: 'it returns false'. Refute it at one input. -/
def fallGrowsWrong : ChangeSpec := { name := "fallGrows", fn := fun _ => fun
  | [d1, d2, d3, d4, d5, d6] => { results := [.lit (.bool false)], args := [d1, d2, d3, d4, d5, d6] }
  | _ => none }
def FallGrowsWrongFalsely : Prop := fallGrowsRow.holds Try.pinned (OpenSpec.ofChange fallGrowsWrong)

/-- 'cambistlaw20.FallExact': WHATEVER THE INPUT: true; the input reads as it did. -/
def fallExactSpec : ChangeSpec := { name := "fallExact", fn := fun _ => fun
  | [d1, d2, d3, d4, d5] => { results := [.lit (.bool true)], args := [d1, d2, d3, d4, d5] }
  | _ => none }
def fallExactRow : OpenClaim := { program := "ytdihockdaccmdaa", sum := "efd12f36a83df162b1016dcc02bb403ca974976dd3215e15a8e3d45465bbb453", func := "cambist/cambistlaw20.FallExact", spec := "fallExact", inPlace := ["math/bits.Add64"], apart := false }
def FallExactSaid : Prop := fallExactRow.holds Try.pinned (OpenSpec.ofChange fallExactSpec)

/-- ITS FALSE NEIGHBOUR: 'it returns false'. Refute it at one input. -/
def fallExactWrong : ChangeSpec := { name := "fallExact", fn := fun _ => fun
  | [d1, d2, d3, d4, d5] => { results := [.lit (.bool false)], args := [d1, d2, d3, d4, d5] }
  | _ => none }
def FallExactWrongFalsely : Prop := fallExactRow.holds Try.pinned (OpenSpec.ofChange fallExactWrong)

/-- 'cambistlaw20.FallParts': WHATEVER THE INPUT: true; the input reads as it did. -/
def fallPartsSpec : ChangeSpec := { name := "fallParts", fn := fun _ => fun
  | [d1, d2, d3, d4] => { results := [.lit (.bool true)], args := [d1, d2, d3, d4] }
  | _ => none }
def fallPartsRow : OpenClaim := { program := "ytdihockdaccmdaa", sum := "efd12f36a83df162b1016dcc02bb403ca974976dd3215e15a8e3d45465bbb453", func := "cambist/cambistlaw20.FallParts", spec := "fallParts", inPlace := ["math/bits.Add64"], apart := false }
def FallPartsSaid : Prop := fallPartsRow.holds Try.pinned (OpenSpec.ofChange fallPartsSpec)

/-- ITS FALSE NEIGHBOUR: 'it returns false'. Refute it at one input. -/
def fallPartsWrong : ChangeSpec := { name := "fallParts", fn := fun _ => fun
  | [d1, d2, d3, d4] => { results := [.lit (.bool false)], args := [d1, d2, d3, d4] }
  | _ => none }
def FallPartsWrongFalsely : Prop := fallPartsRow.holds Try.pinned (OpenSpec.ofChange fallPartsWrong)

/- THE SECOND FORM. 'bulk': how many values and letters a reading holds, each counted each time it is reached (what is shared counts as often as it is met; a slice's spare places count too). A statement '..UptoSaid' is the law's where the arguments, and the package variables that the reading takes, are together of bulk at most 1048576: NARROWER than '..Said'. Prove '..Said' where nothing that the law and all that it calls make is longer than what came in: it says more and counts as full. Else prove '..UptoSaid'. A law counts once. -/
mutual
def uptoBulk {H : Type} : DataW H → Nat
  | .lit (.string bytes) => bytes.length + 1
  | .lit _ => 1
  | .nil => 1
  | .ptr d => uptoBulk d + 1
  | .slice elems spare => uptoBulkAll elems + uptoBulkAll spare + 1
  | .agg parts => uptoBulkAll parts + 1
  | .iface _ d => uptoBulk d + 1
  | .map entries => uptoBulkEntries entries + 1
  | .held _ => 1
def uptoBulkAll {H : Type} : List (DataW H) → Nat
  | [] => 0
  | d :: r => uptoBulk d + uptoBulkAll r
def uptoBulkEntries {H : Type} : List (Lit × DataW H) → Nat
  | [] => 0
  | x :: r => uptoBulkEntry x + uptoBulkEntries r
def uptoBulkEntry {H : Type} : Lit × DataW H → Nat
  | (.string bytes, d) => bytes.length + uptoBulk d + 1
  | (_, d) => uptoBulk d + 1
 end
def uptoSmall : (H : Type) → List (DataW H) → Bool := fun _ ds => decide (uptoBulkAll ds ≤ 1048576)
def OpenSpec.upto (s : _root_.Go.ChangeSpec) : _root_.Go.OpenSpec := { _root_.Go.OpenSpec.ofChange s with cond := some uptoSmall }

/-- 'cambistlaw20.FallGreedy', WHERE WHAT IT READS IS OF BULK AT MOST 1048576: true; the input reads as it did. -/
def fallGreedyUptoRow : OpenClaim := { program := "ytdihockdaccmdaa", sum := "efd12f36a83df162b1016dcc02bb403ca974976dd3215e15a8e3d45465bbb453", func := "cambist/cambistlaw20.FallGreedy", spec := "fallGreedy", apart := false, narrowed := true }
def FallGreedyUptoSaid : Prop := fallGreedyUptoRow.holds Try.pinned (OpenSpec.upto fallGreedySpec)

/-- 'cambistlaw20.FallOnly', WHERE WHAT IT READS IS OF BULK AT MOST 1048576: true; the input reads as it did. -/
def fallOnlyUptoRow : OpenClaim := { program := "ytdihockdaccmdaa", sum := "efd12f36a83df162b1016dcc02bb403ca974976dd3215e15a8e3d45465bbb453", func := "cambist/cambistlaw20.FallOnly", spec := "fallOnly", apart := false, narrowed := true }
def FallOnlyUptoSaid : Prop := fallOnlyUptoRow.holds Try.pinned (OpenSpec.upto fallOnlySpec)

/-- 'cambistlaw20.FallGrows', WHERE WHAT IT READS IS OF BULK AT MOST 1048576: true; the input reads as it did. -/
def fallGrowsUptoRow : OpenClaim := { program := "ytdihockdaccmdaa", sum := "efd12f36a83df162b1016dcc02bb403ca974976dd3215e15a8e3d45465bbb453", func := "cambist/cambistlaw20.FallGrows", spec := "fallGrows", apart := false, narrowed := true }
def FallGrowsUptoSaid : Prop := fallGrowsUptoRow.holds Try.pinned (OpenSpec.upto fallGrowsSpec)

/-- 'cambistlaw20.FallExact', WHERE WHAT IT READS IS OF BULK AT MOST 1048576: true; the input reads as it did. -/
def fallExactUptoRow : OpenClaim := { program := "ytdihockdaccmdaa", sum := "efd12f36a83df162b1016dcc02bb403ca974976dd3215e15a8e3d45465bbb453", func := "cambist/cambistlaw20.FallExact", spec := "fallExact", inPlace := ["math/bits.Add64"], apart := false, narrowed := true }
def FallExactUptoSaid : Prop := fallExactUptoRow.holds Try.pinned (OpenSpec.upto fallExactSpec)

/-- 'cambistlaw20.FallParts', WHERE WHAT IT READS IS OF BULK AT MOST 1048576: true; the input reads as it did. -/
def fallPartsUptoRow : OpenClaim := { program := "ytdihockdaccmdaa", sum := "efd12f36a83df162b1016dcc02bb403ca974976dd3215e15a8e3d45465bbb453", func := "cambist/cambistlaw20.FallParts", spec := "fallParts", inPlace := ["math/bits.Add64"], apart := false, narrowed := true }
def FallPartsUptoSaid : Prop := fallPartsUptoRow.holds Try.pinned (OpenSpec.upto fallPartsSpec)

end Rows
end Go.Proofs.Ytdihockdaccmdaa
