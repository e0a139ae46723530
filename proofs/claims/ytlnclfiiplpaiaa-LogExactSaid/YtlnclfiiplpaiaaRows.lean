/-
  No cell of these rows narrows 'for every input' (looked for: loops, veiled, ifaces, maps, wideKeys, modest, calm, conditions, laid).
  DERIVED. THE GIVEN ROWS OF THIS SEAT. 8 by the template 'for every input the law returns true; each argument reads behind the call as it read before'; 0 by the template 'total and deterministic' (their statements: YtlnclfiiplpaiaaTotals.lean).
  GIVEN WITH THE SEED: the statements are not yours to turn. If you find one false, say at which input.
  Laid BY PROGRAM, IN A SANDBOX (cutbox-rows.mjs): the forced cells as the released guide's own fill.sh prints them over the translation bb0d2d79b7e57ee8… (all of the seat's roots in one cut). By AI agents, Wed Nov 11 2026. No macro, syntax, notation, axiom, sorry.
-/
import Derived.Test.YtlnclfiiplpaiaaChecked
import GoSem.Claim
import GoSem.ClaimJoined
import GoSem.ClaimMapViews
import Derived.JoinedTies
import Derived.KernelRfl
namespace Go.Proofs.Ytlnclfiiplpaiaa
/- THE CELL 'sum', in the pinned program and in every row, IS THE sha256 OF THE DUMP (.gsa) THAT YtlnclfiiplpaiaaProg.lean LOADS. Nothing in Lean hashes anything: it is a label: what it is worth is what the hold of that sum in a sandbox is worth. -/
noncomputable def Try.pinned : Pinned := { name := "ytlnclfiiplpaiaa", sum := "bb0d2d79b7e57ee88dcdc52c4727d8232492283066b88f6b774f3b0d83762553", checked := Try.checked }
namespace Rows
def none {H : Type} : Left H := { results := [], args := [] }

/-- 'cambistlaw07.LogParts': WHATEVER THE INPUT: true; the input reads as it did. -/
def logPartsSpec : ChangeSpec := { name := "logParts", fn := fun _ => fun
  | [d1, d2, d3] => { results := [.lit (.bool true)], args := [d1, d2, d3] }
  | _ => none }
def logPartsRow : OpenClaim := { program := "ytlnclfiiplpaiaa", sum := "bb0d2d79b7e57ee88dcdc52c4727d8232492283066b88f6b774f3b0d83762553", func := "cambist/cambistlaw07.LogParts", spec := "logParts", apart := false }
def LogPartsSaid : Prop := logPartsRow.holds Try.pinned (OpenSpec.ofChange logPartsSpec)

/-- ITS FALSE NEIGHBOUR: 'it returns false'. Refute it at one input. -/
def logPartsWrong : ChangeSpec := { name := "logParts", fn := fun _ => fun
  | [d1, d2, d3] => { results := [.lit (.bool false)], args := [d1, d2, d3] }
  | _ => none }
def LogPartsWrongFalsely : Prop := logPartsRow.holds Try.pinned (OpenSpec.ofChange logPartsWrong)

/-- 'cambistlaw07.LogHalves': WHATEVER THE INPUT: true; the input reads as it did. -/
def logHalvesSpec : ChangeSpec := { name := "logHalves", fn := fun _ => fun
  | [d1, d2] => { results := [.lit (.bool true)], args := [d1, d2] }
  | _ => none }
def logHalvesRow : OpenClaim := { program := "ytlnclfiiplpaiaa", sum := "bb0d2d79b7e57ee88dcdc52c4727d8232492283066b88f6b774f3b0d83762553", func := "cambist/cambistlaw07.LogHalves", spec := "logHalves", apart := false }
def LogHalvesSaid : Prop := logHalvesRow.holds Try.pinned (OpenSpec.ofChange logHalvesSpec)

/-- ITS FALSE NEIGHBOUR: 'it returns false'. Refute it at one input. -/
def logHalvesWrong : ChangeSpec := { name := "logHalves", fn := fun _ => fun
  | [d1, d2] => { results := [.lit (.bool false)], args := [d1, d2] }
  | _ => none }
def LogHalvesWrongFalsely : Prop := logHalvesRow.holds Try.pinned (OpenSpec.ofChange logHalvesWrong)

/-- 'cambistlaw07.LogStale': WHATEVER THE INPUT: true; the input reads as it did. -/
def logStaleSpec : ChangeSpec := { name := "logStale", fn := fun _ => fun
  | [d1, d2, d3, d4, d5] => { results := [.lit (.bool true)], args := [d1, d2, d3, d4, d5] }
  | _ => none }
def logStaleRow : OpenClaim := { program := "ytlnclfiiplpaiaa", sum := "bb0d2d79b7e57ee88dcdc52c4727d8232492283066b88f6b774f3b0d83762553", func := "cambist/cambistlaw07.LogStale", spec := "logStale", apart := false }
def LogStaleSaid : Prop := logStaleRow.holds Try.pinned (OpenSpec.ofChange logStaleSpec)

/-- ITS FALSE NEIGHBOUR: 'it returns false'. Refute it at one input. -/
def logStaleWrong : ChangeSpec := { name := "logStale", fn := fun _ => fun
  | [d1, d2, d3, d4, d5] => { results := [.lit (.bool false)], args := [d1, d2, d3, d4, d5] }
  | _ => none }
def LogStaleWrongFalsely : Prop := logStaleRow.holds Try.pinned (OpenSpec.ofChange logStaleWrong)

/-- 'cambistlaw07.LogFull': WHATEVER THE INPUT: true; the input reads as it did. -/
def logFullSpec : ChangeSpec := { name := "logFull", fn := fun _ => fun
  | [d1, d2, d3] => { results := [.lit (.bool true)], args := [d1, d2, d3] }
  | _ => none }
def logFullRow : OpenClaim := { program := "ytlnclfiiplpaiaa", sum := "bb0d2d79b7e57ee88dcdc52c4727d8232492283066b88f6b774f3b0d83762553", func := "cambist/cambistlaw07.LogFull", spec := "logFull", apart := false }
def LogFullSaid : Prop := logFullRow.holds Try.pinned (OpenSpec.ofChange logFullSpec)

/-- ITS FALSE NEIGHBOUR: 'it returns false'. Refute it at one input. -/
def logFullWrong : ChangeSpec := { name := "logFull", fn := fun _ => fun
  | [d1, d2, d3] => { results := [.lit (.bool false)], args := [d1, d2, d3] }
  | _ => none }
def LogFullWrongFalsely : Prop := logFullRow.holds Try.pinned (OpenSpec.ofChange logFullWrong)

/-- 'cambistlaw07.LogAgain': WHATEVER THE INPUT: true; the input reads as it did. -/
def logAgainSpec : ChangeSpec := { name := "logAgain", fn := fun _ => fun
  | [d1, d2, d3] => { results := [.lit (.bool true)], args := [d1, d2, d3] }
  | _ => none }
def logAgainRow : OpenClaim := { program := "ytlnclfiiplpaiaa", sum := "bb0d2d79b7e57ee88dcdc52c4727d8232492283066b88f6b774f3b0d83762553", func := "cambist/cambistlaw07.LogAgain", spec := "logAgain", apart := false }
def LogAgainSaid : Prop := logAgainRow.holds Try.pinned (OpenSpec.ofChange logAgainSpec)

/-- ITS FALSE NEIGHBOUR: 'it returns false'. Refute it at one input. -/
def logAgainWrong : ChangeSpec := { name := "logAgain", fn := fun _ => fun
  | [d1, d2, d3] => { results := [.lit (.bool false)], args := [d1, d2, d3] }
  | _ => none }
def LogAgainWrongFalsely : Prop := logAgainRow.holds Try.pinned (OpenSpec.ofChange logAgainWrong)

/-- 'cambistlaw07.LogMade': WHATEVER THE INPUT: true; the input reads as it did. -/
def logMadeSpec : ChangeSpec := { name := "logMade", fn := fun _ => fun
  | [d1, d2, d3] => { results := [.lit (.bool true)], args := [d1, d2, d3] }
  | _ => none }
def logMadeRow : OpenClaim := { program := "ytlnclfiiplpaiaa", sum := "bb0d2d79b7e57ee88dcdc52c4727d8232492283066b88f6b774f3b0d83762553", func := "cambist/cambistlaw07.LogMade", spec := "logMade", apart := false }
def LogMadeSaid : Prop := logMadeRow.holds Try.pinned (OpenSpec.ofChange logMadeSpec)

/-- ITS FALSE NEIGHBOUR: 'it returns false'. Refute it at one input. -/
def logMadeWrong : ChangeSpec := { name := "logMade", fn := fun _ => fun
  | [d1, d2, d3] => { results := [.lit (.bool false)], args := [d1, d2, d3] }
  | _ => none }
def LogMadeWrongFalsely : Prop := logMadeRow.holds Try.pinned (OpenSpec.ofChange logMadeWrong)

/-- 'cambistlaw07.LogLasts': WHATEVER THE INPUT: true; the input reads as it did. -/
def logLastsSpec : ChangeSpec := { name := "logLasts", fn := fun _ => fun
  | [d] => { results := [.lit (.bool true)], args := [d] }
  | _ => none }
def logLastsRow : OpenClaim := { program := "ytlnclfiiplpaiaa", sum := "bb0d2d79b7e57ee88dcdc52c4727d8232492283066b88f6b774f3b0d83762553", func := "cambist/cambistlaw07.LogLasts", spec := "logLasts", apart := false }
def LogLastsSaid : Prop := logLastsRow.holds Try.pinned (OpenSpec.ofChange logLastsSpec)

/-- ITS FALSE NEIGHBOUR: 'it returns false'. Refute it at one input. -/
def logLastsWrong : ChangeSpec := { name := "logLasts", fn := fun _ => fun
  | [d] => { results := [.lit (.bool false)], args := [d] }
  | _ => none }
def LogLastsWrongFalsely : Prop := logLastsRow.holds Try.pinned (OpenSpec.ofChange logLastsWrong)

/-- 'cambistlaw07.LogExact': WHATEVER THE INPUT: true; the input reads as it did. -/
def logExactSpec : ChangeSpec := { name := "logExact", fn := fun _ => fun
  | [d1, d2] => { results := [.lit (.bool true)], args := [d1, d2] }
  | _ => none }
def logExactRow : OpenClaim := { program := "ytlnclfiiplpaiaa", sum := "bb0d2d79b7e57ee88dcdc52c4727d8232492283066b88f6b774f3b0d83762553", func := "cambist/cambistlaw07.LogExact", spec := "logExact", apart := false }
def LogExactSaid : Prop := logExactRow.holds Try.pinned (OpenSpec.ofChange logExactSpec)

/-- ITS FALSE NEIGHBOUR: 'it returns false'. Refute it at one input. -/
def logExactWrong : ChangeSpec := { name := "logExact", fn := fun _ => fun
  | [d1, d2] => { results := [.lit (.bool false)], args := [d1, d2] }
  | _ => none }
def LogExactWrongFalsely : Prop := logExactRow.holds Try.pinned (OpenSpec.ofChange logExactWrong)

/- THE SECOND FORM. 'bulk': how many values and letters a reading holds, each counted each time it is reached (what is shared counts as often as it is met; a slice's spare places count too). A statement '..UptoSaid' is the law's where the arguments, and the package variables that the reading takes, are together of bulk at most 1048576: NARROWER than '..Said'. Prove '..Said' where nothing that the law and all that it calls make is longer than what came in: it says more and counts as full. Else prove '..UptoSaid'. A law counts once. -/
mutual
def uptoBulk {H : Type} : DataW H → Nat
  | .lit (.string bytes) => bytes.length + 1
  | .lit _ => 1
  | .nil => 1
  | .ptr d => uptoBulk d + 1
  | .slice elems spare => uptoBulkAll elems + uptoBulkAll spare + 1
  | .agg parts => uptoBulkAll parts + 1
  | .iface _ d => uptoBulk d + 1
  | .map entries => uptoBulkEntries entries + 1
  | .held _ => 1
def uptoBulkAll {H : Type} : List (DataW H) → Nat
  | [] => 0
  | d :: r => uptoBulk d + uptoBulkAll r
def uptoBulkEntries {H : Type} : List (Lit × DataW H) → Nat
  | [] => 0
  | x :: r => uptoBulkEntry x + uptoBulkEntries r
def uptoBulkEntry {H : Type} : Lit × DataW H → Nat
  | (.string bytes, d) => bytes.length + uptoBulk d + 1
  | (_, d) => uptoBulk d + 1
 end
def uptoSmall : (H : Type) → List (DataW H) → Bool := fun _ ds => decide (uptoBulkAll ds ≤ 1048576)
def OpenSpec.upto (s : _root_.Go.ChangeSpec) : _root_.Go.OpenSpec := { _root_.Go.OpenSpec.ofChange s with cond := some uptoSmall }

/-- 'cambistlaw07.LogParts', WHERE WHAT IT READS IS OF BULK AT MOST 1048576: true; the input reads as it did. -/
def logPartsUptoRow : OpenClaim := { program := "ytlnclfiiplpaiaa", sum := "bb0d2d79b7e57ee88dcdc52c4727d8232492283066b88f6b774f3b0d83762553", func := "cambist/cambistlaw07.LogParts", spec := "logParts", apart := false, narrowed := true }
def LogPartsUptoSaid : Prop := logPartsUptoRow.holds Try.pinned (OpenSpec.upto logPartsSpec)

/-- 'cambistlaw07.LogHalves', WHERE WHAT IT READS IS OF BULK AT MOST 1048576: true; the input reads as it did. -/
def logHalvesUptoRow : OpenClaim := { program := "ytlnclfiiplpaiaa", sum := "bb0d2d79b7e57ee88dcdc52c4727d8232492283066b88f6b774f3b0d83762553", func := "cambist/cambistlaw07.LogHalves", spec := "logHalves", apart := false, narrowed := true }
def LogHalvesUptoSaid : Prop := logHalvesUptoRow.holds Try.pinned (OpenSpec.upto logHalvesSpec)

/-- 'cambistlaw07.LogStale', WHERE WHAT IT READS IS OF BULK AT MOST 1048576: true; the input reads as it did. -/
def logStaleUptoRow : OpenClaim := { program := "ytlnclfiiplpaiaa", sum := "bb0d2d79b7e57ee88dcdc52c4727d8232492283066b88f6b774f3b0d83762553", func := "cambist/cambistlaw07.LogStale", spec := "logStale", apart := false, narrowed := true }
def LogStaleUptoSaid : Prop := logStaleUptoRow.holds Try.pinned (OpenSpec.upto logStaleSpec)

/-- 'cambistlaw07.LogFull', WHERE WHAT IT READS IS OF BULK AT MOST 1048576: true; the input reads as it did. -/
def logFullUptoRow : OpenClaim := { program := "ytlnclfiiplpaiaa", sum := "bb0d2d79b7e57ee88dcdc52c4727d8232492283066b88f6b774f3b0d83762553", func := "cambist/cambistlaw07.LogFull", spec := "logFull", apart := false, narrowed := true }
def LogFullUptoSaid : Prop := logFullUptoRow.holds Try.pinned (OpenSpec.upto logFullSpec)

/-- 'cambistlaw07.LogAgain', WHERE WHAT IT READS IS OF BULK AT MOST 1048576: true; the input reads as it did. -/
def logAgainUptoRow : OpenClaim := { program := "ytlnclfiiplpaiaa", sum := "bb0d2d79b7e57ee88dcdc52c4727d8232492283066b88f6b774f3b0d83762553", func := "cambist/cambistlaw07.LogAgain", spec := "logAgain", apart := false, narrowed := true }
def LogAgainUptoSaid : Prop := logAgainUptoRow.holds Try.pinned (OpenSpec.upto logAgainSpec)

/-- 'cambistlaw07.LogMade', WHERE WHAT IT READS IS OF BULK AT MOST 1048576: true; the input reads as it did. -/
def logMadeUptoRow : OpenClaim := { program := "ytlnclfiiplpaiaa", sum := "bb0d2d79b7e57ee88dcdc52c4727d8232492283066b88f6b774f3b0d83762553", func := "cambist/cambistlaw07.LogMade", spec := "logMade", apart := false, narrowed := true }
def LogMadeUptoSaid : Prop := logMadeUptoRow.holds Try.pinned (OpenSpec.upto logMadeSpec)

/-- 'cambistlaw07.LogLasts', WHERE WHAT IT READS IS OF BULK AT MOST 1048576: true; the input reads as it did. -/
def logLastsUptoRow : OpenClaim := { program := "ytlnclfiiplpaiaa", sum := "bb0d2d79b7e57ee88dcdc52c4727d8232492283066b88f6b774f3b0d83762553", func := "cambist/cambistlaw07.LogLasts", spec := "logLasts", apart := false, narrowed := true }
def LogLastsUptoSaid : Prop := logLastsUptoRow.holds Try.pinned (OpenSpec.upto logLastsSpec)

/-- 'cambistlaw07.LogExact', WHERE WHAT IT READS IS OF BULK AT MOST 1048576: true; the input reads as it did. -/
def logExactUptoRow : OpenClaim := { program := "ytlnclfiiplpaiaa", sum := "bb0d2d79b7e57ee88dcdc52c4727d8232492283066b88f6b774f3b0d83762553", func := "cambist/cambistlaw07.LogExact", spec := "logExact", apart := false, narrowed := true }
def LogExactUptoSaid : Prop := logExactUptoRow.holds Try.pinned (OpenSpec.upto logExactSpec)

end Rows
end Go.Proofs.Ytlnclfiiplpaiaa
