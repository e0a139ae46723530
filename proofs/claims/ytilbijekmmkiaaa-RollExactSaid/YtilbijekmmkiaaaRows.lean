/-
  No cell of these rows narrows 'for every input' (looked for: loops, veiled, ifaces, maps, wideKeys, modest, calm, conditions, laid).
  DERIVED. THE GIVEN ROWS OF THIS SEAT. 6 by the template 'for every input the law returns true; each argument reads behind the call as it read before'; 0 by the template 'total and deterministic' (their statements: YtilbijekmmkiaaaTotals.lean).
  GIVEN WITH THE SEED: the statements are not yours to turn. If you find one false, say at which input.
  Laid BY PROGRAM, IN A SANDBOX (cutbox-rows.mjs): the forced cells as the released guide's own fill.sh prints them over the translation e4df8b5a2b984cb0… (all of the seat's roots in one cut). By AI agents, Wed Nov 11 2026. No macro, syntax, notation, axiom, sorry.
-/
import Derived.Test.YtilbijekmmkiaaaChecked
import GoSem.Claim
import GoSem.ClaimJoined
import GoSem.ClaimMapViews
import Derived.JoinedTies
import Derived.KernelRfl
namespace Go.Proofs.Ytilbijekmmkiaaa
/- THE CELL 'sum', in the pinned program and in every row, IS THE sha256 OF THE DUMP (.gsa) THAT YtilbijekmmkiaaaProg.lean LOADS. Nothing in Lean hashes anything: it is a label: what it is worth is what the hold of that sum in a sandbox is worth. -/
noncomputable def Try.pinned : Pinned := { name := "ytilbijekmmkiaaa", sum := "e4df8b5a2b984cb0059b252a4d7e07f362cd9c5bf5d8993fe31607c2cbe621ed", checked := Try.checked }
namespace Rows
def none {H : Type} : Left H := { results := [], args := [] }

/-- 'cambistlaw11.RollFinds': WHATEVER THE INPUT: true; the input reads as it did. -/
def rollFindsSpec : ChangeSpec := { name := "rollFinds", fn := fun _ => fun
  | [d1, d2, d3] => { results := [.lit (.bool true)], args := [d1, d2, d3] }
  | _ => none }
def rollFindsRow : OpenClaim := { program := "ytilbijekmmkiaaa", sum := "e4df8b5a2b984cb0059b252a4d7e07f362cd9c5bf5d8993fe31607c2cbe621ed", func := "cambist/cambistlaw11.RollFinds", spec := "rollFinds", inPlace := ["slices.overlaps[cambist/api.Member]"], unfollowed := true, recurses := true, apart := false }
def RollFindsSaid : Prop := rollFindsRow.holds Try.pinned (OpenSpec.ofChange rollFindsSpec)

/-- ITS FALSE NEIGHBOUR: 'it returns false'. Refute it at one input. -/
def rollFindsWrong : ChangeSpec := { name := "rollFinds", fn := fun _ => fun
  | [d1, d2, d3] => { results := [.lit (.bool false)], args := [d1, d2, d3] }
  | _ => none }
def RollFindsWrongFalsely : Prop := rollFindsRow.holds Try.pinned (OpenSpec.ofChange rollFindsWrong)

/-- 'cambistlaw11.RollExact': WHATEVER THE INPUT: true; the input reads as it did. -/
def rollExactSpec : ChangeSpec := { name := "rollExact", fn := fun _ => fun
  | [d1, d2, d3, d4, d5, d6, d7, d8] => { results := [.lit (.bool true)], args := [d1, d2, d3, d4, d5, d6, d7, d8] }
  | _ => none }
def rollExactRow : OpenClaim := { program := "ytilbijekmmkiaaa", sum := "e4df8b5a2b984cb0059b252a4d7e07f362cd9c5bf5d8993fe31607c2cbe621ed", func := "cambist/cambistlaw11.RollExact", spec := "rollExact", inPlace := ["slices.overlaps[cambist/api.Member]", "slices.overlaps[cambist/api.Inst]", "slices.overlaps[cambist/api.Asset]"], unfollowed := true, recurses := true, apart := false }
def RollExactSaid : Prop := rollExactRow.holds Try.pinned (OpenSpec.ofChange rollExactSpec)

/-- ITS FALSE NEIGHBOUR: 'it returns false'. Refute it at one input. -/
def rollExactWrong : ChangeSpec := { name := "rollExact", fn := fun _ => fun
  | [d1, d2, d3, d4, d5, d6, d7, d8] => { results := [.lit (.bool false)], args := [d1, d2, d3, d4, d5, d6, d7, d8] }
  | _ => none }
def RollExactWrongFalsely : Prop := rollExactRow.holds Try.pinned (OpenSpec.ofChange rollExactWrong)

/-- 'cambistlaw11.RollSound': WHATEVER THE INPUT: true; the input reads as it did. -/
def rollSoundSpec : ChangeSpec := { name := "rollSound", fn := fun _ => fun
  | [d] => { results := [.lit (.bool true)], args := [d] }
  | _ => none }
def rollSoundRow : OpenClaim := { program := "ytilbijekmmkiaaa", sum := "e4df8b5a2b984cb0059b252a4d7e07f362cd9c5bf5d8993fe31607c2cbe621ed", func := "cambist/cambistlaw11.RollSound", spec := "rollSound", inPlace := ["slices.overlaps[cambist/api.Member]", "slices.overlaps[cambist/api.Inst]", "slices.overlaps[cambist/api.Asset]"], unfollowed := true, recurses := true, apart := false }
def RollSoundSaid : Prop := rollSoundRow.holds Try.pinned (OpenSpec.ofChange rollSoundSpec)

/-- ITS FALSE NEIGHBOUR: 'it returns false'. Refute it at one input. -/
def rollSoundWrong : ChangeSpec := { name := "rollSound", fn := fun _ => fun
  | [d] => { results := [.lit (.bool false)], args := [d] }
  | _ => none }
def RollSoundWrongFalsely : Prop := rollSoundRow.holds Try.pinned (OpenSpec.ofChange rollSoundWrong)

/-- 'cambistlaw11.RollTurns': WHATEVER THE INPUT: true; the input reads as it did. -/
def rollTurnsSpec : ChangeSpec := { name := "rollTurns", fn := fun _ => fun
  | [d1, d2, d3] => { results := [.lit (.bool true)], args := [d1, d2, d3] }
  | _ => none }
def rollTurnsRow : OpenClaim := { program := "ytilbijekmmkiaaa", sum := "e4df8b5a2b984cb0059b252a4d7e07f362cd9c5bf5d8993fe31607c2cbe621ed", func := "cambist/cambistlaw11.RollTurns", spec := "rollTurns", inPlace := ["slices.overlaps[cambist/api.Member]", "slices.overlaps[cambist/api.Inst]", "slices.overlaps[cambist/api.Asset]"], unfollowed := true, recurses := true, apart := false }
def RollTurnsSaid : Prop := rollTurnsRow.holds Try.pinned (OpenSpec.ofChange rollTurnsSpec)

/-- ITS FALSE NEIGHBOUR: 'it returns false'. Refute it at one input. -/
def rollTurnsWrong : ChangeSpec := { name := "rollTurns", fn := fun _ => fun
  | [d1, d2, d3] => { results := [.lit (.bool false)], args := [d1, d2, d3] }
  | _ => none }
def RollTurnsWrongFalsely : Prop := rollTurnsRow.holds Try.pinned (OpenSpec.ofChange rollTurnsWrong)

/-- 'cambistlaw11.RollPuts': WHATEVER THE INPUT: true; the input reads as it did. -/
def rollPutsSpec : ChangeSpec := { name := "rollPuts", fn := fun _ => fun
  | [d1, d2, d3] => { results := [.lit (.bool true)], args := [d1, d2, d3] }
  | _ => none }
def rollPutsRow : OpenClaim := { program := "ytilbijekmmkiaaa", sum := "e4df8b5a2b984cb0059b252a4d7e07f362cd9c5bf5d8993fe31607c2cbe621ed", func := "cambist/cambistlaw11.RollPuts", spec := "rollPuts", inPlace := ["slices.overlaps[cambist/api.Member]", "slices.overlaps[cambist/api.Inst]", "slices.overlaps[cambist/api.Asset]"], unfollowed := true, recurses := true, apart := false }
def RollPutsSaid : Prop := rollPutsRow.holds Try.pinned (OpenSpec.ofChange rollPutsSpec)

/-- ITS FALSE NEIGHBOUR: 'it returns false'. Refute it at one input. -/
def rollPutsWrong : ChangeSpec := { name := "rollPuts", fn := fun _ => fun
  | [d1, d2, d3] => { results := [.lit (.bool false)], args := [d1, d2, d3] }
  | _ => none }
def RollPutsWrongFalsely : Prop := rollPutsRow.holds Try.pinned (OpenSpec.ofChange rollPutsWrong)

/-- 'cambistlaw11.RollThose': WHATEVER THE INPUT: true; the input reads as it did. -/
def rollThoseSpec : ChangeSpec := { name := "rollThose", fn := fun _ => fun
  | [d1, d2] => { results := [.lit (.bool true)], args := [d1, d2] }
  | _ => none }
def rollThoseRow : OpenClaim := { program := "ytilbijekmmkiaaa", sum := "e4df8b5a2b984cb0059b252a4d7e07f362cd9c5bf5d8993fe31607c2cbe621ed", func := "cambist/cambistlaw11.RollThose", spec := "rollThose", inPlace := ["slices.overlaps[cambist/api.Member]", "slices.overlaps[cambist/api.Inst]", "slices.overlaps[cambist/api.Asset]"], unfollowed := true, recurses := true, apart := false }
def RollThoseSaid : Prop := rollThoseRow.holds Try.pinned (OpenSpec.ofChange rollThoseSpec)

/-- ITS FALSE NEIGHBOUR: 'it returns false'. Refute it at one input. -/
def rollThoseWrong : ChangeSpec := { name := "rollThose", fn := fun _ => fun
  | [d1, d2] => { results := [.lit (.bool false)], args := [d1, d2] }
  | _ => none }
def RollThoseWrongFalsely : Prop := rollThoseRow.holds Try.pinned (OpenSpec.ofChange rollThoseWrong)

/- THE SECOND FORM. 'bulk': how many values and letters a reading holds, each counted each time it is reached (what is shared counts as often as it is met; a slice's spare places count too). A statement '..UptoSaid' is the law's where the arguments, and the package variables that the reading takes, are together of bulk at most 1048576: NARROWER than '..Said'. Prove '..Said' where nothing that the law and all that it calls make is longer than what came in: it says more and counts as full. Else prove '..UptoSaid'. A law counts once. -/
mutual
def uptoBulk {H : Type} : DataW H → Nat
  | .lit (.string bytes) => bytes.length + 1
  | .lit _ => 1
  | .nil => 1
  | .ptr d => uptoBulk d + 1
  | .slice elems spare => uptoBulkAll elems + uptoBulkAll spare + 1
  | .agg parts => uptoBulkAll parts + 1
  | .iface _ d => uptoBulk d + 1
  | .map entries => uptoBulkEntries entries + 1
  | .held _ => 1
def uptoBulkAll {H : Type} : List (DataW H) → Nat
  | [] => 0
  | d :: r => uptoBulk d + uptoBulkAll r
def uptoBulkEntries {H : Type} : List (Lit × DataW H) → Nat
  | [] => 0
  | x :: r => uptoBulkEntry x + uptoBulkEntries r
def uptoBulkEntry {H : Type} : Lit × DataW H → Nat
  | (.string bytes, d) => bytes.length + uptoBulk d + 1
  | (_, d) => uptoBulk d + 1
 end
def uptoSmall : (H : Type) → List (DataW H) → Bool := fun _ ds => decide (uptoBulkAll ds ≤ 1048576)
def OpenSpec.upto (s : _root_.Go.ChangeSpec) : _root_.Go.OpenSpec := { _root_.Go.OpenSpec.ofChange s with cond := some uptoSmall }

/-- 'cambistlaw11.RollFinds', WHERE WHAT IT READS IS OF BULK AT MOST 1048576: true; the input reads as it did. -/
def rollFindsUptoRow : OpenClaim := { program := "ytilbijekmmkiaaa", sum := "e4df8b5a2b984cb0059b252a4d7e07f362cd9c5bf5d8993fe31607c2cbe621ed", func := "cambist/cambistlaw11.RollFinds", spec := "rollFinds", inPlace := ["slices.overlaps[cambist/api.Member]"], unfollowed := true, recurses := true, apart := false, narrowed := true }
def RollFindsUptoSaid : Prop := rollFindsUptoRow.holds Try.pinned (OpenSpec.upto rollFindsSpec)

/-- 'cambistlaw11.RollExact', WHERE WHAT IT READS IS OF BULK AT MOST 1048576: true; the input reads as it did. -/
def rollExactUptoRow : OpenClaim := { program := "ytilbijekmmkiaaa", sum := "e4df8b5a2b984cb0059b252a4d7e07f362cd9c5bf5d8993fe31607c2cbe621ed", func := "cambist/cambistlaw11.RollExact", spec := "rollExact", inPlace := ["slices.overlaps[cambist/api.Member]", "slices.overlaps[cambist/api.Inst]", "slices.overlaps[cambist/api.Asset]"], unfollowed := true, recurses := true, apart := false, narrowed := true }
def RollExactUptoSaid : Prop := rollExactUptoRow.holds Try.pinned (OpenSpec.upto rollExactSpec)

/-- 'cambistlaw11.RollSound', WHERE WHAT IT READS IS OF BULK AT MOST 1048576: true; the input reads as it did. -/
def rollSoundUptoRow : OpenClaim := { program := "ytilbijekmmkiaaa", sum := "e4df8b5a2b984cb0059b252a4d7e07f362cd9c5bf5d8993fe31607c2cbe621ed", func := "cambist/cambistlaw11.RollSound", spec := "rollSound", inPlace := ["slices.overlaps[cambist/api.Member]", "slices.overlaps[cambist/api.Inst]", "slices.overlaps[cambist/api.Asset]"], unfollowed := true, recurses := true, apart := false, narrowed := true }
def RollSoundUptoSaid : Prop := rollSoundUptoRow.holds Try.pinned (OpenSpec.upto rollSoundSpec)

/-- 'cambistlaw11.RollTurns', WHERE WHAT IT READS IS OF BULK AT MOST 1048576: true; the input reads as it did. -/
def rollTurnsUptoRow : OpenClaim := { program := "ytilbijekmmkiaaa", sum := "e4df8b5a2b984cb0059b252a4d7e07f362cd9c5bf5d8993fe31607c2cbe621ed", func := "cambist/cambistlaw11.RollTurns", spec := "rollTurns", inPlace := ["slices.overlaps[cambist/api.Member]", "slices.overlaps[cambist/api.Inst]", "slices.overlaps[cambist/api.Asset]"], unfollowed := true, recurses := true, apart := false, narrowed := true }
def RollTurnsUptoSaid : Prop := rollTurnsUptoRow.holds Try.pinned (OpenSpec.upto rollTurnsSpec)

/-- 'cambistlaw11.RollPuts', WHERE WHAT IT READS IS OF BULK AT MOST 1048576: true; the input reads as it did. -/
def rollPutsUptoRow : OpenClaim := { program := "ytilbijekmmkiaaa", sum := "e4df8b5a2b984cb0059b252a4d7e07f362cd9c5bf5d8993fe31607c2cbe621ed", func := "cambist/cambistlaw11.RollPuts", spec := "rollPuts", inPlace := ["slices.overlaps[cambist/api.Member]", "slices.overlaps[cambist/api.Inst]", "slices.overlaps[cambist/api.Asset]"], unfollowed := true, recurses := true, apart := false, narrowed := true }
def RollPutsUptoSaid : Prop := rollPutsUptoRow.holds Try.pinned (OpenSpec.upto rollPutsSpec)

/-- 'cambistlaw11.RollThose', WHERE WHAT IT READS IS OF BULK AT MOST 1048576: true; the input reads as it did. -/
def rollThoseUptoRow : OpenClaim := { program := "ytilbijekmmkiaaa", sum := "e4df8b5a2b984cb0059b252a4d7e07f362cd9c5bf5d8993fe31607c2cbe621ed", func := "cambist/cambistlaw11.RollThose", spec := "rollThose", inPlace := ["slices.overlaps[cambist/api.Member]", "slices.overlaps[cambist/api.Inst]", "slices.overlaps[cambist/api.Asset]"], unfollowed := true, recurses := true, apart := false, narrowed := true }
def RollThoseUptoSaid : Prop := rollThoseUptoRow.holds Try.pinned (OpenSpec.upto rollThoseSpec)

end Rows
end Go.Proofs.Ytilbijekmmkiaaa
