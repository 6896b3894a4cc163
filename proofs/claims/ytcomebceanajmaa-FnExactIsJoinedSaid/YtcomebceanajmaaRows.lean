/-
  No cell of these rows narrows 'for every input' (looked for: loops, veiled, ifaces, maps, wideKeys, modest, calm, conditions, laid).
  DERIVED. THE GIVEN ROWS OF THIS SEAT. 12 by the template 'for every input the law returns true; each argument reads behind the call as it read before'; 0 by the template 'total and deterministic' (their statements: YtcomebceanajmaaTotals.lean).
  GIVEN WITH THE SEED: the statements are not yours to turn. If you find one false, say at which input.
  Laid BY PROGRAM, IN A SANDBOX (cutbox-rows.mjs): the forced cells as the released guide's own fill.sh prints them over the translation 7db6ff455c0a4cfd… (all of the seat's roots in one cut). By AI agents, Wed Nov 11 2026. No macro, syntax, notation, axiom, sorry.
-/
import Derived.Test.YtcomebceanajmaaChecked
import GoSem.Claim
import GoSem.ClaimJoined
import GoSem.ClaimMapViews
import Derived.JoinedTies
import Derived.KernelRfl
namespace Go.Proofs.Ytcomebceanajmaa
/- THE CELL 'sum', in the pinned program and in every row, IS THE sha256 OF THE DUMP (.gsa) THAT YtcomebceanajmaaProg.lean LOADS. Nothing in Lean hashes anything: it is a label: what it is worth is what the hold of that sum in a sandbox is worth. -/
noncomputable def Try.pinned : Pinned := { name := "ytcomebceanajmaa", sum := "7db6ff455c0a4cfdc4076b597ff139072973498f5fc2c744a950f8003f2637d9", checked := Try.checked }
namespace Rows
def none {H : Type} : Left H := { results := [], args := [] }

/-- 'laws.FnExactMoebiusOf': WHATEVER THE INPUT: true; the input reads as it did. -/
def fnExactMoebiusOfSpec : ChangeSpec := { name := "fnExactMoebiusOf", fn := fun _ => fun
  | [d] => { results := [.lit (.bool true)], args := [d] }
  | _ => none }
def fnExactMoebiusOfRow : OpenClaim := { program := "ytcomebceanajmaa", sum := "7db6ff455c0a4cfdc4076b597ff139072973498f5fc2c744a950f8003f2637d9", func := "loop.example/g03103/laws.FnExactMoebiusOf", spec := "fnExactMoebiusOf", apart := false }
def FnExactMoebiusOfSaid : Prop := fnExactMoebiusOfRow.holds Try.pinned (OpenSpec.ofChange fnExactMoebiusOfSpec)

/-- ITS FALSE NEIGHBOUR: 'it returns false'. Refute it at one input. -/
def fnExactMoebiusOfWrong : ChangeSpec := { name := "fnExactMoebiusOf", fn := fun _ => fun
  | [d] => { results := [.lit (.bool false)], args := [d] }
  | _ => none }
def FnExactMoebiusOfWrongFalsely : Prop := fnExactMoebiusOfRow.holds Try.pinned (OpenSpec.ofChange fnExactMoebiusOfWrong)

/-- 'laws.FnExactAreAlike': WHATEVER THE INPUT: true; the input reads as it did. -/
def fnExactAreAlikeSpec : ChangeSpec := { name := "fnExactAreAlike", fn := fun _ => fun
  | [d1, d2] => { results := [.lit (.bool true)], args := [d1, d2] }
  | _ => none }
def fnExactAreAlikeRow : OpenClaim := { program := "ytcomebceanajmaa", sum := "7db6ff455c0a4cfdc4076b597ff139072973498f5fc2c744a950f8003f2637d9", func := "loop.example/g03103/laws.FnExactAreAlike", spec := "fnExactAreAlike", recurses := true, apart := false }
def FnExactAreAlikeSaid : Prop := fnExactAreAlikeRow.holds Try.pinned (OpenSpec.ofChange fnExactAreAlikeSpec)

/-- ITS FALSE NEIGHBOUR: 'it returns false'. Refute it at one input. -/
def fnExactAreAlikeWrong : ChangeSpec := { name := "fnExactAreAlike", fn := fun _ => fun
  | [d1, d2] => { results := [.lit (.bool false)], args := [d1, d2] }
  | _ => none }
def FnExactAreAlikeWrongFalsely : Prop := fnExactAreAlikeRow.holds Try.pinned (OpenSpec.ofChange fnExactAreAlikeWrong)

/-- 'laws.FnExactTurnStep': WHATEVER THE INPUT: true; the input reads as it did. -/
def fnExactTurnStepSpec : ChangeSpec := { name := "fnExactTurnStep", fn := fun _ => fun
  | [d] => { results := [.lit (.bool true)], args := [d] }
  | _ => none }
def fnExactTurnStepRow : OpenClaim := { program := "ytcomebceanajmaa", sum := "7db6ff455c0a4cfdc4076b597ff139072973498f5fc2c744a950f8003f2637d9", func := "loop.example/g03103/laws.FnExactTurnStep", spec := "fnExactTurnStep", apart := false }
def FnExactTurnStepSaid : Prop := fnExactTurnStepRow.holds Try.pinned (OpenSpec.ofChange fnExactTurnStepSpec)

/-- ITS FALSE NEIGHBOUR: 'it returns false'. Refute it at one input. -/
def fnExactTurnStepWrong : ChangeSpec := { name := "fnExactTurnStep", fn := fun _ => fun
  | [d] => { results := [.lit (.bool false)], args := [d] }
  | _ => none }
def FnExactTurnStepWrongFalsely : Prop := fnExactTurnStepRow.holds Try.pinned (OpenSpec.ofChange fnExactTurnStepWrong)

/-- 'laws.FnExactPartsOf': WHATEVER THE INPUT: true; the input reads as it did. -/
def fnExactPartsOfSpec : ChangeSpec := { name := "fnExactPartsOf", fn := fun _ => fun
  | [d] => { results := [.lit (.bool true)], args := [d] }
  | _ => none }
def fnExactPartsOfRow : OpenClaim := { program := "ytcomebceanajmaa", sum := "7db6ff455c0a4cfdc4076b597ff139072973498f5fc2c744a950f8003f2637d9", func := "loop.example/g03103/laws.FnExactPartsOf", spec := "fnExactPartsOf", unfollowed := true, recurses := true, apart := false }
def FnExactPartsOfSaid : Prop := fnExactPartsOfRow.holds Try.pinned (OpenSpec.ofChange fnExactPartsOfSpec)

/-- ITS FALSE NEIGHBOUR: 'it returns false'. Refute it at one input. -/
def fnExactPartsOfWrong : ChangeSpec := { name := "fnExactPartsOf", fn := fun _ => fun
  | [d] => { results := [.lit (.bool false)], args := [d] }
  | _ => none }
def FnExactPartsOfWrongFalsely : Prop := fnExactPartsOfRow.holds Try.pinned (OpenSpec.ofChange fnExactPartsOfWrong)

/-- 'laws.FnExactIsResolving': WHATEVER THE INPUT: true; the input reads as it did. -/
def fnExactIsResolvingSpec : ChangeSpec := { name := "fnExactIsResolving", fn := fun _ => fun
  | [d] => { results := [.lit (.bool true)], args := [d] }
  | _ => none }
def fnExactIsResolvingRow : OpenClaim := { program := "ytcomebceanajmaa", sum := "7db6ff455c0a4cfdc4076b597ff139072973498f5fc2c744a950f8003f2637d9", func := "loop.example/g03103/laws.FnExactIsResolving", spec := "fnExactIsResolving", apart := false }
def FnExactIsResolvingSaid : Prop := fnExactIsResolvingRow.holds Try.pinned (OpenSpec.ofChange fnExactIsResolvingSpec)

/-- ITS FALSE NEIGHBOUR: 'it returns false'. Refute it at one input. -/
def fnExactIsResolvingWrong : ChangeSpec := { name := "fnExactIsResolving", fn := fun _ => fun
  | [d] => { results := [.lit (.bool false)], args := [d] }
  | _ => none }
def FnExactIsResolvingWrongFalsely : Prop := fnExactIsResolvingRow.holds Try.pinned (OpenSpec.ofChange fnExactIsResolvingWrong)

/-- 'laws.FnExactTableTimes': WHATEVER THE INPUT: true; the input reads as it did. -/
def fnExactTableTimesSpec : ChangeSpec := { name := "fnExactTableTimes", fn := fun _ => fun
  | [d1, d2] => { results := [.lit (.bool true)], args := [d1, d2] }
  | _ => none }
def fnExactTableTimesRow : OpenClaim := { program := "ytcomebceanajmaa", sum := "7db6ff455c0a4cfdc4076b597ff139072973498f5fc2c744a950f8003f2637d9", func := "loop.example/g03103/laws.FnExactTableTimes", spec := "fnExactTableTimes", apart := false }
def FnExactTableTimesSaid : Prop := fnExactTableTimesRow.holds Try.pinned (OpenSpec.ofChange fnExactTableTimesSpec)

/-- ITS FALSE NEIGHBOUR: 'it returns false'. Refute it at one input. -/
def fnExactTableTimesWrong : ChangeSpec := { name := "fnExactTableTimes", fn := fun _ => fun
  | [d1, d2] => { results := [.lit (.bool false)], args := [d1, d2] }
  | _ => none }
def FnExactTableTimesWrongFalsely : Prop := fnExactTableTimesRow.holds Try.pinned (OpenSpec.ofChange fnExactTableTimesWrong)

/-- 'laws.FnExactRenameGraph': WHATEVER THE INPUT: true; the input reads as it did. -/
def fnExactRenameGraphSpec : ChangeSpec := { name := "fnExactRenameGraph", fn := fun _ => fun
  | [d1, d2] => { results := [.lit (.bool true)], args := [d1, d2] }
  | _ => none }
def fnExactRenameGraphRow : OpenClaim := { program := "ytcomebceanajmaa", sum := "7db6ff455c0a4cfdc4076b597ff139072973498f5fc2c744a950f8003f2637d9", func := "loop.example/g03103/laws.FnExactRenameGraph", spec := "fnExactRenameGraph", apart := false }
def FnExactRenameGraphSaid : Prop := fnExactRenameGraphRow.holds Try.pinned (OpenSpec.ofChange fnExactRenameGraphSpec)

/-- ITS FALSE NEIGHBOUR: 'it returns false'. Refute it at one input. -/
def fnExactRenameGraphWrong : ChangeSpec := { name := "fnExactRenameGraph", fn := fun _ => fun
  | [d1, d2] => { results := [.lit (.bool false)], args := [d1, d2] }
  | _ => none }
def FnExactRenameGraphWrongFalsely : Prop := fnExactRenameGraphRow.holds Try.pinned (OpenSpec.ofChange fnExactRenameGraphWrong)

/-- 'laws.FnExactSplitOut': WHATEVER THE INPUT: true; the input reads as it did. -/
def fnExactSplitOutSpec : ChangeSpec := { name := "fnExactSplitOut", fn := fun _ => fun
  | [d1, d2, d3] => { results := [.lit (.bool true)], args := [d1, d2, d3] }
  | _ => none }
def fnExactSplitOutRow : OpenClaim := { program := "ytcomebceanajmaa", sum := "7db6ff455c0a4cfdc4076b597ff139072973498f5fc2c744a950f8003f2637d9", func := "loop.example/g03103/laws.FnExactSplitOut", spec := "fnExactSplitOut", apart := false }
def FnExactSplitOutSaid : Prop := fnExactSplitOutRow.holds Try.pinned (OpenSpec.ofChange fnExactSplitOutSpec)

/-- ITS FALSE NEIGHBOUR: 'it returns false'. Refute it at one input. -/
def fnExactSplitOutWrong : ChangeSpec := { name := "fnExactSplitOut", fn := fun _ => fun
  | [d1, d2, d3] => { results := [.lit (.bool false)], args := [d1, d2, d3] }
  | _ => none }
def FnExactSplitOutWrongFalsely : Prop := fnExactSplitOutRow.holds Try.pinned (OpenSpec.ofChange fnExactSplitOutWrong)

/-- 'laws.FnExactJoinOut': WHATEVER THE INPUT: true; the input reads as it did. -/
def fnExactJoinOutSpec : ChangeSpec := { name := "fnExactJoinOut", fn := fun _ => fun
  | [d1, d2, d3] => { results := [.lit (.bool true)], args := [d1, d2, d3] }
  | _ => none }
def fnExactJoinOutRow : OpenClaim := { program := "ytcomebceanajmaa", sum := "7db6ff455c0a4cfdc4076b597ff139072973498f5fc2c744a950f8003f2637d9", func := "loop.example/g03103/laws.FnExactJoinOut", spec := "fnExactJoinOut", apart := false }
def FnExactJoinOutSaid : Prop := fnExactJoinOutRow.holds Try.pinned (OpenSpec.ofChange fnExactJoinOutSpec)

/-- ITS FALSE NEIGHBOUR: 'it returns false'. Refute it at one input. -/
def fnExactJoinOutWrong : ChangeSpec := { name := "fnExactJoinOut", fn := fun _ => fun
  | [d1, d2, d3] => { results := [.lit (.bool false)], args := [d1, d2, d3] }
  | _ => none }
def FnExactJoinOutWrongFalsely : Prop := fnExactJoinOutRow.holds Try.pinned (OpenSpec.ofChange fnExactJoinOutWrong)

/-- 'laws.FnExactIsJoined': WHATEVER THE INPUT: true; the input reads as it did. -/
def fnExactIsJoinedSpec : ChangeSpec := { name := "fnExactIsJoined", fn := fun _ => fun
  | [d] => { results := [.lit (.bool true)], args := [d] }
  | _ => none }
def fnExactIsJoinedRow : OpenClaim := { program := "ytcomebceanajmaa", sum := "7db6ff455c0a4cfdc4076b597ff139072973498f5fc2c744a950f8003f2637d9", func := "loop.example/g03103/laws.FnExactIsJoined", spec := "fnExactIsJoined", apart := false }
def FnExactIsJoinedSaid : Prop := fnExactIsJoinedRow.holds Try.pinned (OpenSpec.ofChange fnExactIsJoinedSpec)

/-- ITS FALSE NEIGHBOUR: 'it returns false'. Refute it at one input. -/
def fnExactIsJoinedWrong : ChangeSpec := { name := "fnExactIsJoined", fn := fun _ => fun
  | [d] => { results := [.lit (.bool false)], args := [d] }
  | _ => none }
def FnExactIsJoinedWrongFalsely : Prop := fnExactIsJoinedRow.holds Try.pinned (OpenSpec.ofChange fnExactIsJoinedWrong)

/-- 'laws.FnExactSplitPair': WHATEVER THE INPUT: true; the input reads as it did. -/
def fnExactSplitPairSpec : ChangeSpec := { name := "fnExactSplitPair", fn := fun _ => fun
  | [d1, d2, d3] => { results := [.lit (.bool true)], args := [d1, d2, d3] }
  | _ => none }
def fnExactSplitPairRow : OpenClaim := { program := "ytcomebceanajmaa", sum := "7db6ff455c0a4cfdc4076b597ff139072973498f5fc2c744a950f8003f2637d9", func := "loop.example/g03103/laws.FnExactSplitPair", spec := "fnExactSplitPair", apart := false }
def FnExactSplitPairSaid : Prop := fnExactSplitPairRow.holds Try.pinned (OpenSpec.ofChange fnExactSplitPairSpec)

/-- ITS FALSE NEIGHBOUR: 'it returns false'. Refute it at one input. -/
def fnExactSplitPairWrong : ChangeSpec := { name := "fnExactSplitPair", fn := fun _ => fun
  | [d1, d2, d3] => { results := [.lit (.bool false)], args := [d1, d2, d3] }
  | _ => none }
def FnExactSplitPairWrongFalsely : Prop := fnExactSplitPairRow.holds Try.pinned (OpenSpec.ofChange fnExactSplitPairWrong)

/-- 'laws.FnExactClosedPaths': WHATEVER THE INPUT: true; the input reads as it did. -/
def fnExactClosedPathsSpec : ChangeSpec := { name := "fnExactClosedPaths", fn := fun _ => fun
  | [d1, d2] => { results := [.lit (.bool true)], args := [d1, d2] }
  | _ => none }
def fnExactClosedPathsRow : OpenClaim := { program := "ytcomebceanajmaa", sum := "7db6ff455c0a4cfdc4076b597ff139072973498f5fc2c744a950f8003f2637d9", func := "loop.example/g03103/laws.FnExactClosedPaths", spec := "fnExactClosedPaths", apart := false }
def FnExactClosedPathsSaid : Prop := fnExactClosedPathsRow.holds Try.pinned (OpenSpec.ofChange fnExactClosedPathsSpec)

/-- ITS FALSE NEIGHBOUR: 'it returns false'. Refute it at one input. -/
def fnExactClosedPathsWrong : ChangeSpec := { name := "fnExactClosedPaths", fn := fun _ => fun
  | [d1, d2] => { results := [.lit (.bool false)], args := [d1, d2] }
  | _ => none }
def FnExactClosedPathsWrongFalsely : Prop := fnExactClosedPathsRow.holds Try.pinned (OpenSpec.ofChange fnExactClosedPathsWrong)

/- THE SECOND FORM. 'bulk': how many values and letters a reading holds, each counted each time it is reached (what is shared counts as often as it is met; a slice's spare places count too). A statement '..UptoSaid' is the law's where the arguments, and the package variables that the reading takes, are together of bulk at most 1048576: NARROWER than '..Said'. Prove '..Said' where nothing that the law and all that it calls make is longer than what came in: it says more and counts as full. Else prove '..UptoSaid'. A law counts once. -/
mutual
def uptoBulk {H : Type} : DataW H → Nat
  | .lit (.string bytes) => bytes.length + 1
  | .lit _ => 1
  | .nil => 1
  | .ptr d => uptoBulk d + 1
  | .slice elems spare => uptoBulkAll elems + uptoBulkAll spare + 1
  | .agg parts => uptoBulkAll parts + 1
  | .iface _ d => uptoBulk d + 1
  | .map entries => uptoBulkEntries entries + 1
  | .held _ => 1
def uptoBulkAll {H : Type} : List (DataW H) → Nat
  | [] => 0
  | d :: r => uptoBulk d + uptoBulkAll r
def uptoBulkEntries {H : Type} : List (Lit × DataW H) → Nat
  | [] => 0
  | x :: r => uptoBulkEntry x + uptoBulkEntries r
def uptoBulkEntry {H : Type} : Lit × DataW H → Nat
  | (.string bytes, d) => bytes.length + uptoBulk d + 1
  | (_, d) => uptoBulk d + 1
 end
def uptoSmall : (H : Type) → List (DataW H) → Bool := fun _ ds => decide (uptoBulkAll ds ≤ 1048576)
def OpenSpec.upto (s : _root_.Go.ChangeSpec) : _root_.Go.OpenSpec := { _root_.Go.OpenSpec.ofChange s with cond := some uptoSmall }

/-- 'laws.FnExactMoebiusOf', WHERE WHAT IT READS IS OF BULK AT MOST 1048576: true; the input reads as it did. -/
def fnExactMoebiusOfUptoRow : OpenClaim := { program := "ytcomebceanajmaa", sum := "7db6ff455c0a4cfdc4076b597ff139072973498f5fc2c744a950f8003f2637d9", func := "loop.example/g03103/laws.FnExactMoebiusOf", spec := "fnExactMoebiusOf", apart := false, narrowed := true }
def FnExactMoebiusOfUptoSaid : Prop := fnExactMoebiusOfUptoRow.holds Try.pinned (OpenSpec.upto fnExactMoebiusOfSpec)

/-- 'laws.FnExactAreAlike', WHERE WHAT IT READS IS OF BULK AT MOST 1048576: true; the input reads as it did. -/
def fnExactAreAlikeUptoRow : OpenClaim := { program := "ytcomebceanajmaa", sum := "7db6ff455c0a4cfdc4076b597ff139072973498f5fc2c744a950f8003f2637d9", func := "loop.example/g03103/laws.FnExactAreAlike", spec := "fnExactAreAlike", recurses := true, apart := false, narrowed := true }
def FnExactAreAlikeUptoSaid : Prop := fnExactAreAlikeUptoRow.holds Try.pinned (OpenSpec.upto fnExactAreAlikeSpec)

/-- 'laws.FnExactTurnStep', WHERE WHAT IT READS IS OF BULK AT MOST 1048576: true; the input reads as it did. -/
def fnExactTurnStepUptoRow : OpenClaim := { program := "ytcomebceanajmaa", sum := "7db6ff455c0a4cfdc4076b597ff139072973498f5fc2c744a950f8003f2637d9", func := "loop.example/g03103/laws.FnExactTurnStep", spec := "fnExactTurnStep", apart := false, narrowed := true }
def FnExactTurnStepUptoSaid : Prop := fnExactTurnStepUptoRow.holds Try.pinned (OpenSpec.upto fnExactTurnStepSpec)

/-- 'laws.FnExactPartsOf', WHERE WHAT IT READS IS OF BULK AT MOST 1048576: true; the input reads as it did. -/
def fnExactPartsOfUptoRow : OpenClaim := { program := "ytcomebceanajmaa", sum := "7db6ff455c0a4cfdc4076b597ff139072973498f5fc2c744a950f8003f2637d9", func := "loop.example/g03103/laws.FnExactPartsOf", spec := "fnExactPartsOf", unfollowed := true, recurses := true, apart := false, narrowed := true }
def FnExactPartsOfUptoSaid : Prop := fnExactPartsOfUptoRow.holds Try.pinned (OpenSpec.upto fnExactPartsOfSpec)

/-- 'laws.FnExactIsResolving', WHERE WHAT IT READS IS OF BULK AT MOST 1048576: true; the input reads as it did. -/
def fnExactIsResolvingUptoRow : OpenClaim := { program := "ytcomebceanajmaa", sum := "7db6ff455c0a4cfdc4076b597ff139072973498f5fc2c744a950f8003f2637d9", func := "loop.example/g03103/laws.FnExactIsResolving", spec := "fnExactIsResolving", apart := false, narrowed := true }
def FnExactIsResolvingUptoSaid : Prop := fnExactIsResolvingUptoRow.holds Try.pinned (OpenSpec.upto fnExactIsResolvingSpec)

/-- 'laws.FnExactTableTimes', WHERE WHAT IT READS IS OF BULK AT MOST 1048576: true; the input reads as it did. -/
def fnExactTableTimesUptoRow : OpenClaim := { program := "ytcomebceanajmaa", sum := "7db6ff455c0a4cfdc4076b597ff139072973498f5fc2c744a950f8003f2637d9", func := "loop.example/g03103/laws.FnExactTableTimes", spec := "fnExactTableTimes", apart := false, narrowed := true }
def FnExactTableTimesUptoSaid : Prop := fnExactTableTimesUptoRow.holds Try.pinned (OpenSpec.upto fnExactTableTimesSpec)

/-- 'laws.FnExactRenameGraph', WHERE WHAT IT READS IS OF BULK AT MOST 1048576: true; the input reads as it did. -/
def fnExactRenameGraphUptoRow : OpenClaim := { program := "ytcomebceanajmaa", sum := "7db6ff455c0a4cfdc4076b597ff139072973498f5fc2c744a950f8003f2637d9", func := "loop.example/g03103/laws.FnExactRenameGraph", spec := "fnExactRenameGraph", apart := false, narrowed := true }
def FnExactRenameGraphUptoSaid : Prop := fnExactRenameGraphUptoRow.holds Try.pinned (OpenSpec.upto fnExactRenameGraphSpec)

/-- 'laws.FnExactSplitOut', WHERE WHAT IT READS IS OF BULK AT MOST 1048576: true; the input reads as it did. -/
def fnExactSplitOutUptoRow : OpenClaim := { program := "ytcomebceanajmaa", sum := "7db6ff455c0a4cfdc4076b597ff139072973498f5fc2c744a950f8003f2637d9", func := "loop.example/g03103/laws.FnExactSplitOut", spec := "fnExactSplitOut", apart := false, narrowed := true }
def FnExactSplitOutUptoSaid : Prop := fnExactSplitOutUptoRow.holds Try.pinned (OpenSpec.upto fnExactSplitOutSpec)

/-- 'laws.FnExactJoinOut', WHERE WHAT IT READS IS OF BULK AT MOST 1048576: true; the input reads as it did. -/
def fnExactJoinOutUptoRow : OpenClaim := { program := "ytcomebceanajmaa", sum := "7db6ff455c0a4cfdc4076b597ff139072973498f5fc2c744a950f8003f2637d9", func := "loop.example/g03103/laws.FnExactJoinOut", spec := "fnExactJoinOut", apart := false, narrowed := true }
def FnExactJoinOutUptoSaid : Prop := fnExactJoinOutUptoRow.holds Try.pinned (OpenSpec.upto fnExactJoinOutSpec)

/-- 'laws.FnExactIsJoined', WHERE WHAT IT READS IS OF BULK AT MOST 1048576: true; the input reads as it did. -/
def fnExactIsJoinedUptoRow : OpenClaim := { program := "ytcomebceanajmaa", sum := "7db6ff455c0a4cfdc4076b597ff139072973498f5fc2c744a950f8003f2637d9", func := "loop.example/g03103/laws.FnExactIsJoined", spec := "fnExactIsJoined", apart := false, narrowed := true }
def FnExactIsJoinedUptoSaid : Prop := fnExactIsJoinedUptoRow.holds Try.pinned (OpenSpec.upto fnExactIsJoinedSpec)

/-- 'laws.FnExactSplitPair', WHERE WHAT IT READS IS OF BULK AT MOST 1048576: true; the input reads as it did. -/
def fnExactSplitPairUptoRow : OpenClaim := { program := "ytcomebceanajmaa", sum := "7db6ff455c0a4cfdc4076b597ff139072973498f5fc2c744a950f8003f2637d9", func := "loop.example/g03103/laws.FnExactSplitPair", spec := "fnExactSplitPair", apart := false, narrowed := true }
def FnExactSplitPairUptoSaid : Prop := fnExactSplitPairUptoRow.holds Try.pinned (OpenSpec.upto fnExactSplitPairSpec)

/-- 'laws.FnExactClosedPaths', WHERE WHAT IT READS IS OF BULK AT MOST 1048576: true; the input reads as it did. -/
def fnExactClosedPathsUptoRow : OpenClaim := { program := "ytcomebceanajmaa", sum := "7db6ff455c0a4cfdc4076b597ff139072973498f5fc2c744a950f8003f2637d9", func := "loop.example/g03103/laws.FnExactClosedPaths", spec := "fnExactClosedPaths", apart := false, narrowed := true }
def FnExactClosedPathsUptoSaid : Prop := fnExactClosedPathsUptoRow.holds Try.pinned (OpenSpec.upto fnExactClosedPathsSpec)

end Rows
end Go.Proofs.Ytcomebceanajmaa
