/-
  No cell of these rows narrows 'for every input' (looked for: loops, veiled, ifaces, maps, wideKeys, modest, calm, conditions, laid).
  DERIVED. THE GIVEN ROWS OF THIS SEAT. 12 by the template 'for every input the law returns true; each argument reads behind the call as it read before'; 0 by the template 'total and deterministic' (their statements: YtiecliglmfampaaTotals.lean).
  GIVEN WITH THE SEED: the statements are not yours to turn. If you find one false, say at which input.
  Laid BY PROGRAM, IN A SANDBOX (cutbox-rows.mjs): the forced cells as the released guide's own fill.sh prints them over the translation b2a877791e3b80e1… (all of the seat's roots in one cut). By AI agents, Wed Nov 11 2026. No macro, syntax, notation, axiom, sorry.
-/
import Derived.Test.YtiecliglmfampaaChecked
import GoSem.Claim
import GoSem.ClaimJoined
import GoSem.ClaimMapViews
import Derived.JoinedTies
import Derived.KernelRfl
namespace Go.Proofs.Ytiecliglmfampaa
/- THE CELL 'sum', in the pinned program and in every row, IS THE sha256 OF THE DUMP (.gsa) THAT YtiecliglmfampaaProg.lean LOADS. Nothing in Lean hashes anything: it is a label: what it is worth is what the hold of that sum in a sandbox is worth. -/
noncomputable def Try.pinned : Pinned := { name := "ytiecliglmfampaa", sum := "b2a877791e3b80e163659d5b8420a7df8e369c190fbf8876f59bf6c81bbefd9c", checked := Try.checked }
namespace Rows
def none {H : Type} : Left H := { results := [], args := [] }

/-- 'laws.FnExactSplitOut': WHATEVER THE INPUT: true; the input reads as it did. -/
def fnExactSplitOutSpec : ChangeSpec := { name := "fnExactSplitOut", fn := fun _ => fun
  | [d1, d2, d3] => { results := [.lit (.bool true)], args := [d1, d2, d3] }
  | _ => none }
def fnExactSplitOutRow : OpenClaim := { program := "ytiecliglmfampaa", sum := "b2a877791e3b80e163659d5b8420a7df8e369c190fbf8876f59bf6c81bbefd9c", func := "loop.example/g03103/laws.FnExactSplitOut", spec := "fnExactSplitOut", apart := false }
def FnExactSplitOutSaid : Prop := fnExactSplitOutRow.holds Try.pinned (OpenSpec.ofChange fnExactSplitOutSpec)

/-- ITS FALSE NEIGHBOUR: 'it returns false'. Refute it at one input. -/
def fnExactSplitOutWrong : ChangeSpec := { name := "fnExactSplitOut", fn := fun _ => fun
  | [d1, d2, d3] => { results := [.lit (.bool false)], args := [d1, d2, d3] }
  | _ => none }
def FnExactSplitOutWrongFalsely : Prop := fnExactSplitOutRow.holds Try.pinned (OpenSpec.ofChange fnExactSplitOutWrong)

/-- 'laws.FnExactSplitPair': WHATEVER THE INPUT: true; the input reads as it did. -/
def fnExactSplitPairSpec : ChangeSpec := { name := "fnExactSplitPair", fn := fun _ => fun
  | [d1, d2, d3] => { results := [.lit (.bool true)], args := [d1, d2, d3] }
  | _ => none }
def fnExactSplitPairRow : OpenClaim := { program := "ytiecliglmfampaa", sum := "b2a877791e3b80e163659d5b8420a7df8e369c190fbf8876f59bf6c81bbefd9c", func := "loop.example/g03103/laws.FnExactSplitPair", spec := "fnExactSplitPair", apart := false }
def FnExactSplitPairSaid : Prop := fnExactSplitPairRow.holds Try.pinned (OpenSpec.ofChange fnExactSplitPairSpec)

/-- ITS FALSE NEIGHBOUR: 'it returns false'. Refute it at one input. -/
def fnExactSplitPairWrong : ChangeSpec := { name := "fnExactSplitPair", fn := fun _ => fun
  | [d1, d2, d3] => { results := [.lit (.bool false)], args := [d1, d2, d3] }
  | _ => none }
def FnExactSplitPairWrongFalsely : Prop := fnExactSplitPairRow.holds Try.pinned (OpenSpec.ofChange fnExactSplitPairWrong)

/-- 'laws.FnExactJoinAll': WHATEVER THE INPUT: true; the input reads as it did. -/
def fnExactJoinAllSpec : ChangeSpec := { name := "fnExactJoinAll", fn := fun _ => fun
  | [d] => { results := [.lit (.bool true)], args := [d] }
  | _ => none }
def fnExactJoinAllRow : OpenClaim := { program := "ytiecliglmfampaa", sum := "b2a877791e3b80e163659d5b8420a7df8e369c190fbf8876f59bf6c81bbefd9c", func := "loop.example/g03103/laws.FnExactJoinAll", spec := "fnExactJoinAll", apart := false }
def FnExactJoinAllSaid : Prop := fnExactJoinAllRow.holds Try.pinned (OpenSpec.ofChange fnExactJoinAllSpec)

/-- ITS FALSE NEIGHBOUR: 'it returns false'. Refute it at one input. -/
def fnExactJoinAllWrong : ChangeSpec := { name := "fnExactJoinAll", fn := fun _ => fun
  | [d] => { results := [.lit (.bool false)], args := [d] }
  | _ => none }
def FnExactJoinAllWrongFalsely : Prop := fnExactJoinAllRow.holds Try.pinned (OpenSpec.ofChange fnExactJoinAllWrong)

/-- 'laws.FnExactJoinIn': WHATEVER THE INPUT: true; the input reads as it did. -/
def fnExactJoinInSpec : ChangeSpec := { name := "fnExactJoinIn", fn := fun _ => fun
  | [d1, d2, d3] => { results := [.lit (.bool true)], args := [d1, d2, d3] }
  | _ => none }
def fnExactJoinInRow : OpenClaim := { program := "ytiecliglmfampaa", sum := "b2a877791e3b80e163659d5b8420a7df8e369c190fbf8876f59bf6c81bbefd9c", func := "loop.example/g03103/laws.FnExactJoinIn", spec := "fnExactJoinIn", apart := false }
def FnExactJoinInSaid : Prop := fnExactJoinInRow.holds Try.pinned (OpenSpec.ofChange fnExactJoinInSpec)

/-- ITS FALSE NEIGHBOUR: 'it returns false'. Refute it at one input. -/
def fnExactJoinInWrong : ChangeSpec := { name := "fnExactJoinIn", fn := fun _ => fun
  | [d1, d2, d3] => { results := [.lit (.bool false)], args := [d1, d2, d3] }
  | _ => none }
def FnExactJoinInWrongFalsely : Prop := fnExactJoinInRow.holds Try.pinned (OpenSpec.ofChange fnExactJoinInWrong)

/-- 'laws.FnExactSplitIn': WHATEVER THE INPUT: true; the input reads as it did. -/
def fnExactSplitInSpec : ChangeSpec := { name := "fnExactSplitIn", fn := fun _ => fun
  | [d1, d2, d3] => { results := [.lit (.bool true)], args := [d1, d2, d3] }
  | _ => none }
def fnExactSplitInRow : OpenClaim := { program := "ytiecliglmfampaa", sum := "b2a877791e3b80e163659d5b8420a7df8e369c190fbf8876f59bf6c81bbefd9c", func := "loop.example/g03103/laws.FnExactSplitIn", spec := "fnExactSplitIn", apart := false }
def FnExactSplitInSaid : Prop := fnExactSplitInRow.holds Try.pinned (OpenSpec.ofChange fnExactSplitInSpec)

/-- ITS FALSE NEIGHBOUR: 'it returns false'. Refute it at one input. -/
def fnExactSplitInWrong : ChangeSpec := { name := "fnExactSplitIn", fn := fun _ => fun
  | [d1, d2, d3] => { results := [.lit (.bool false)], args := [d1, d2, d3] }
  | _ => none }
def FnExactSplitInWrongFalsely : Prop := fnExactSplitInRow.holds Try.pinned (OpenSpec.ofChange fnExactSplitInWrong)

/-- 'laws.FnExactAreOneSided': WHATEVER THE INPUT: true; the input reads as it did. -/
def fnExactAreOneSidedSpec : ChangeSpec := { name := "fnExactAreOneSided", fn := fun _ => fun
  | [d1, d2] => { results := [.lit (.bool true)], args := [d1, d2] }
  | _ => none }
def fnExactAreOneSidedRow : OpenClaim := { program := "ytiecliglmfampaa", sum := "b2a877791e3b80e163659d5b8420a7df8e369c190fbf8876f59bf6c81bbefd9c", func := "loop.example/g03103/laws.FnExactAreOneSided", spec := "fnExactAreOneSided", recurses := true, apart := false }
def FnExactAreOneSidedSaid : Prop := fnExactAreOneSidedRow.holds Try.pinned (OpenSpec.ofChange fnExactAreOneSidedSpec)

/-- ITS FALSE NEIGHBOUR: 'it returns false'. Refute it at one input. -/
def fnExactAreOneSidedWrong : ChangeSpec := { name := "fnExactAreOneSided", fn := fun _ => fun
  | [d1, d2] => { results := [.lit (.bool false)], args := [d1, d2] }
  | _ => none }
def FnExactAreOneSidedWrongFalsely : Prop := fnExactAreOneSidedRow.holds Try.pinned (OpenSpec.ofChange fnExactAreOneSidedWrong)

/-- 'laws.FnExactTurnStep': WHATEVER THE INPUT: true; the input reads as it did. -/
def fnExactTurnStepSpec : ChangeSpec := { name := "fnExactTurnStep", fn := fun _ => fun
  | [d] => { results := [.lit (.bool true)], args := [d] }
  | _ => none }
def fnExactTurnStepRow : OpenClaim := { program := "ytiecliglmfampaa", sum := "b2a877791e3b80e163659d5b8420a7df8e369c190fbf8876f59bf6c81bbefd9c", func := "loop.example/g03103/laws.FnExactTurnStep", spec := "fnExactTurnStep", apart := false }
def FnExactTurnStepSaid : Prop := fnExactTurnStepRow.holds Try.pinned (OpenSpec.ofChange fnExactTurnStepSpec)

/-- ITS FALSE NEIGHBOUR: 'it returns false'. Refute it at one input. -/
def fnExactTurnStepWrong : ChangeSpec := { name := "fnExactTurnStep", fn := fun _ => fun
  | [d] => { results := [.lit (.bool false)], args := [d] }
  | _ => none }
def FnExactTurnStepWrongFalsely : Prop := fnExactTurnStepRow.holds Try.pinned (OpenSpec.ofChange fnExactTurnStepWrong)

/-- 'laws.FnExactIsStep': WHATEVER THE INPUT: true; the input reads as it did. -/
def fnExactIsStepSpec : ChangeSpec := { name := "fnExactIsStep", fn := fun _ => fun
  | [d1, d2, d3] => { results := [.lit (.bool true)], args := [d1, d2, d3] }
  | _ => none }
def fnExactIsStepRow : OpenClaim := { program := "ytiecliglmfampaa", sum := "b2a877791e3b80e163659d5b8420a7df8e369c190fbf8876f59bf6c81bbefd9c", func := "loop.example/g03103/laws.FnExactIsStep", spec := "fnExactIsStep", unfollowed := true, recurses := true, apart := false }
def FnExactIsStepSaid : Prop := fnExactIsStepRow.holds Try.pinned (OpenSpec.ofChange fnExactIsStepSpec)

/-- ITS FALSE NEIGHBOUR: 'it returns false'. Refute it at one input. -/
def fnExactIsStepWrong : ChangeSpec := { name := "fnExactIsStep", fn := fun _ => fun
  | [d1, d2, d3] => { results := [.lit (.bool false)], args := [d1, d2, d3] }
  | _ => none }
def FnExactIsStepWrongFalsely : Prop := fnExactIsStepRow.holds Try.pinned (OpenSpec.ofChange fnExactIsStepWrong)

/-- 'laws.FnExactCountOrbits': WHATEVER THE INPUT: true; the input reads as it did. -/
def fnExactCountOrbitsSpec : ChangeSpec := { name := "fnExactCountOrbits", fn := fun _ => fun
  | [d1, d2] => { results := [.lit (.bool true)], args := [d1, d2] }
  | _ => none }
def fnExactCountOrbitsRow : OpenClaim := { program := "ytiecliglmfampaa", sum := "b2a877791e3b80e163659d5b8420a7df8e369c190fbf8876f59bf6c81bbefd9c", func := "loop.example/g03103/laws.FnExactCountOrbits", spec := "fnExactCountOrbits", apart := false }
def FnExactCountOrbitsSaid : Prop := fnExactCountOrbitsRow.holds Try.pinned (OpenSpec.ofChange fnExactCountOrbitsSpec)

/-- ITS FALSE NEIGHBOUR: 'it returns false'. Refute it at one input. -/
def fnExactCountOrbitsWrong : ChangeSpec := { name := "fnExactCountOrbits", fn := fun _ => fun
  | [d1, d2] => { results := [.lit (.bool false)], args := [d1, d2] }
  | _ => none }
def FnExactCountOrbitsWrongFalsely : Prop := fnExactCountOrbitsRow.holds Try.pinned (OpenSpec.ofChange fnExactCountOrbitsWrong)

/-- 'laws.FnExactZetaNumbers': WHATEVER THE INPUT: true; the input reads as it did. -/
def fnExactZetaNumbersSpec : ChangeSpec := { name := "fnExactZetaNumbers", fn := fun _ => fun
  | [d1, d2] => { results := [.lit (.bool true)], args := [d1, d2] }
  | _ => none }
def fnExactZetaNumbersRow : OpenClaim := { program := "ytiecliglmfampaa", sum := "b2a877791e3b80e163659d5b8420a7df8e369c190fbf8876f59bf6c81bbefd9c", func := "loop.example/g03103/laws.FnExactZetaNumbers", spec := "fnExactZetaNumbers", recurses := true, apart := false }
def FnExactZetaNumbersSaid : Prop := fnExactZetaNumbersRow.holds Try.pinned (OpenSpec.ofChange fnExactZetaNumbersSpec)

/-- ITS FALSE NEIGHBOUR: 'it returns false'. Refute it at one input. -/
def fnExactZetaNumbersWrong : ChangeSpec := { name := "fnExactZetaNumbers", fn := fun _ => fun
  | [d1, d2] => { results := [.lit (.bool false)], args := [d1, d2] }
  | _ => none }
def FnExactZetaNumbersWrongFalsely : Prop := fnExactZetaNumbersRow.holds Try.pinned (OpenSpec.ofChange fnExactZetaNumbersWrong)

/-- 'laws.FnExactSameAwayFromZero': WHATEVER THE INPUT: true; the input reads as it did. -/
def fnExactSameAwayFromZeroSpec : ChangeSpec := { name := "fnExactSameAwayFromZero", fn := fun _ => fun
  | [d1, d2] => { results := [.lit (.bool true)], args := [d1, d2] }
  | _ => none }
def fnExactSameAwayFromZeroRow : OpenClaim := { program := "ytiecliglmfampaa", sum := "b2a877791e3b80e163659d5b8420a7df8e369c190fbf8876f59bf6c81bbefd9c", func := "loop.example/g03103/laws.FnExactSameAwayFromZero", spec := "fnExactSameAwayFromZero", unfollowed := true, recurses := true, apart := false }
def FnExactSameAwayFromZeroSaid : Prop := fnExactSameAwayFromZeroRow.holds Try.pinned (OpenSpec.ofChange fnExactSameAwayFromZeroSpec)

/-- ITS FALSE NEIGHBOUR: 'it returns false'. Refute it at one input. -/
def fnExactSameAwayFromZeroWrong : ChangeSpec := { name := "fnExactSameAwayFromZero", fn := fun _ => fun
  | [d1, d2] => { results := [.lit (.bool false)], args := [d1, d2] }
  | _ => none }
def FnExactSameAwayFromZeroWrongFalsely : Prop := fnExactSameAwayFromZeroRow.holds Try.pinned (OpenSpec.ofChange fnExactSameAwayFromZeroWrong)

/-- 'laws.FnExactLeastPaths': WHATEVER THE INPUT: true; the input reads as it did. -/
def fnExactLeastPathsSpec : ChangeSpec := { name := "fnExactLeastPaths", fn := fun _ => fun
  | [d1, d2] => { results := [.lit (.bool true)], args := [d1, d2] }
  | _ => none }
def fnExactLeastPathsRow : OpenClaim := { program := "ytiecliglmfampaa", sum := "b2a877791e3b80e163659d5b8420a7df8e369c190fbf8876f59bf6c81bbefd9c", func := "loop.example/g03103/laws.FnExactLeastPaths", spec := "fnExactLeastPaths", apart := false }
def FnExactLeastPathsSaid : Prop := fnExactLeastPathsRow.holds Try.pinned (OpenSpec.ofChange fnExactLeastPathsSpec)

/-- ITS FALSE NEIGHBOUR: 'it returns false'. Refute it at one input. -/
def fnExactLeastPathsWrong : ChangeSpec := { name := "fnExactLeastPaths", fn := fun _ => fun
  | [d1, d2] => { results := [.lit (.bool false)], args := [d1, d2] }
  | _ => none }
def FnExactLeastPathsWrongFalsely : Prop := fnExactLeastPathsRow.holds Try.pinned (OpenSpec.ofChange fnExactLeastPathsWrong)

/- THE SECOND FORM. 'bulk': how many values and letters a reading holds, each counted each time it is reached (what is shared counts as often as it is met; a slice's spare places count too). A statement '..UptoSaid' is the law's where the arguments, and the package variables that the reading takes, are together of bulk at most 1048576: NARROWER than '..Said'. Prove '..Said' where nothing that the law and all that it calls make is longer than what came in: it says more and counts as full. Else prove '..UptoSaid'. A law counts once. -/
mutual
def uptoBulk {H : Type} : DataW H → Nat
  | .lit (.string bytes) => bytes.length + 1
  | .lit _ => 1
  | .nil => 1
  | .ptr d => uptoBulk d + 1
  | .slice elems spare => uptoBulkAll elems + uptoBulkAll spare + 1
  | .agg parts => uptoBulkAll parts + 1
  | .iface _ d => uptoBulk d + 1
  | .map entries => uptoBulkEntries entries + 1
  | .held _ => 1
def uptoBulkAll {H : Type} : List (DataW H) → Nat
  | [] => 0
  | d :: r => uptoBulk d + uptoBulkAll r
def uptoBulkEntries {H : Type} : List (Lit × DataW H) → Nat
  | [] => 0
  | x :: r => uptoBulkEntry x + uptoBulkEntries r
def uptoBulkEntry {H : Type} : Lit × DataW H → Nat
  | (.string bytes, d) => bytes.length + uptoBulk d + 1
  | (_, d) => uptoBulk d + 1
 end
def uptoSmall : (H : Type) → List (DataW H) → Bool := fun _ ds => decide (uptoBulkAll ds ≤ 1048576)
def OpenSpec.upto (s : _root_.Go.ChangeSpec) : _root_.Go.OpenSpec := { _root_.Go.OpenSpec.ofChange s with cond := some uptoSmall }

/-- 'laws.FnExactSplitOut', WHERE WHAT IT READS IS OF BULK AT MOST 1048576: true; the input reads as it did. -/
def fnExactSplitOutUptoRow : OpenClaim := { program := "ytiecliglmfampaa", sum := "b2a877791e3b80e163659d5b8420a7df8e369c190fbf8876f59bf6c81bbefd9c", func := "loop.example/g03103/laws.FnExactSplitOut", spec := "fnExactSplitOut", apart := false, narrowed := true }
def FnExactSplitOutUptoSaid : Prop := fnExactSplitOutUptoRow.holds Try.pinned (OpenSpec.upto fnExactSplitOutSpec)

/-- 'laws.FnExactSplitPair', WHERE WHAT IT READS IS OF BULK AT MOST 1048576: true; the input reads as it did. -/
def fnExactSplitPairUptoRow : OpenClaim := { program := "ytiecliglmfampaa", sum := "b2a877791e3b80e163659d5b8420a7df8e369c190fbf8876f59bf6c81bbefd9c", func := "loop.example/g03103/laws.FnExactSplitPair", spec := "fnExactSplitPair", apart := false, narrowed := true }
def FnExactSplitPairUptoSaid : Prop := fnExactSplitPairUptoRow.holds Try.pinned (OpenSpec.upto fnExactSplitPairSpec)

/-- 'laws.FnExactJoinAll', WHERE WHAT IT READS IS OF BULK AT MOST 1048576: true; the input reads as it did. -/
def fnExactJoinAllUptoRow : OpenClaim := { program := "ytiecliglmfampaa", sum := "b2a877791e3b80e163659d5b8420a7df8e369c190fbf8876f59bf6c81bbefd9c", func := "loop.example/g03103/laws.FnExactJoinAll", spec := "fnExactJoinAll", apart := false, narrowed := true }
def FnExactJoinAllUptoSaid : Prop := fnExactJoinAllUptoRow.holds Try.pinned (OpenSpec.upto fnExactJoinAllSpec)

/-- 'laws.FnExactJoinIn', WHERE WHAT IT READS IS OF BULK AT MOST 1048576: true; the input reads as it did. -/
def fnExactJoinInUptoRow : OpenClaim := { program := "ytiecliglmfampaa", sum := "b2a877791e3b80e163659d5b8420a7df8e369c190fbf8876f59bf6c81bbefd9c", func := "loop.example/g03103/laws.FnExactJoinIn", spec := "fnExactJoinIn", apart := false, narrowed := true }
def FnExactJoinInUptoSaid : Prop := fnExactJoinInUptoRow.holds Try.pinned (OpenSpec.upto fnExactJoinInSpec)

/-- 'laws.FnExactSplitIn', WHERE WHAT IT READS IS OF BULK AT MOST 1048576: true; the input reads as it did. -/
def fnExactSplitInUptoRow : OpenClaim := { program := "ytiecliglmfampaa", sum := "b2a877791e3b80e163659d5b8420a7df8e369c190fbf8876f59bf6c81bbefd9c", func := "loop.example/g03103/laws.FnExactSplitIn", spec := "fnExactSplitIn", apart := false, narrowed := true }
def FnExactSplitInUptoSaid : Prop := fnExactSplitInUptoRow.holds Try.pinned (OpenSpec.upto fnExactSplitInSpec)

/-- 'laws.FnExactAreOneSided', WHERE WHAT IT READS IS OF BULK AT MOST 1048576: true; the input reads as it did. -/
def fnExactAreOneSidedUptoRow : OpenClaim := { program := "ytiecliglmfampaa", sum := "b2a877791e3b80e163659d5b8420a7df8e369c190fbf8876f59bf6c81bbefd9c", func := "loop.example/g03103/laws.FnExactAreOneSided", spec := "fnExactAreOneSided", recurses := true, apart := false, narrowed := true }
def FnExactAreOneSidedUptoSaid : Prop := fnExactAreOneSidedUptoRow.holds Try.pinned (OpenSpec.upto fnExactAreOneSidedSpec)

/-- 'laws.FnExactTurnStep', WHERE WHAT IT READS IS OF BULK AT MOST 1048576: true; the input reads as it did. -/
def fnExactTurnStepUptoRow : OpenClaim := { program := "ytiecliglmfampaa", sum := "b2a877791e3b80e163659d5b8420a7df8e369c190fbf8876f59bf6c81bbefd9c", func := "loop.example/g03103/laws.FnExactTurnStep", spec := "fnExactTurnStep", apart := false, narrowed := true }
def FnExactTurnStepUptoSaid : Prop := fnExactTurnStepUptoRow.holds Try.pinned (OpenSpec.upto fnExactTurnStepSpec)

/-- 'laws.FnExactIsStep', WHERE WHAT IT READS IS OF BULK AT MOST 1048576: true; the input reads as it did. -/
def fnExactIsStepUptoRow : OpenClaim := { program := "ytiecliglmfampaa", sum := "b2a877791e3b80e163659d5b8420a7df8e369c190fbf8876f59bf6c81bbefd9c", func := "loop.example/g03103/laws.FnExactIsStep", spec := "fnExactIsStep", unfollowed := true, recurses := true, apart := false, narrowed := true }
def FnExactIsStepUptoSaid : Prop := fnExactIsStepUptoRow.holds Try.pinned (OpenSpec.upto fnExactIsStepSpec)

/-- 'laws.FnExactCountOrbits', WHERE WHAT IT READS IS OF BULK AT MOST 1048576: true; the input reads as it did. -/
def fnExactCountOrbitsUptoRow : OpenClaim := { program := "ytiecliglmfampaa", sum := "b2a877791e3b80e163659d5b8420a7df8e369c190fbf8876f59bf6c81bbefd9c", func := "loop.example/g03103/laws.FnExactCountOrbits", spec := "fnExactCountOrbits", apart := false, narrowed := true }
def FnExactCountOrbitsUptoSaid : Prop := fnExactCountOrbitsUptoRow.holds Try.pinned (OpenSpec.upto fnExactCountOrbitsSpec)

/-- 'laws.FnExactZetaNumbers', WHERE WHAT IT READS IS OF BULK AT MOST 1048576: true; the input reads as it did. -/
def fnExactZetaNumbersUptoRow : OpenClaim := { program := "ytiecliglmfampaa", sum := "b2a877791e3b80e163659d5b8420a7df8e369c190fbf8876f59bf6c81bbefd9c", func := "loop.example/g03103/laws.FnExactZetaNumbers", spec := "fnExactZetaNumbers", recurses := true, apart := false, narrowed := true }
def FnExactZetaNumbersUptoSaid : Prop := fnExactZetaNumbersUptoRow.holds Try.pinned (OpenSpec.upto fnExactZetaNumbersSpec)

/-- 'laws.FnExactSameAwayFromZero', WHERE WHAT IT READS IS OF BULK AT MOST 1048576: true; the input reads as it did. -/
def fnExactSameAwayFromZeroUptoRow : OpenClaim := { program := "ytiecliglmfampaa", sum := "b2a877791e3b80e163659d5b8420a7df8e369c190fbf8876f59bf6c81bbefd9c", func := "loop.example/g03103/laws.FnExactSameAwayFromZero", spec := "fnExactSameAwayFromZero", unfollowed := true, recurses := true, apart := false, narrowed := true }
def FnExactSameAwayFromZeroUptoSaid : Prop := fnExactSameAwayFromZeroUptoRow.holds Try.pinned (OpenSpec.upto fnExactSameAwayFromZeroSpec)

/-- 'laws.FnExactLeastPaths', WHERE WHAT IT READS IS OF BULK AT MOST 1048576: true; the input reads as it did. -/
def fnExactLeastPathsUptoRow : OpenClaim := { program := "ytiecliglmfampaa", sum := "b2a877791e3b80e163659d5b8420a7df8e369c190fbf8876f59bf6c81bbefd9c", func := "loop.example/g03103/laws.FnExactLeastPaths", spec := "fnExactLeastPaths", apart := false, narrowed := true }
def FnExactLeastPathsUptoSaid : Prop := fnExactLeastPathsUptoRow.holds Try.pinned (OpenSpec.upto fnExactLeastPathsSpec)

end Rows
end Go.Proofs.Ytiecliglmfampaa
