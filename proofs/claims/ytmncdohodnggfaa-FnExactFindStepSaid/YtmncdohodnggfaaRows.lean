/-
  No cell of these rows narrows 'for every input' (looked for: loops, veiled, ifaces, maps, wideKeys, modest, calm, conditions, laid).
  DERIVED. THE GIVEN ROWS OF THIS SEAT. 11 by the template 'for every input the law returns true; each argument reads behind the call as it read before'; 0 by the template 'total and deterministic' (their statements: YtmncdohodnggfaaTotals.lean).
  GIVEN WITH THE SEED: the statements are not yours to turn. If you find one false, say at which input.
  Laid BY PROGRAM, IN A SANDBOX (cutbox-rows.mjs): the forced cells as the released guide's own fill.sh prints them over the translation 4573933d11c8126a… (all of the seat's roots in one cut). By AI agents, Wed Nov 11 2026. No macro, syntax, notation, axiom, sorry.
-/
import Derived.Test.YtmncdohodnggfaaChecked
import GoSem.Claim
import GoSem.ClaimJoined
import GoSem.ClaimMapViews
import Derived.JoinedTies
import Derived.KernelRfl
namespace Go.Proofs.Ytmncdohodnggfaa
/- THE CELL 'sum', in the pinned program and in every row, IS THE sha256 OF THE DUMP (.gsa) THAT YtmncdohodnggfaaProg.lean LOADS. Nothing in Lean hashes anything: it is a label: what it is worth is what the hold of that sum in a sandbox is worth. -/
noncomputable def Try.pinned : Pinned := { name := "ytmncdohodnggfaa", sum := "4573933d11c8126a16eca9744988d9bb630a6e0f63a4f04c278c5e2924728d9f", checked := Try.checked }
namespace Rows
def none {H : Type} : Left H := { results := [], args := [] }

/-- 'laws.FnExactIsResolving': WHATEVER THE INPUT: true; the input reads as it did. -/
def fnExactIsResolvingSpec : ChangeSpec := { name := "fnExactIsResolving", fn := fun _ => fun
  | [d] => { results := [.lit (.bool true)], args := [d] }
  | _ => none }
def fnExactIsResolvingRow : OpenClaim := { program := "ytmncdohodnggfaa", sum := "4573933d11c8126a16eca9744988d9bb630a6e0f63a4f04c278c5e2924728d9f", func := "loop.example/g03103/laws.FnExactIsResolving", spec := "fnExactIsResolving", apart := false }
def FnExactIsResolvingSaid : Prop := fnExactIsResolvingRow.holds Try.pinned (OpenSpec.ofChange fnExactIsResolvingSpec)

/-- ITS FALSE NEIGHBOUR: 'it returns false'. Refute it at one input. -/
def fnExactIsResolvingWrong : ChangeSpec := { name := "fnExactIsResolving", fn := fun _ => fun
  | [d] => { results := [.lit (.bool false)], args := [d] }
  | _ => none }
def FnExactIsResolvingWrongFalsely : Prop := fnExactIsResolvingRow.holds Try.pinned (OpenSpec.ofChange fnExactIsResolvingWrong)

/-- 'laws.FnExactMatrixOf': WHATEVER THE INPUT: true; the input reads as it did. -/
def fnExactMatrixOfSpec : ChangeSpec := { name := "fnExactMatrixOf", fn := fun _ => fun
  | [d] => { results := [.lit (.bool true)], args := [d] }
  | _ => none }
def fnExactMatrixOfRow : OpenClaim := { program := "ytmncdohodnggfaa", sum := "4573933d11c8126a16eca9744988d9bb630a6e0f63a4f04c278c5e2924728d9f", func := "loop.example/g03103/laws.FnExactMatrixOf", spec := "fnExactMatrixOf", apart := false }
def FnExactMatrixOfSaid : Prop := fnExactMatrixOfRow.holds Try.pinned (OpenSpec.ofChange fnExactMatrixOfSpec)

/-- ITS FALSE NEIGHBOUR: 'it returns false'. Refute it at one input. -/
def fnExactMatrixOfWrong : ChangeSpec := { name := "fnExactMatrixOf", fn := fun _ => fun
  | [d] => { results := [.lit (.bool false)], args := [d] }
  | _ => none }
def FnExactMatrixOfWrongFalsely : Prop := fnExactMatrixOfRow.holds Try.pinned (OpenSpec.ofChange fnExactMatrixOfWrong)

/-- 'laws.FnExactReadFrom': WHATEVER THE INPUT: true; the input reads as it did. -/
def fnExactReadFromSpec : ChangeSpec := { name := "fnExactReadFrom", fn := fun _ => fun
  | [d1, d2, d3] => { results := [.lit (.bool true)], args := [d1, d2, d3] }
  | _ => none }
def fnExactReadFromRow : OpenClaim := { program := "ytmncdohodnggfaa", sum := "4573933d11c8126a16eca9744988d9bb630a6e0f63a4f04c278c5e2924728d9f", func := "loop.example/g03103/laws.FnExactReadFrom", spec := "fnExactReadFrom", apart := false }
def FnExactReadFromSaid : Prop := fnExactReadFromRow.holds Try.pinned (OpenSpec.ofChange fnExactReadFromSpec)

/-- ITS FALSE NEIGHBOUR: 'it returns false'. Refute it at one input. -/
def fnExactReadFromWrong : ChangeSpec := { name := "fnExactReadFrom", fn := fun _ => fun
  | [d1, d2, d3] => { results := [.lit (.bool false)], args := [d1, d2, d3] }
  | _ => none }
def FnExactReadFromWrongFalsely : Prop := fnExactReadFromRow.holds Try.pinned (OpenSpec.ofChange fnExactReadFromWrong)

/-- 'laws.FnExactReadsWord': WHATEVER THE INPUT: true; the input reads as it did. -/
def fnExactReadsWordSpec : ChangeSpec := { name := "fnExactReadsWord", fn := fun _ => fun
  | [d1, d2] => { results := [.lit (.bool true)], args := [d1, d2] }
  | _ => none }
def fnExactReadsWordRow : OpenClaim := { program := "ytmncdohodnggfaa", sum := "4573933d11c8126a16eca9744988d9bb630a6e0f63a4f04c278c5e2924728d9f", func := "loop.example/g03103/laws.FnExactReadsWord", spec := "fnExactReadsWord", apart := false }
def FnExactReadsWordSaid : Prop := fnExactReadsWordRow.holds Try.pinned (OpenSpec.ofChange fnExactReadsWordSpec)

/-- ITS FALSE NEIGHBOUR: 'it returns false'. Refute it at one input. -/
def fnExactReadsWordWrong : ChangeSpec := { name := "fnExactReadsWord", fn := fun _ => fun
  | [d1, d2] => { results := [.lit (.bool false)], args := [d1, d2] }
  | _ => none }
def FnExactReadsWordWrongFalsely : Prop := fnExactReadsWordRow.holds Try.pinned (OpenSpec.ofChange fnExactReadsWordWrong)

/-- 'laws.FnExactWordRank': WHATEVER THE INPUT: true; the input reads as it did. -/
def fnExactWordRankSpec : ChangeSpec := { name := "fnExactWordRank", fn := fun _ => fun
  | [d1, d2] => { results := [.lit (.bool true)], args := [d1, d2] }
  | _ => none }
def fnExactWordRankRow : OpenClaim := { program := "ytmncdohodnggfaa", sum := "4573933d11c8126a16eca9744988d9bb630a6e0f63a4f04c278c5e2924728d9f", func := "loop.example/g03103/laws.FnExactWordRank", spec := "fnExactWordRank", apart := false }
def FnExactWordRankSaid : Prop := fnExactWordRankRow.holds Try.pinned (OpenSpec.ofChange fnExactWordRankSpec)

/-- ITS FALSE NEIGHBOUR: 'it returns false'. Refute it at one input. -/
def fnExactWordRankWrong : ChangeSpec := { name := "fnExactWordRank", fn := fun _ => fun
  | [d1, d2] => { results := [.lit (.bool false)], args := [d1, d2] }
  | _ => none }
def FnExactWordRankWrongFalsely : Prop := fnExactWordRankRow.holds Try.pinned (OpenSpec.ofChange fnExactWordRankWrong)

/-- 'laws.FnExactIsSynchronizing': WHATEVER THE INPUT: true; the input reads as it did. -/
def fnExactIsSynchronizingSpec : ChangeSpec := { name := "fnExactIsSynchronizing", fn := fun _ => fun
  | [d1, d2] => { results := [.lit (.bool true)], args := [d1, d2] }
  | _ => none }
def fnExactIsSynchronizingRow : OpenClaim := { program := "ytmncdohodnggfaa", sum := "4573933d11c8126a16eca9744988d9bb630a6e0f63a4f04c278c5e2924728d9f", func := "loop.example/g03103/laws.FnExactIsSynchronizing", spec := "fnExactIsSynchronizing", apart := false }
def FnExactIsSynchronizingSaid : Prop := fnExactIsSynchronizingRow.holds Try.pinned (OpenSpec.ofChange fnExactIsSynchronizingSpec)

/-- ITS FALSE NEIGHBOUR: 'it returns false'. Refute it at one input. -/
def fnExactIsSynchronizingWrong : ChangeSpec := { name := "fnExactIsSynchronizing", fn := fun _ => fun
  | [d1, d2] => { results := [.lit (.bool false)], args := [d1, d2] }
  | _ => none }
def FnExactIsSynchronizingWrongFalsely : Prop := fnExactIsSynchronizingRow.holds Try.pinned (OpenSpec.ofChange fnExactIsSynchronizingWrong)

/-- 'laws.FnExactTrimLabels': WHATEVER THE INPUT: true; the input reads as it did. -/
def fnExactTrimLabelsSpec : ChangeSpec := { name := "fnExactTrimLabels", fn := fun _ => fun
  | [d] => { results := [.lit (.bool true)], args := [d] }
  | _ => none }
def fnExactTrimLabelsRow : OpenClaim := { program := "ytmncdohodnggfaa", sum := "4573933d11c8126a16eca9744988d9bb630a6e0f63a4f04c278c5e2924728d9f", func := "loop.example/g03103/laws.FnExactTrimLabels", spec := "fnExactTrimLabels", apart := false }
def FnExactTrimLabelsSaid : Prop := fnExactTrimLabelsRow.holds Try.pinned (OpenSpec.ofChange fnExactTrimLabelsSpec)

/-- ITS FALSE NEIGHBOUR: 'it returns false'. Refute it at one input. -/
def fnExactTrimLabelsWrong : ChangeSpec := { name := "fnExactTrimLabels", fn := fun _ => fun
  | [d] => { results := [.lit (.bool false)], args := [d] }
  | _ => none }
def FnExactTrimLabelsWrongFalsely : Prop := fnExactTrimLabelsRow.holds Try.pinned (OpenSpec.ofChange fnExactTrimLabelsWrong)

/-- 'laws.FnExactPartsOf': WHATEVER THE INPUT: true; the input reads as it did. -/
def fnExactPartsOfSpec : ChangeSpec := { name := "fnExactPartsOf", fn := fun _ => fun
  | [d] => { results := [.lit (.bool true)], args := [d] }
  | _ => none }
def fnExactPartsOfRow : OpenClaim := { program := "ytmncdohodnggfaa", sum := "4573933d11c8126a16eca9744988d9bb630a6e0f63a4f04c278c5e2924728d9f", func := "loop.example/g03103/laws.FnExactPartsOf", spec := "fnExactPartsOf", unfollowed := true, recurses := true, apart := false }
def FnExactPartsOfSaid : Prop := fnExactPartsOfRow.holds Try.pinned (OpenSpec.ofChange fnExactPartsOfSpec)

/-- ITS FALSE NEIGHBOUR: 'it returns false'. Refute it at one input. -/
def fnExactPartsOfWrong : ChangeSpec := { name := "fnExactPartsOf", fn := fun _ => fun
  | [d] => { results := [.lit (.bool false)], args := [d] }
  | _ => none }
def FnExactPartsOfWrongFalsely : Prop := fnExactPartsOfRow.holds Try.pinned (OpenSpec.ofChange fnExactPartsOfWrong)

/-- 'laws.FnExactIsLag': WHATEVER THE INPUT: true; the input reads as it did. -/
def fnExactIsLagSpec : ChangeSpec := { name := "fnExactIsLag", fn := fun _ => fun
  | [d1, d2, d3, d4] => { results := [.lit (.bool true)], args := [d1, d2, d3, d4] }
  | _ => none }
def fnExactIsLagRow : OpenClaim := { program := "ytmncdohodnggfaa", sum := "4573933d11c8126a16eca9744988d9bb630a6e0f63a4f04c278c5e2924728d9f", func := "loop.example/g03103/laws.FnExactIsLag", spec := "fnExactIsLag", unfollowed := true, recurses := true, apart := false }
def FnExactIsLagSaid : Prop := fnExactIsLagRow.holds Try.pinned (OpenSpec.ofChange fnExactIsLagSpec)

/-- ITS FALSE NEIGHBOUR: 'it returns false'. Refute it at one input. -/
def fnExactIsLagWrong : ChangeSpec := { name := "fnExactIsLag", fn := fun _ => fun
  | [d1, d2, d3, d4] => { results := [.lit (.bool false)], args := [d1, d2, d3, d4] }
  | _ => none }
def FnExactIsLagWrongFalsely : Prop := fnExactIsLagRow.holds Try.pinned (OpenSpec.ofChange fnExactIsLagWrong)

/-- 'laws.FnExactIsChain': WHATEVER THE INPUT: true; the input reads as it did. -/
def fnExactIsChainSpec : ChangeSpec := { name := "fnExactIsChain", fn := fun _ => fun
  | [d1, d2] => { results := [.lit (.bool true)], args := [d1, d2] }
  | _ => none }
def fnExactIsChainRow : OpenClaim := { program := "ytmncdohodnggfaa", sum := "4573933d11c8126a16eca9744988d9bb630a6e0f63a4f04c278c5e2924728d9f", func := "loop.example/g03103/laws.FnExactIsChain", spec := "fnExactIsChain", unfollowed := true, recurses := true, apart := false }
def FnExactIsChainSaid : Prop := fnExactIsChainRow.holds Try.pinned (OpenSpec.ofChange fnExactIsChainSpec)

/-- ITS FALSE NEIGHBOUR: 'it returns false'. Refute it at one input. -/
def fnExactIsChainWrong : ChangeSpec := { name := "fnExactIsChain", fn := fun _ => fun
  | [d1, d2] => { results := [.lit (.bool false)], args := [d1, d2] }
  | _ => none }
def FnExactIsChainWrongFalsely : Prop := fnExactIsChainRow.holds Try.pinned (OpenSpec.ofChange fnExactIsChainWrong)

/-- 'laws.FnExactFindStep': WHATEVER THE INPUT: true; the input reads as it did. -/
def fnExactFindStepSpec : ChangeSpec := { name := "fnExactFindStep", fn := fun _ => fun
  | [d1, d2] => { results := [.lit (.bool true)], args := [d1, d2] }
  | _ => none }
def fnExactFindStepRow : OpenClaim := { program := "ytmncdohodnggfaa", sum := "4573933d11c8126a16eca9744988d9bb630a6e0f63a4f04c278c5e2924728d9f", func := "loop.example/g03103/laws.FnExactFindStep", spec := "fnExactFindStep", unfollowed := true, recurses := true, apart := false }
def FnExactFindStepSaid : Prop := fnExactFindStepRow.holds Try.pinned (OpenSpec.ofChange fnExactFindStepSpec)

/-- ITS FALSE NEIGHBOUR: 'it returns false'. Refute it at one input. -/
def fnExactFindStepWrong : ChangeSpec := { name := "fnExactFindStep", fn := fun _ => fun
  | [d1, d2] => { results := [.lit (.bool false)], args := [d1, d2] }
  | _ => none }
def FnExactFindStepWrongFalsely : Prop := fnExactFindStepRow.holds Try.pinned (OpenSpec.ofChange fnExactFindStepWrong)

/- THE SECOND FORM. 'bulk': how many values and letters a reading holds, each counted each time it is reached (what is shared counts as often as it is met; a slice's spare places count too). A statement '..UptoSaid' is the law's where the arguments, and the package variables that the reading takes, are together of bulk at most 1048576: NARROWER than '..Said'. Prove '..Said' where nothing that the law and all that it calls make is longer than what came in: it says more and counts as full. Else prove '..UptoSaid'. A law counts once. -/
mutual
def uptoBulk {H : Type} : DataW H → Nat
  | .lit (.string bytes) => bytes.length + 1
  | .lit _ => 1
  | .nil => 1
  | .ptr d => uptoBulk d + 1
  | .slice elems spare => uptoBulkAll elems + uptoBulkAll spare + 1
  | .agg parts => uptoBulkAll parts + 1
  | .iface _ d => uptoBulk d + 1
  | .map entries => uptoBulkEntries entries + 1
  | .held _ => 1
def uptoBulkAll {H : Type} : List (DataW H) → Nat
  | [] => 0
  | d :: r => uptoBulk d + uptoBulkAll r
def uptoBulkEntries {H : Type} : List (Lit × DataW H) → Nat
  | [] => 0
  | x :: r => uptoBulkEntry x + uptoBulkEntries r
def uptoBulkEntry {H : Type} : Lit × DataW H → Nat
  | (.string bytes, d) => bytes.length + uptoBulk d + 1
  | (_, d) => uptoBulk d + 1
 end
def uptoSmall : (H : Type) → List (DataW H) → Bool := fun _ ds => decide (uptoBulkAll ds ≤ 1048576)
def OpenSpec.upto (s : _root_.Go.ChangeSpec) : _root_.Go.OpenSpec := { _root_.Go.OpenSpec.ofChange s with cond := some uptoSmall }

/-- 'laws.FnExactIsResolving', WHERE WHAT IT READS IS OF BULK AT MOST 1048576: true; the input reads as it did. -/
def fnExactIsResolvingUptoRow : OpenClaim := { program := "ytmncdohodnggfaa", sum := "4573933d11c8126a16eca9744988d9bb630a6e0f63a4f04c278c5e2924728d9f", func := "loop.example/g03103/laws.FnExactIsResolving", spec := "fnExactIsResolving", apart := false, narrowed := true }
def FnExactIsResolvingUptoSaid : Prop := fnExactIsResolvingUptoRow.holds Try.pinned (OpenSpec.upto fnExactIsResolvingSpec)

/-- 'laws.FnExactMatrixOf', WHERE WHAT IT READS IS OF BULK AT MOST 1048576: true; the input reads as it did. -/
def fnExactMatrixOfUptoRow : OpenClaim := { program := "ytmncdohodnggfaa", sum := "4573933d11c8126a16eca9744988d9bb630a6e0f63a4f04c278c5e2924728d9f", func := "loop.example/g03103/laws.FnExactMatrixOf", spec := "fnExactMatrixOf", apart := false, narrowed := true }
def FnExactMatrixOfUptoSaid : Prop := fnExactMatrixOfUptoRow.holds Try.pinned (OpenSpec.upto fnExactMatrixOfSpec)

/-- 'laws.FnExactReadFrom', WHERE WHAT IT READS IS OF BULK AT MOST 1048576: true; the input reads as it did. -/
def fnExactReadFromUptoRow : OpenClaim := { program := "ytmncdohodnggfaa", sum := "4573933d11c8126a16eca9744988d9bb630a6e0f63a4f04c278c5e2924728d9f", func := "loop.example/g03103/laws.FnExactReadFrom", spec := "fnExactReadFrom", apart := false, narrowed := true }
def FnExactReadFromUptoSaid : Prop := fnExactReadFromUptoRow.holds Try.pinned (OpenSpec.upto fnExactReadFromSpec)

/-- 'laws.FnExactReadsWord', WHERE WHAT IT READS IS OF BULK AT MOST 1048576: true; the input reads as it did. -/
def fnExactReadsWordUptoRow : OpenClaim := { program := "ytmncdohodnggfaa", sum := "4573933d11c8126a16eca9744988d9bb630a6e0f63a4f04c278c5e2924728d9f", func := "loop.example/g03103/laws.FnExactReadsWord", spec := "fnExactReadsWord", apart := false, narrowed := true }
def FnExactReadsWordUptoSaid : Prop := fnExactReadsWordUptoRow.holds Try.pinned (OpenSpec.upto fnExactReadsWordSpec)

/-- 'laws.FnExactWordRank', WHERE WHAT IT READS IS OF BULK AT MOST 1048576: true; the input reads as it did. -/
def fnExactWordRankUptoRow : OpenClaim := { program := "ytmncdohodnggfaa", sum := "4573933d11c8126a16eca9744988d9bb630a6e0f63a4f04c278c5e2924728d9f", func := "loop.example/g03103/laws.FnExactWordRank", spec := "fnExactWordRank", apart := false, narrowed := true }
def FnExactWordRankUptoSaid : Prop := fnExactWordRankUptoRow.holds Try.pinned (OpenSpec.upto fnExactWordRankSpec)

/-- 'laws.FnExactIsSynchronizing', WHERE WHAT IT READS IS OF BULK AT MOST 1048576: true; the input reads as it did. -/
def fnExactIsSynchronizingUptoRow : OpenClaim := { program := "ytmncdohodnggfaa", sum := "4573933d11c8126a16eca9744988d9bb630a6e0f63a4f04c278c5e2924728d9f", func := "loop.example/g03103/laws.FnExactIsSynchronizing", spec := "fnExactIsSynchronizing", apart := false, narrowed := true }
def FnExactIsSynchronizingUptoSaid : Prop := fnExactIsSynchronizingUptoRow.holds Try.pinned (OpenSpec.upto fnExactIsSynchronizingSpec)

/-- 'laws.FnExactTrimLabels', WHERE WHAT IT READS IS OF BULK AT MOST 1048576: true; the input reads as it did. -/
def fnExactTrimLabelsUptoRow : OpenClaim := { program := "ytmncdohodnggfaa", sum := "4573933d11c8126a16eca9744988d9bb630a6e0f63a4f04c278c5e2924728d9f", func := "loop.example/g03103/laws.FnExactTrimLabels", spec := "fnExactTrimLabels", apart := false, narrowed := true }
def FnExactTrimLabelsUptoSaid : Prop := fnExactTrimLabelsUptoRow.holds Try.pinned (OpenSpec.upto fnExactTrimLabelsSpec)

/-- 'laws.FnExactPartsOf', WHERE WHAT IT READS IS OF BULK AT MOST 1048576: true; the input reads as it did. -/
def fnExactPartsOfUptoRow : OpenClaim := { program := "ytmncdohodnggfaa", sum := "4573933d11c8126a16eca9744988d9bb630a6e0f63a4f04c278c5e2924728d9f", func := "loop.example/g03103/laws.FnExactPartsOf", spec := "fnExactPartsOf", unfollowed := true, recurses := true, apart := false, narrowed := true }
def FnExactPartsOfUptoSaid : Prop := fnExactPartsOfUptoRow.holds Try.pinned (OpenSpec.upto fnExactPartsOfSpec)

/-- 'laws.FnExactIsLag', WHERE WHAT IT READS IS OF BULK AT MOST 1048576: true; the input reads as it did. -/
def fnExactIsLagUptoRow : OpenClaim := { program := "ytmncdohodnggfaa", sum := "4573933d11c8126a16eca9744988d9bb630a6e0f63a4f04c278c5e2924728d9f", func := "loop.example/g03103/laws.FnExactIsLag", spec := "fnExactIsLag", unfollowed := true, recurses := true, apart := false, narrowed := true }
def FnExactIsLagUptoSaid : Prop := fnExactIsLagUptoRow.holds Try.pinned (OpenSpec.upto fnExactIsLagSpec)

/-- 'laws.FnExactIsChain', WHERE WHAT IT READS IS OF BULK AT MOST 1048576: true; the input reads as it did. -/
def fnExactIsChainUptoRow : OpenClaim := { program := "ytmncdohodnggfaa", sum := "4573933d11c8126a16eca9744988d9bb630a6e0f63a4f04c278c5e2924728d9f", func := "loop.example/g03103/laws.FnExactIsChain", spec := "fnExactIsChain", unfollowed := true, recurses := true, apart := false, narrowed := true }
def FnExactIsChainUptoSaid : Prop := fnExactIsChainUptoRow.holds Try.pinned (OpenSpec.upto fnExactIsChainSpec)

/-- 'laws.FnExactFindStep', WHERE WHAT IT READS IS OF BULK AT MOST 1048576: true; the input reads as it did. -/
def fnExactFindStepUptoRow : OpenClaim := { program := "ytmncdohodnggfaa", sum := "4573933d11c8126a16eca9744988d9bb630a6e0f63a4f04c278c5e2924728d9f", func := "loop.example/g03103/laws.FnExactFindStep", spec := "fnExactFindStep", unfollowed := true, recurses := true, apart := false, narrowed := true }
def FnExactFindStepUptoSaid : Prop := fnExactFindStepUptoRow.holds Try.pinned (OpenSpec.upto fnExactFindStepSpec)

end Rows
end Go.Proofs.Ytmncdohodnggfaa
