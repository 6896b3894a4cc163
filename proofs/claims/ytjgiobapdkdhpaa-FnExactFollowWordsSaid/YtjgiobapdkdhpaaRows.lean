/-
  No cell of these rows narrows 'for every input' (looked for: loops, veiled, ifaces, maps, wideKeys, modest, calm, conditions, laid).
  DERIVED. THE GIVEN ROWS OF THIS SEAT. 12 by the template 'for every input the law returns true; each argument reads behind the call as it read before'; 0 by the template 'total and deterministic' (their statements: YtjgiobapdkdhpaaTotals.lean).
  GIVEN WITH THE SEED: the statements are not yours to turn. If you find one false, say at which input.
  Laid BY PROGRAM, IN A SANDBOX (cutbox-rows.mjs): the forced cells as the released guide's own fill.sh prints them over the translation d8282a83b5851ce0… (all of the seat's roots in one cut). By AI agents, Wed Nov 11 2026. No macro, syntax, notation, axiom, sorry.
-/
import Derived.Test.YtjgiobapdkdhpaaChecked
import GoSem.Claim
import GoSem.ClaimJoined
import GoSem.ClaimMapViews
import Derived.JoinedTies
import Derived.KernelRfl
namespace Go.Proofs.Ytjgiobapdkdhpaa
/- THE CELL 'sum', in the pinned program and in every row, IS THE sha256 OF THE DUMP (.gsa) THAT YtjgiobapdkdhpaaProg.lean LOADS. Nothing in Lean hashes anything: it is a label: what it is worth is what the hold of that sum in a sandbox is worth. -/
noncomputable def Try.pinned : Pinned := { name := "ytjgiobapdkdhpaa", sum := "d8282a83b5851ce0fabd0ac39a8bd8e6385cadfcd02ae2b5e4a94dcaf0496ce9", checked := Try.checked }
namespace Rows
def none {H : Type} : Left H := { results := [], args := [] }

/-- 'laws.FnExactTrimLabels': WHATEVER THE INPUT: true; the input reads as it did. -/
def fnExactTrimLabelsSpec : ChangeSpec := { name := "fnExactTrimLabels", fn := fun _ => fun
  | [d] => { results := [.lit (.bool true)], args := [d] }
  | _ => none }
def fnExactTrimLabelsRow : OpenClaim := { program := "ytjgiobapdkdhpaa", sum := "d8282a83b5851ce0fabd0ac39a8bd8e6385cadfcd02ae2b5e4a94dcaf0496ce9", func := "loop.example/g03103/laws.FnExactTrimLabels", spec := "fnExactTrimLabels", plainKeys := false, apart := false }
def FnExactTrimLabelsSaid : Prop := fnExactTrimLabelsRow.holds Try.pinned (OpenSpec.ofChange fnExactTrimLabelsSpec)

/-- ITS FALSE NEIGHBOUR: 'it returns false'. Refute it at one input. -/
def fnExactTrimLabelsWrong : ChangeSpec := { name := "fnExactTrimLabels", fn := fun _ => fun
  | [d] => { results := [.lit (.bool false)], args := [d] }
  | _ => none }
def FnExactTrimLabelsWrongFalsely : Prop := fnExactTrimLabelsRow.holds Try.pinned (OpenSpec.ofChange fnExactTrimLabelsWrong)

/-- 'laws.FnExactFindLag': WHATEVER THE INPUT: true; the input reads as it did. -/
def fnExactFindLagSpec : ChangeSpec := { name := "fnExactFindLag", fn := fun _ => fun
  | [d1, d2, d3] => { results := [.lit (.bool true)], args := [d1, d2, d3] }
  | _ => none }
def fnExactFindLagRow : OpenClaim := { program := "ytjgiobapdkdhpaa", sum := "d8282a83b5851ce0fabd0ac39a8bd8e6385cadfcd02ae2b5e4a94dcaf0496ce9", func := "loop.example/g03103/laws.FnExactFindLag", spec := "fnExactFindLag", unfollowed := true, recurses := true, plainKeys := false, apart := false }
def FnExactFindLagSaid : Prop := fnExactFindLagRow.holds Try.pinned (OpenSpec.ofChange fnExactFindLagSpec)

/-- ITS FALSE NEIGHBOUR: 'it returns false'. Refute it at one input. -/
def fnExactFindLagWrong : ChangeSpec := { name := "fnExactFindLag", fn := fun _ => fun
  | [d1, d2, d3] => { results := [.lit (.bool false)], args := [d1, d2, d3] }
  | _ => none }
def FnExactFindLagWrongFalsely : Prop := fnExactFindLagRow.holds Try.pinned (OpenSpec.ofChange fnExactFindLagWrong)

/-- 'laws.FnExactLagOfChain': WHATEVER THE INPUT: true; the input reads as it did. -/
def fnExactLagOfChainSpec : ChangeSpec := { name := "fnExactLagOfChain", fn := fun _ => fun
  | [d1, d2] => { results := [.lit (.bool true)], args := [d1, d2] }
  | _ => none }
def fnExactLagOfChainRow : OpenClaim := { program := "ytjgiobapdkdhpaa", sum := "d8282a83b5851ce0fabd0ac39a8bd8e6385cadfcd02ae2b5e4a94dcaf0496ce9", func := "loop.example/g03103/laws.FnExactLagOfChain", spec := "fnExactLagOfChain", unfollowed := true, recurses := true, plainKeys := false, apart := false }
def FnExactLagOfChainSaid : Prop := fnExactLagOfChainRow.holds Try.pinned (OpenSpec.ofChange fnExactLagOfChainSpec)

/-- ITS FALSE NEIGHBOUR: 'it returns false'. Refute it at one input. -/
def fnExactLagOfChainWrong : ChangeSpec := { name := "fnExactLagOfChain", fn := fun _ => fun
  | [d1, d2] => { results := [.lit (.bool false)], args := [d1, d2] }
  | _ => none }
def FnExactLagOfChainWrongFalsely : Prop := fnExactLagOfChainRow.holds Try.pinned (OpenSpec.ofChange fnExactLagOfChainWrong)

/-- 'laws.FnExactStepsFrom': WHATEVER THE INPUT: true; the input reads as it did. -/
def fnExactStepsFromSpec : ChangeSpec := { name := "fnExactStepsFrom", fn := fun _ => fun
  | [d] => { results := [.lit (.bool true)], args := [d] }
  | _ => none }
def fnExactStepsFromRow : OpenClaim := { program := "ytjgiobapdkdhpaa", sum := "d8282a83b5851ce0fabd0ac39a8bd8e6385cadfcd02ae2b5e4a94dcaf0496ce9", func := "loop.example/g03103/laws.FnExactStepsFrom", spec := "fnExactStepsFrom", unfollowed := true, recurses := true, plainKeys := false, apart := false }
def FnExactStepsFromSaid : Prop := fnExactStepsFromRow.holds Try.pinned (OpenSpec.ofChange fnExactStepsFromSpec)

/-- ITS FALSE NEIGHBOUR: 'it returns false'. Refute it at one input. -/
def fnExactStepsFromWrong : ChangeSpec := { name := "fnExactStepsFrom", fn := fun _ => fun
  | [d] => { results := [.lit (.bool false)], args := [d] }
  | _ => none }
def FnExactStepsFromWrongFalsely : Prop := fnExactStepsFromRow.holds Try.pinned (OpenSpec.ofChange fnExactStepsFromWrong)

/-- 'laws.FnExactAreLinked': WHATEVER THE INPUT: true; the input reads as it did. -/
def fnExactAreLinkedSpec : ChangeSpec := { name := "fnExactAreLinked", fn := fun _ => fun
  | [d1, d2] => { results := [.lit (.bool true)], args := [d1, d2] }
  | _ => none }
def fnExactAreLinkedRow : OpenClaim := { program := "ytjgiobapdkdhpaa", sum := "d8282a83b5851ce0fabd0ac39a8bd8e6385cadfcd02ae2b5e4a94dcaf0496ce9", func := "loop.example/g03103/laws.FnExactAreLinked", spec := "fnExactAreLinked", unfollowed := true, recurses := true, plainKeys := false, apart := false }
def FnExactAreLinkedSaid : Prop := fnExactAreLinkedRow.holds Try.pinned (OpenSpec.ofChange fnExactAreLinkedSpec)

/-- ITS FALSE NEIGHBOUR: 'it returns false'. Refute it at one input. -/
def fnExactAreLinkedWrong : ChangeSpec := { name := "fnExactAreLinked", fn := fun _ => fun
  | [d1, d2] => { results := [.lit (.bool false)], args := [d1, d2] }
  | _ => none }
def FnExactAreLinkedWrongFalsely : Prop := fnExactAreLinkedRow.holds Try.pinned (OpenSpec.ofChange fnExactAreLinkedWrong)

/-- 'laws.FnExactIsReduced': WHATEVER THE INPUT: true; the input reads as it did. -/
def fnExactIsReducedSpec : ChangeSpec := { name := "fnExactIsReduced", fn := fun _ => fun
  | [d] => { results := [.lit (.bool true)], args := [d] }
  | _ => none }
def fnExactIsReducedRow : OpenClaim := { program := "ytjgiobapdkdhpaa", sum := "d8282a83b5851ce0fabd0ac39a8bd8e6385cadfcd02ae2b5e4a94dcaf0496ce9", func := "loop.example/g03103/laws.FnExactIsReduced", spec := "fnExactIsReduced", plainKeys := false, apart := false }
def FnExactIsReducedSaid : Prop := fnExactIsReducedRow.holds Try.pinned (OpenSpec.ofChange fnExactIsReducedSpec)

/-- ITS FALSE NEIGHBOUR: 'it returns false'. Refute it at one input. -/
def fnExactIsReducedWrong : ChangeSpec := { name := "fnExactIsReduced", fn := fun _ => fun
  | [d] => { results := [.lit (.bool false)], args := [d] }
  | _ => none }
def FnExactIsReducedWrongFalsely : Prop := fnExactIsReducedRow.holds Try.pinned (OpenSpec.ofChange fnExactIsReducedWrong)

/-- 'laws.FnExactReadSame': WHATEVER THE INPUT: true; the input reads as it did. -/
def fnExactReadSameSpec : ChangeSpec := { name := "fnExactReadSame", fn := fun _ => fun
  | [d1, d2] => { results := [.lit (.bool true)], args := [d1, d2] }
  | _ => none }
def fnExactReadSameRow : OpenClaim := { program := "ytjgiobapdkdhpaa", sum := "d8282a83b5851ce0fabd0ac39a8bd8e6385cadfcd02ae2b5e4a94dcaf0496ce9", func := "loop.example/g03103/laws.FnExactReadSame", spec := "fnExactReadSame", plainKeys := false, apart := false }
def FnExactReadSameSaid : Prop := fnExactReadSameRow.holds Try.pinned (OpenSpec.ofChange fnExactReadSameSpec)

/-- ITS FALSE NEIGHBOUR: 'it returns false'. Refute it at one input. -/
def fnExactReadSameWrong : ChangeSpec := { name := "fnExactReadSame", fn := fun _ => fun
  | [d1, d2] => { results := [.lit (.bool false)], args := [d1, d2] }
  | _ => none }
def FnExactReadSameWrongFalsely : Prop := fnExactReadSameRow.holds Try.pinned (OpenSpec.ofChange fnExactReadSameWrong)

/-- 'laws.FnExactLeastRank': WHATEVER THE INPUT: true; the input reads as it did. -/
def fnExactLeastRankSpec : ChangeSpec := { name := "fnExactLeastRank", fn := fun _ => fun
  | [d] => { results := [.lit (.bool true)], args := [d] }
  | _ => none }
def fnExactLeastRankRow : OpenClaim := { program := "ytjgiobapdkdhpaa", sum := "d8282a83b5851ce0fabd0ac39a8bd8e6385cadfcd02ae2b5e4a94dcaf0496ce9", func := "loop.example/g03103/laws.FnExactLeastRank", spec := "fnExactLeastRank", unfollowed := true, recurses := true, plainKeys := false, apart := false }
def FnExactLeastRankSaid : Prop := fnExactLeastRankRow.holds Try.pinned (OpenSpec.ofChange fnExactLeastRankSpec)

/-- ITS FALSE NEIGHBOUR: 'it returns false'. Refute it at one input. -/
def fnExactLeastRankWrong : ChangeSpec := { name := "fnExactLeastRank", fn := fun _ => fun
  | [d] => { results := [.lit (.bool false)], args := [d] }
  | _ => none }
def FnExactLeastRankWrongFalsely : Prop := fnExactLeastRankRow.holds Try.pinned (OpenSpec.ofChange fnExactLeastRankWrong)

/-- 'laws.FnExactSmallestLabels': WHATEVER THE INPUT: true; the input reads as it did. -/
def fnExactSmallestLabelsSpec : ChangeSpec := { name := "fnExactSmallestLabels", fn := fun _ => fun
  | [d] => { results := [.lit (.bool true)], args := [d] }
  | _ => none }
def fnExactSmallestLabelsRow : OpenClaim := { program := "ytjgiobapdkdhpaa", sum := "d8282a83b5851ce0fabd0ac39a8bd8e6385cadfcd02ae2b5e4a94dcaf0496ce9", func := "loop.example/g03103/laws.FnExactSmallestLabels", spec := "fnExactSmallestLabels", plainKeys := false, apart := false }
def FnExactSmallestLabelsSaid : Prop := fnExactSmallestLabelsRow.holds Try.pinned (OpenSpec.ofChange fnExactSmallestLabelsSpec)

/-- ITS FALSE NEIGHBOUR: 'it returns false'. Refute it at one input. -/
def fnExactSmallestLabelsWrong : ChangeSpec := { name := "fnExactSmallestLabels", fn := fun _ => fun
  | [d] => { results := [.lit (.bool false)], args := [d] }
  | _ => none }
def FnExactSmallestLabelsWrongFalsely : Prop := fnExactSmallestLabelsRow.holds Try.pinned (OpenSpec.ofChange fnExactSmallestLabelsWrong)

/-- 'laws.FnExactCountSync': WHATEVER THE INPUT: true; the input reads as it did. -/
def fnExactCountSyncSpec : ChangeSpec := { name := "fnExactCountSync", fn := fun _ => fun
  | [d1, d2] => { results := [.lit (.bool true)], args := [d1, d2] }
  | _ => none }
def fnExactCountSyncRow : OpenClaim := { program := "ytjgiobapdkdhpaa", sum := "d8282a83b5851ce0fabd0ac39a8bd8e6385cadfcd02ae2b5e4a94dcaf0496ce9", func := "loop.example/g03103/laws.FnExactCountSync", spec := "fnExactCountSync", unfollowed := true, recurses := true, plainKeys := false, apart := false }
def FnExactCountSyncSaid : Prop := fnExactCountSyncRow.holds Try.pinned (OpenSpec.ofChange fnExactCountSyncSpec)

/-- ITS FALSE NEIGHBOUR: 'it returns false'. Refute it at one input. -/
def fnExactCountSyncWrong : ChangeSpec := { name := "fnExactCountSync", fn := fun _ => fun
  | [d1, d2] => { results := [.lit (.bool false)], args := [d1, d2] }
  | _ => none }
def FnExactCountSyncWrongFalsely : Prop := fnExactCountSyncRow.holds Try.pinned (OpenSpec.ofChange fnExactCountSyncWrong)

/-- 'laws.FnExactShortestSync': WHATEVER THE INPUT: true; the input reads as it did. -/
def fnExactShortestSyncSpec : ChangeSpec := { name := "fnExactShortestSync", fn := fun _ => fun
  | [d] => { results := [.lit (.bool true)], args := [d] }
  | _ => none }
def fnExactShortestSyncRow : OpenClaim := { program := "ytjgiobapdkdhpaa", sum := "d8282a83b5851ce0fabd0ac39a8bd8e6385cadfcd02ae2b5e4a94dcaf0496ce9", func := "loop.example/g03103/laws.FnExactShortestSync", spec := "fnExactShortestSync", unfollowed := true, recurses := true, plainKeys := false, apart := false }
def FnExactShortestSyncSaid : Prop := fnExactShortestSyncRow.holds Try.pinned (OpenSpec.ofChange fnExactShortestSyncSpec)

/-- ITS FALSE NEIGHBOUR: 'it returns false'. Refute it at one input. -/
def fnExactShortestSyncWrong : ChangeSpec := { name := "fnExactShortestSync", fn := fun _ => fun
  | [d] => { results := [.lit (.bool false)], args := [d] }
  | _ => none }
def FnExactShortestSyncWrongFalsely : Prop := fnExactShortestSyncRow.holds Try.pinned (OpenSpec.ofChange fnExactShortestSyncWrong)

/-- 'laws.FnExactFollowWords': WHATEVER THE INPUT: true; the input reads as it did. -/
def fnExactFollowWordsSpec : ChangeSpec := { name := "fnExactFollowWords", fn := fun _ => fun
  | [d1, d2, d3] => { results := [.lit (.bool true)], args := [d1, d2, d3] }
  | _ => none }
def fnExactFollowWordsRow : OpenClaim := { program := "ytjgiobapdkdhpaa", sum := "d8282a83b5851ce0fabd0ac39a8bd8e6385cadfcd02ae2b5e4a94dcaf0496ce9", func := "loop.example/g03103/laws.FnExactFollowWords", spec := "fnExactFollowWords", unfollowed := true, recurses := true, plainKeys := false, apart := false }
def FnExactFollowWordsSaid : Prop := fnExactFollowWordsRow.holds Try.pinned (OpenSpec.ofChange fnExactFollowWordsSpec)

/-- ITS FALSE NEIGHBOUR: 'it returns false'. Refute it at one input. -/
def fnExactFollowWordsWrong : ChangeSpec := { name := "fnExactFollowWords", fn := fun _ => fun
  | [d1, d2, d3] => { results := [.lit (.bool false)], args := [d1, d2, d3] }
  | _ => none }
def FnExactFollowWordsWrongFalsely : Prop := fnExactFollowWordsRow.holds Try.pinned (OpenSpec.ofChange fnExactFollowWordsWrong)

/- THE SECOND FORM. 'bulk': how many values and letters a reading holds, each counted each time it is reached (what is shared counts as often as it is met; a slice's spare places count too). A statement '..UptoSaid' is the law's where the arguments, and the package variables that the reading takes, are together of bulk at most 1048576: NARROWER than '..Said'. Prove '..Said' where nothing that the law and all that it calls make is longer than what came in: it says more and counts as full. Else prove '..UptoSaid'. A law counts once. -/
mutual
def uptoBulk {H : Type} : DataW H → Nat
  | .lit (.string bytes) => bytes.length + 1
  | .lit _ => 1
  | .nil => 1
  | .ptr d => uptoBulk d + 1
  | .slice elems spare => uptoBulkAll elems + uptoBulkAll spare + 1
  | .agg parts => uptoBulkAll parts + 1
  | .iface _ d => uptoBulk d + 1
  | .map entries => uptoBulkEntries entries + 1
  | .held _ => 1
def uptoBulkAll {H : Type} : List (DataW H) → Nat
  | [] => 0
  | d :: r => uptoBulk d + uptoBulkAll r
def uptoBulkEntries {H : Type} : List (Lit × DataW H) → Nat
  | [] => 0
  | x :: r => uptoBulkEntry x + uptoBulkEntries r
def uptoBulkEntry {H : Type} : Lit × DataW H → Nat
  | (.string bytes, d) => bytes.length + uptoBulk d + 1
  | (_, d) => uptoBulk d + 1
 end
def uptoSmall : (H : Type) → List (DataW H) → Bool := fun _ ds => decide (uptoBulkAll ds ≤ 1048576)
def OpenSpec.upto (s : _root_.Go.ChangeSpec) : _root_.Go.OpenSpec := { _root_.Go.OpenSpec.ofChange s with cond := some uptoSmall }

/-- 'laws.FnExactTrimLabels', WHERE WHAT IT READS IS OF BULK AT MOST 1048576: true; the input reads as it did. -/
def fnExactTrimLabelsUptoRow : OpenClaim := { program := "ytjgiobapdkdhpaa", sum := "d8282a83b5851ce0fabd0ac39a8bd8e6385cadfcd02ae2b5e4a94dcaf0496ce9", func := "loop.example/g03103/laws.FnExactTrimLabels", spec := "fnExactTrimLabels", plainKeys := false, apart := false, narrowed := true }
def FnExactTrimLabelsUptoSaid : Prop := fnExactTrimLabelsUptoRow.holds Try.pinned (OpenSpec.upto fnExactTrimLabelsSpec)

/-- 'laws.FnExactFindLag', WHERE WHAT IT READS IS OF BULK AT MOST 1048576: true; the input reads as it did. -/
def fnExactFindLagUptoRow : OpenClaim := { program := "ytjgiobapdkdhpaa", sum := "d8282a83b5851ce0fabd0ac39a8bd8e6385cadfcd02ae2b5e4a94dcaf0496ce9", func := "loop.example/g03103/laws.FnExactFindLag", spec := "fnExactFindLag", unfollowed := true, recurses := true, plainKeys := false, apart := false, narrowed := true }
def FnExactFindLagUptoSaid : Prop := fnExactFindLagUptoRow.holds Try.pinned (OpenSpec.upto fnExactFindLagSpec)

/-- 'laws.FnExactLagOfChain', WHERE WHAT IT READS IS OF BULK AT MOST 1048576: true; the input reads as it did. -/
def fnExactLagOfChainUptoRow : OpenClaim := { program := "ytjgiobapdkdhpaa", sum := "d8282a83b5851ce0fabd0ac39a8bd8e6385cadfcd02ae2b5e4a94dcaf0496ce9", func := "loop.example/g03103/laws.FnExactLagOfChain", spec := "fnExactLagOfChain", unfollowed := true, recurses := true, plainKeys := false, apart := false, narrowed := true }
def FnExactLagOfChainUptoSaid : Prop := fnExactLagOfChainUptoRow.holds Try.pinned (OpenSpec.upto fnExactLagOfChainSpec)

/-- 'laws.FnExactStepsFrom', WHERE WHAT IT READS IS OF BULK AT MOST 1048576: true; the input reads as it did. -/
def fnExactStepsFromUptoRow : OpenClaim := { program := "ytjgiobapdkdhpaa", sum := "d8282a83b5851ce0fabd0ac39a8bd8e6385cadfcd02ae2b5e4a94dcaf0496ce9", func := "loop.example/g03103/laws.FnExactStepsFrom", spec := "fnExactStepsFrom", unfollowed := true, recurses := true, plainKeys := false, apart := false, narrowed := true }
def FnExactStepsFromUptoSaid : Prop := fnExactStepsFromUptoRow.holds Try.pinned (OpenSpec.upto fnExactStepsFromSpec)

/-- 'laws.FnExactAreLinked', WHERE WHAT IT READS IS OF BULK AT MOST 1048576: true; the input reads as it did. -/
def fnExactAreLinkedUptoRow : OpenClaim := { program := "ytjgiobapdkdhpaa", sum := "d8282a83b5851ce0fabd0ac39a8bd8e6385cadfcd02ae2b5e4a94dcaf0496ce9", func := "loop.example/g03103/laws.FnExactAreLinked", spec := "fnExactAreLinked", unfollowed := true, recurses := true, plainKeys := false, apart := false, narrowed := true }
def FnExactAreLinkedUptoSaid : Prop := fnExactAreLinkedUptoRow.holds Try.pinned (OpenSpec.upto fnExactAreLinkedSpec)

/-- 'laws.FnExactIsReduced', WHERE WHAT IT READS IS OF BULK AT MOST 1048576: true; the input reads as it did. -/
def fnExactIsReducedUptoRow : OpenClaim := { program := "ytjgiobapdkdhpaa", sum := "d8282a83b5851ce0fabd0ac39a8bd8e6385cadfcd02ae2b5e4a94dcaf0496ce9", func := "loop.example/g03103/laws.FnExactIsReduced", spec := "fnExactIsReduced", plainKeys := false, apart := false, narrowed := true }
def FnExactIsReducedUptoSaid : Prop := fnExactIsReducedUptoRow.holds Try.pinned (OpenSpec.upto fnExactIsReducedSpec)

/-- 'laws.FnExactReadSame', WHERE WHAT IT READS IS OF BULK AT MOST 1048576: true; the input reads as it did. -/
def fnExactReadSameUptoRow : OpenClaim := { program := "ytjgiobapdkdhpaa", sum := "d8282a83b5851ce0fabd0ac39a8bd8e6385cadfcd02ae2b5e4a94dcaf0496ce9", func := "loop.example/g03103/laws.FnExactReadSame", spec := "fnExactReadSame", plainKeys := false, apart := false, narrowed := true }
def FnExactReadSameUptoSaid : Prop := fnExactReadSameUptoRow.holds Try.pinned (OpenSpec.upto fnExactReadSameSpec)

/-- 'laws.FnExactLeastRank', WHERE WHAT IT READS IS OF BULK AT MOST 1048576: true; the input reads as it did. -/
def fnExactLeastRankUptoRow : OpenClaim := { program := "ytjgiobapdkdhpaa", sum := "d8282a83b5851ce0fabd0ac39a8bd8e6385cadfcd02ae2b5e4a94dcaf0496ce9", func := "loop.example/g03103/laws.FnExactLeastRank", spec := "fnExactLeastRank", unfollowed := true, recurses := true, plainKeys := false, apart := false, narrowed := true }
def FnExactLeastRankUptoSaid : Prop := fnExactLeastRankUptoRow.holds Try.pinned (OpenSpec.upto fnExactLeastRankSpec)

/-- 'laws.FnExactSmallestLabels', WHERE WHAT IT READS IS OF BULK AT MOST 1048576: true; the input reads as it did. -/
def fnExactSmallestLabelsUptoRow : OpenClaim := { program := "ytjgiobapdkdhpaa", sum := "d8282a83b5851ce0fabd0ac39a8bd8e6385cadfcd02ae2b5e4a94dcaf0496ce9", func := "loop.example/g03103/laws.FnExactSmallestLabels", spec := "fnExactSmallestLabels", plainKeys := false, apart := false, narrowed := true }
def FnExactSmallestLabelsUptoSaid : Prop := fnExactSmallestLabelsUptoRow.holds Try.pinned (OpenSpec.upto fnExactSmallestLabelsSpec)

/-- 'laws.FnExactCountSync', WHERE WHAT IT READS IS OF BULK AT MOST 1048576: true; the input reads as it did. -/
def fnExactCountSyncUptoRow : OpenClaim := { program := "ytjgiobapdkdhpaa", sum := "d8282a83b5851ce0fabd0ac39a8bd8e6385cadfcd02ae2b5e4a94dcaf0496ce9", func := "loop.example/g03103/laws.FnExactCountSync", spec := "fnExactCountSync", unfollowed := true, recurses := true, plainKeys := false, apart := false, narrowed := true }
def FnExactCountSyncUptoSaid : Prop := fnExactCountSyncUptoRow.holds Try.pinned (OpenSpec.upto fnExactCountSyncSpec)

/-- 'laws.FnExactShortestSync', WHERE WHAT IT READS IS OF BULK AT MOST 1048576: true; the input reads as it did. -/
def fnExactShortestSyncUptoRow : OpenClaim := { program := "ytjgiobapdkdhpaa", sum := "d8282a83b5851ce0fabd0ac39a8bd8e6385cadfcd02ae2b5e4a94dcaf0496ce9", func := "loop.example/g03103/laws.FnExactShortestSync", spec := "fnExactShortestSync", unfollowed := true, recurses := true, plainKeys := false, apart := false, narrowed := true }
def FnExactShortestSyncUptoSaid : Prop := fnExactShortestSyncUptoRow.holds Try.pinned (OpenSpec.upto fnExactShortestSyncSpec)

/-- 'laws.FnExactFollowWords', WHERE WHAT IT READS IS OF BULK AT MOST 1048576: true; the input reads as it did. -/
def fnExactFollowWordsUptoRow : OpenClaim := { program := "ytjgiobapdkdhpaa", sum := "d8282a83b5851ce0fabd0ac39a8bd8e6385cadfcd02ae2b5e4a94dcaf0496ce9", func := "loop.example/g03103/laws.FnExactFollowWords", spec := "fnExactFollowWords", unfollowed := true, recurses := true, plainKeys := false, apart := false, narrowed := true }
def FnExactFollowWordsUptoSaid : Prop := fnExactFollowWordsUptoRow.holds Try.pinned (OpenSpec.upto fnExactFollowWordsSpec)

end Rows
end Go.Proofs.Ytjgiobapdkdhpaa
