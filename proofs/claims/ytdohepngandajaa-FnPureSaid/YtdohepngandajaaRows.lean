/-
  No cell of these rows narrows 'for every input' (looked for: loops, veiled, ifaces, maps, wideKeys, modest, calm, conditions, laid).
  DERIVED. THE GIVEN ROWS OF THIS SEAT. 10 by the template 'for every input the law returns true; each argument reads behind the call as it read before'; 0 by the template 'total and deterministic' (their statements: YtdohepngandajaaTotals.lean).
  GIVEN WITH THE SEED: the statements are not yours to turn. If you find one false, say at which input.
  Laid BY PROGRAM, IN A SANDBOX (cutbox-rows.mjs): the forced cells as the released guide's own fill.sh prints them over the translation d4c3eef93e1b3d14… (all of the seat's roots in one cut). By AI agents, Wed Nov 11 2026. No macro, syntax, notation, axiom, sorry.
-/
import Derived.Test.YtdohepngandajaaChecked
import GoSem.Claim
import GoSem.ClaimJoined
import GoSem.ClaimMapViews
import Derived.JoinedTies
import Derived.KernelRfl
namespace Go.Proofs.Ytdohepngandajaa
/- THE CELL 'sum', in the pinned program and in every row, IS THE sha256 OF THE DUMP (.gsa) THAT YtdohepngandajaaProg.lean LOADS. Nothing in Lean hashes anything: it is a label: what it is worth is what the hold of that sum in a sandbox is worth. -/
noncomputable def Try.pinned : Pinned := { name := "ytdohepngandajaa", sum := "d4c3eef93e1b3d14a5b9b2b66d68ff4832ae4592b7914694bc19302f928c92ab", checked := Try.checked }
namespace Rows
def none {H : Type} : Left H := { results := [], args := [] }

/-- 'laws.FnExactSmallestLabels': WHATEVER THE INPUT: true; the input reads as it did. -/
def fnExactSmallestLabelsSpec : ChangeSpec := { name := "fnExactSmallestLabels", fn := fun _ => fun
  | [d] => { results := [.lit (.bool true)], args := [d] }
  | _ => none }
def fnExactSmallestLabelsRow : OpenClaim := { program := "ytdohepngandajaa", sum := "d4c3eef93e1b3d14a5b9b2b66d68ff4832ae4592b7914694bc19302f928c92ab", func := "loop.example/g03103/laws.FnExactSmallestLabels", spec := "fnExactSmallestLabels", apart := false }
def FnExactSmallestLabelsSaid : Prop := fnExactSmallestLabelsRow.holds Try.pinned (OpenSpec.ofChange fnExactSmallestLabelsSpec)

/-- ITS FALSE NEIGHBOUR: 'it returns false'. Refute it at one input. -/
def fnExactSmallestLabelsWrong : ChangeSpec := { name := "fnExactSmallestLabels", fn := fun _ => fun
  | [d] => { results := [.lit (.bool false)], args := [d] }
  | _ => none }
def FnExactSmallestLabelsWrongFalsely : Prop := fnExactSmallestLabelsRow.holds Try.pinned (OpenSpec.ofChange fnExactSmallestLabelsWrong)

/-- 'laws.FnExactIsReduced': WHATEVER THE INPUT: true; the input reads as it did. -/
def fnExactIsReducedSpec : ChangeSpec := { name := "fnExactIsReduced", fn := fun _ => fun
  | [d] => { results := [.lit (.bool true)], args := [d] }
  | _ => none }
def fnExactIsReducedRow : OpenClaim := { program := "ytdohepngandajaa", sum := "d4c3eef93e1b3d14a5b9b2b66d68ff4832ae4592b7914694bc19302f928c92ab", func := "loop.example/g03103/laws.FnExactIsReduced", spec := "fnExactIsReduced", apart := false }
def FnExactIsReducedSaid : Prop := fnExactIsReducedRow.holds Try.pinned (OpenSpec.ofChange fnExactIsReducedSpec)

/-- ITS FALSE NEIGHBOUR: 'it returns false'. Refute it at one input. -/
def fnExactIsReducedWrong : ChangeSpec := { name := "fnExactIsReduced", fn := fun _ => fun
  | [d] => { results := [.lit (.bool false)], args := [d] }
  | _ => none }
def FnExactIsReducedWrongFalsely : Prop := fnExactIsReducedRow.holds Try.pinned (OpenSpec.ofChange fnExactIsReducedWrong)

/-- 'laws.FnExactReadWords': WHATEVER THE INPUT: true; the input reads as it did. -/
def fnExactReadWordsSpec : ChangeSpec := { name := "fnExactReadWords", fn := fun _ => fun
  | [d1, d2] => { results := [.lit (.bool true)], args := [d1, d2] }
  | _ => none }
def fnExactReadWordsRow : OpenClaim := { program := "ytdohepngandajaa", sum := "d4c3eef93e1b3d14a5b9b2b66d68ff4832ae4592b7914694bc19302f928c92ab", func := "loop.example/g03103/laws.FnExactReadWords", spec := "fnExactReadWords", unfollowed := true, recurses := true, apart := false }
def FnExactReadWordsSaid : Prop := fnExactReadWordsRow.holds Try.pinned (OpenSpec.ofChange fnExactReadWordsSpec)

/-- ITS FALSE NEIGHBOUR: 'it returns false'. Refute it at one input. -/
def fnExactReadWordsWrong : ChangeSpec := { name := "fnExactReadWords", fn := fun _ => fun
  | [d1, d2] => { results := [.lit (.bool false)], args := [d1, d2] }
  | _ => none }
def FnExactReadWordsWrongFalsely : Prop := fnExactReadWordsRow.holds Try.pinned (OpenSpec.ofChange fnExactReadWordsWrong)

/-- 'laws.FnExactResolveLabels': WHATEVER THE INPUT: true; the input reads as it did. -/
def fnExactResolveLabelsSpec : ChangeSpec := { name := "fnExactResolveLabels", fn := fun _ => fun
  | [d] => { results := [.lit (.bool true)], args := [d] }
  | _ => none }
def fnExactResolveLabelsRow : OpenClaim := { program := "ytdohepngandajaa", sum := "d4c3eef93e1b3d14a5b9b2b66d68ff4832ae4592b7914694bc19302f928c92ab", func := "loop.example/g03103/laws.FnExactResolveLabels", spec := "fnExactResolveLabels", apart := false }
def FnExactResolveLabelsSaid : Prop := fnExactResolveLabelsRow.holds Try.pinned (OpenSpec.ofChange fnExactResolveLabelsSpec)

/-- ITS FALSE NEIGHBOUR: 'it returns false'. Refute it at one input. -/
def fnExactResolveLabelsWrong : ChangeSpec := { name := "fnExactResolveLabels", fn := fun _ => fun
  | [d] => { results := [.lit (.bool false)], args := [d] }
  | _ => none }
def FnExactResolveLabelsWrongFalsely : Prop := fnExactResolveLabelsRow.holds Try.pinned (OpenSpec.ofChange fnExactResolveLabelsWrong)

/-- 'laws.FnExactStepsFrom': WHATEVER THE INPUT: true; the input reads as it did. -/
def fnExactStepsFromSpec : ChangeSpec := { name := "fnExactStepsFrom", fn := fun _ => fun
  | [d] => { results := [.lit (.bool true)], args := [d] }
  | _ => none }
def fnExactStepsFromRow : OpenClaim := { program := "ytdohepngandajaa", sum := "d4c3eef93e1b3d14a5b9b2b66d68ff4832ae4592b7914694bc19302f928c92ab", func := "loop.example/g03103/laws.FnExactStepsFrom", spec := "fnExactStepsFrom", unfollowed := true, recurses := true, apart := false }
def FnExactStepsFromSaid : Prop := fnExactStepsFromRow.holds Try.pinned (OpenSpec.ofChange fnExactStepsFromSpec)

/-- ITS FALSE NEIGHBOUR: 'it returns false'. Refute it at one input. -/
def fnExactStepsFromWrong : ChangeSpec := { name := "fnExactStepsFrom", fn := fun _ => fun
  | [d] => { results := [.lit (.bool false)], args := [d] }
  | _ => none }
def FnExactStepsFromWrongFalsely : Prop := fnExactStepsFromRow.holds Try.pinned (OpenSpec.ofChange fnExactStepsFromWrong)

/-- 'laws.FnExactAreLinked': WHATEVER THE INPUT: true; the input reads as it did. -/
def fnExactAreLinkedSpec : ChangeSpec := { name := "fnExactAreLinked", fn := fun _ => fun
  | [d1, d2] => { results := [.lit (.bool true)], args := [d1, d2] }
  | _ => none }
def fnExactAreLinkedRow : OpenClaim := { program := "ytdohepngandajaa", sum := "d4c3eef93e1b3d14a5b9b2b66d68ff4832ae4592b7914694bc19302f928c92ab", func := "loop.example/g03103/laws.FnExactAreLinked", spec := "fnExactAreLinked", unfollowed := true, recurses := true, apart := false }
def FnExactAreLinkedSaid : Prop := fnExactAreLinkedRow.holds Try.pinned (OpenSpec.ofChange fnExactAreLinkedSpec)

/-- ITS FALSE NEIGHBOUR: 'it returns false'. Refute it at one input. -/
def fnExactAreLinkedWrong : ChangeSpec := { name := "fnExactAreLinked", fn := fun _ => fun
  | [d1, d2] => { results := [.lit (.bool false)], args := [d1, d2] }
  | _ => none }
def FnExactAreLinkedWrongFalsely : Prop := fnExactAreLinkedRow.holds Try.pinned (OpenSpec.ofChange fnExactAreLinkedWrong)

/-- 'laws.FnExactZetaNumbers': WHATEVER THE INPUT: true; the input reads as it did. -/
def fnExactZetaNumbersSpec : ChangeSpec := { name := "fnExactZetaNumbers", fn := fun _ => fun
  | [d1, d2] => { results := [.lit (.bool true)], args := [d1, d2] }
  | _ => none }
def fnExactZetaNumbersRow : OpenClaim := { program := "ytdohepngandajaa", sum := "d4c3eef93e1b3d14a5b9b2b66d68ff4832ae4592b7914694bc19302f928c92ab", func := "loop.example/g03103/laws.FnExactZetaNumbers", spec := "fnExactZetaNumbers", recurses := true, apart := false }
def FnExactZetaNumbersSaid : Prop := fnExactZetaNumbersRow.holds Try.pinned (OpenSpec.ofChange fnExactZetaNumbersSpec)

/-- ITS FALSE NEIGHBOUR: 'it returns false'. Refute it at one input. -/
def fnExactZetaNumbersWrong : ChangeSpec := { name := "fnExactZetaNumbers", fn := fun _ => fun
  | [d1, d2] => { results := [.lit (.bool false)], args := [d1, d2] }
  | _ => none }
def FnExactZetaNumbersWrongFalsely : Prop := fnExactZetaNumbersRow.holds Try.pinned (OpenSpec.ofChange fnExactZetaNumbersWrong)

/-- 'laws.FnExactSameAwayFromZero': WHATEVER THE INPUT: true; the input reads as it did. -/
def fnExactSameAwayFromZeroSpec : ChangeSpec := { name := "fnExactSameAwayFromZero", fn := fun _ => fun
  | [d1, d2] => { results := [.lit (.bool true)], args := [d1, d2] }
  | _ => none }
def fnExactSameAwayFromZeroRow : OpenClaim := { program := "ytdohepngandajaa", sum := "d4c3eef93e1b3d14a5b9b2b66d68ff4832ae4592b7914694bc19302f928c92ab", func := "loop.example/g03103/laws.FnExactSameAwayFromZero", spec := "fnExactSameAwayFromZero", unfollowed := true, recurses := true, apart := false }
def FnExactSameAwayFromZeroSaid : Prop := fnExactSameAwayFromZeroRow.holds Try.pinned (OpenSpec.ofChange fnExactSameAwayFromZeroSpec)

/-- ITS FALSE NEIGHBOUR: 'it returns false'. Refute it at one input. -/
def fnExactSameAwayFromZeroWrong : ChangeSpec := { name := "fnExactSameAwayFromZero", fn := fun _ => fun
  | [d1, d2] => { results := [.lit (.bool false)], args := [d1, d2] }
  | _ => none }
def FnExactSameAwayFromZeroWrongFalsely : Prop := fnExactSameAwayFromZeroRow.holds Try.pinned (OpenSpec.ofChange fnExactSameAwayFromZeroWrong)

/-- 'laws.FnExactLabelsOf': WHATEVER THE INPUT: true; the input reads as it did. -/
def fnExactLabelsOfSpec : ChangeSpec := { name := "fnExactLabelsOf", fn := fun _ => fun
  | [d] => { results := [.lit (.bool true)], args := [d] }
  | _ => none }
def fnExactLabelsOfRow : OpenClaim := { program := "ytdohepngandajaa", sum := "d4c3eef93e1b3d14a5b9b2b66d68ff4832ae4592b7914694bc19302f928c92ab", func := "loop.example/g03103/laws.FnExactLabelsOf", spec := "fnExactLabelsOf", inPlace := ["internal/bytealg.IndexByteString", "internal/bytealg.IndexString"], unfollowed := true, recurses := true, named := ["internal/bytealg.MaxLen"], apart := false }
def FnExactLabelsOfSaid : Prop := fnExactLabelsOfRow.holds Try.pinned (OpenSpec.ofChange fnExactLabelsOfSpec)

/-- ITS FALSE NEIGHBOUR: 'it returns false'. Refute it at one input. -/
def fnExactLabelsOfWrong : ChangeSpec := { name := "fnExactLabelsOf", fn := fun _ => fun
  | [d] => { results := [.lit (.bool false)], args := [d] }
  | _ => none }
def FnExactLabelsOfWrongFalsely : Prop := fnExactLabelsOfRow.holds Try.pinned (OpenSpec.ofChange fnExactLabelsOfWrong)

/-- 'laws.FnPure': WHATEVER THE INPUT: true; the input reads as it did. -/
def fnPureSpec : ChangeSpec := { name := "fnPure", fn := fun _ => fun
  | [d] => { results := [.lit (.bool true)], args := [d] }
  | _ => none }
def fnPureRow : OpenClaim := { program := "ytdohepngandajaa", sum := "d4c3eef93e1b3d14a5b9b2b66d68ff4832ae4592b7914694bc19302f928c92ab", func := "loop.example/g03103/laws.FnPure", spec := "fnPure", apart := false }
def FnPureSaid : Prop := fnPureRow.holds Try.pinned (OpenSpec.ofChange fnPureSpec)

/-- ITS FALSE NEIGHBOUR: 'it returns false'. Refute it at one input. -/
def fnPureWrong : ChangeSpec := { name := "fnPure", fn := fun _ => fun
  | [d] => { results := [.lit (.bool false)], args := [d] }
  | _ => none }
def FnPureWrongFalsely : Prop := fnPureRow.holds Try.pinned (OpenSpec.ofChange fnPureWrong)

/- THE SECOND FORM. 'bulk': how many values and letters a reading holds, each counted each time it is reached (what is shared counts as often as it is met; a slice's spare places count too). A statement '..UptoSaid' is the law's where the arguments, and the package variables that the reading takes, are together of bulk at most 1048576: NARROWER than '..Said'. Prove '..Said' where nothing that the law and all that it calls make is longer than what came in: it says more and counts as full. Else prove '..UptoSaid'. A law counts once. -/
mutual
def uptoBulk {H : Type} : DataW H → Nat
  | .lit (.string bytes) => bytes.length + 1
  | .lit _ => 1
  | .nil => 1
  | .ptr d => uptoBulk d + 1
  | .slice elems spare => uptoBulkAll elems + uptoBulkAll spare + 1
  | .agg parts => uptoBulkAll parts + 1
  | .iface _ d => uptoBulk d + 1
  | .map entries => uptoBulkEntries entries + 1
  | .held _ => 1
def uptoBulkAll {H : Type} : List (DataW H) → Nat
  | [] => 0
  | d :: r => uptoBulk d + uptoBulkAll r
def uptoBulkEntries {H : Type} : List (Lit × DataW H) → Nat
  | [] => 0
  | x :: r => uptoBulkEntry x + uptoBulkEntries r
def uptoBulkEntry {H : Type} : Lit × DataW H → Nat
  | (.string bytes, d) => bytes.length + uptoBulk d + 1
  | (_, d) => uptoBulk d + 1
 end
def uptoSmall : (H : Type) → List (DataW H) → Bool := fun _ ds => decide (uptoBulkAll ds ≤ 1048576)
def OpenSpec.upto (s : _root_.Go.ChangeSpec) : _root_.Go.OpenSpec := { _root_.Go.OpenSpec.ofChange s with cond := some uptoSmall }

/-- 'laws.FnExactSmallestLabels', WHERE WHAT IT READS IS OF BULK AT MOST 1048576: true; the input reads as it did. -/
def fnExactSmallestLabelsUptoRow : OpenClaim := { program := "ytdohepngandajaa", sum := "d4c3eef93e1b3d14a5b9b2b66d68ff4832ae4592b7914694bc19302f928c92ab", func := "loop.example/g03103/laws.FnExactSmallestLabels", spec := "fnExactSmallestLabels", apart := false, narrowed := true }
def FnExactSmallestLabelsUptoSaid : Prop := fnExactSmallestLabelsUptoRow.holds Try.pinned (OpenSpec.upto fnExactSmallestLabelsSpec)

/-- 'laws.FnExactIsReduced', WHERE WHAT IT READS IS OF BULK AT MOST 1048576: true; the input reads as it did. -/
def fnExactIsReducedUptoRow : OpenClaim := { program := "ytdohepngandajaa", sum := "d4c3eef93e1b3d14a5b9b2b66d68ff4832ae4592b7914694bc19302f928c92ab", func := "loop.example/g03103/laws.FnExactIsReduced", spec := "fnExactIsReduced", apart := false, narrowed := true }
def FnExactIsReducedUptoSaid : Prop := fnExactIsReducedUptoRow.holds Try.pinned (OpenSpec.upto fnExactIsReducedSpec)

/-- 'laws.FnExactReadWords', WHERE WHAT IT READS IS OF BULK AT MOST 1048576: true; the input reads as it did. -/
def fnExactReadWordsUptoRow : OpenClaim := { program := "ytdohepngandajaa", sum := "d4c3eef93e1b3d14a5b9b2b66d68ff4832ae4592b7914694bc19302f928c92ab", func := "loop.example/g03103/laws.FnExactReadWords", spec := "fnExactReadWords", unfollowed := true, recurses := true, apart := false, narrowed := true }
def FnExactReadWordsUptoSaid : Prop := fnExactReadWordsUptoRow.holds Try.pinned (OpenSpec.upto fnExactReadWordsSpec)

/-- 'laws.FnExactResolveLabels', WHERE WHAT IT READS IS OF BULK AT MOST 1048576: true; the input reads as it did. -/
def fnExactResolveLabelsUptoRow : OpenClaim := { program := "ytdohepngandajaa", sum := "d4c3eef93e1b3d14a5b9b2b66d68ff4832ae4592b7914694bc19302f928c92ab", func := "loop.example/g03103/laws.FnExactResolveLabels", spec := "fnExactResolveLabels", apart := false, narrowed := true }
def FnExactResolveLabelsUptoSaid : Prop := fnExactResolveLabelsUptoRow.holds Try.pinned (OpenSpec.upto fnExactResolveLabelsSpec)

/-- 'laws.FnExactStepsFrom', WHERE WHAT IT READS IS OF BULK AT MOST 1048576: true; the input reads as it did. -/
def fnExactStepsFromUptoRow : OpenClaim := { program := "ytdohepngandajaa", sum := "d4c3eef93e1b3d14a5b9b2b66d68ff4832ae4592b7914694bc19302f928c92ab", func := "loop.example/g03103/laws.FnExactStepsFrom", spec := "fnExactStepsFrom", unfollowed := true, recurses := true, apart := false, narrowed := true }
def FnExactStepsFromUptoSaid : Prop := fnExactStepsFromUptoRow.holds Try.pinned (OpenSpec.upto fnExactStepsFromSpec)

/-- 'laws.FnExactAreLinked', WHERE WHAT IT READS IS OF BULK AT MOST 1048576: true; the input reads as it did. -/
def fnExactAreLinkedUptoRow : OpenClaim := { program := "ytdohepngandajaa", sum := "d4c3eef93e1b3d14a5b9b2b66d68ff4832ae4592b7914694bc19302f928c92ab", func := "loop.example/g03103/laws.FnExactAreLinked", spec := "fnExactAreLinked", unfollowed := true, recurses := true, apart := false, narrowed := true }
def FnExactAreLinkedUptoSaid : Prop := fnExactAreLinkedUptoRow.holds Try.pinned (OpenSpec.upto fnExactAreLinkedSpec)

/-- 'laws.FnExactZetaNumbers', WHERE WHAT IT READS IS OF BULK AT MOST 1048576: true; the input reads as it did. -/
def fnExactZetaNumbersUptoRow : OpenClaim := { program := "ytdohepngandajaa", sum := "d4c3eef93e1b3d14a5b9b2b66d68ff4832ae4592b7914694bc19302f928c92ab", func := "loop.example/g03103/laws.FnExactZetaNumbers", spec := "fnExactZetaNumbers", recurses := true, apart := false, narrowed := true }
def FnExactZetaNumbersUptoSaid : Prop := fnExactZetaNumbersUptoRow.holds Try.pinned (OpenSpec.upto fnExactZetaNumbersSpec)

/-- 'laws.FnExactSameAwayFromZero', WHERE WHAT IT READS IS OF BULK AT MOST 1048576: true; the input reads as it did. -/
def fnExactSameAwayFromZeroUptoRow : OpenClaim := { program := "ytdohepngandajaa", sum := "d4c3eef93e1b3d14a5b9b2b66d68ff4832ae4592b7914694bc19302f928c92ab", func := "loop.example/g03103/laws.FnExactSameAwayFromZero", spec := "fnExactSameAwayFromZero", unfollowed := true, recurses := true, apart := false, narrowed := true }
def FnExactSameAwayFromZeroUptoSaid : Prop := fnExactSameAwayFromZeroUptoRow.holds Try.pinned (OpenSpec.upto fnExactSameAwayFromZeroSpec)

/-- 'laws.FnExactLabelsOf', WHERE WHAT IT READS IS OF BULK AT MOST 1048576: true; the input reads as it did. -/
def fnExactLabelsOfUptoRow : OpenClaim := { program := "ytdohepngandajaa", sum := "d4c3eef93e1b3d14a5b9b2b66d68ff4832ae4592b7914694bc19302f928c92ab", func := "loop.example/g03103/laws.FnExactLabelsOf", spec := "fnExactLabelsOf", inPlace := ["internal/bytealg.IndexByteString", "internal/bytealg.IndexString"], unfollowed := true, recurses := true, named := ["internal/bytealg.MaxLen"], apart := false, narrowed := true }
def FnExactLabelsOfUptoSaid : Prop := fnExactLabelsOfUptoRow.holds Try.pinned (OpenSpec.upto fnExactLabelsOfSpec)

/-- 'laws.FnPure', WHERE WHAT IT READS IS OF BULK AT MOST 1048576: true; the input reads as it did. -/
def fnPureUptoRow : OpenClaim := { program := "ytdohepngandajaa", sum := "d4c3eef93e1b3d14a5b9b2b66d68ff4832ae4592b7914694bc19302f928c92ab", func := "loop.example/g03103/laws.FnPure", spec := "fnPure", apart := false, narrowed := true }
def FnPureUptoSaid : Prop := fnPureUptoRow.holds Try.pinned (OpenSpec.upto fnPureSpec)

end Rows
end Go.Proofs.Ytdohepngandajaa
