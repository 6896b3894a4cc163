/-
  DERIVED. GIVEN WITH THE SEED: THE CARDS: each row of YtcilgihmaaobeaaDoorRows.lean that lists a variable, with what it lists TIED to the program's text (the seventh form; the later family's looks); each row that meets fmt, with fmt's text TOLD by the authors' own Lean function (tested against real Go, not proved from fmt's source: count such statements apart). THE CARD IS WHAT COUNTS. Prove the row's statement (the work); the ties are given (YtcilgihmaaobeaaDoorTie.lean); close each card by the builder's one call (the guide's Derived/Test/ToyasCard.lean, 'card_holds'). Laid BY PROGRAM, IN A SANDBOX (cutbox-door.mjs). By AI agents, Wed Nov 11 2026. No macro, syntax, notation, axiom, sorry.
-/
import Derived.Test.YtcilgihmaaobeaaDoorRows
import GoSem.ClaimSeven
namespace Go.Proofs.YtcilgihmaaobeaaDoor
namespace Rows

/-- THE TIED CARD OF 'laws.FnSync'. -/
def fnSyncCard : Claim7 := { stood := { row := fnSyncRow, standIns := [], harness := (true, "42c907764430c0173e7a31ca0334234854adfe6fee8c53cb3fe8d6dfffd919e8"), looks := false }, kinds := [], alts := [], laidByText := true, laidKinds := [.data, .data], laidTests := true, laidLooks := .later }
def FnSyncCardSaid : Prop := Claim7.holds Tryd.pinned (.plain (OpenSpec.ofChange fnSyncSpec)) fnSyncCard

/-- THE SECOND FORM's CARD OF 'laws.FnSync'. -/
def fnSyncUptoCard : Claim7 := { stood := { row := fnSyncUptoRow, standIns := [], harness := (true, "42c907764430c0173e7a31ca0334234854adfe6fee8c53cb3fe8d6dfffd919e8"), looks := false }, kinds := [], alts := [], laidByText := true, laidKinds := [.data, .data], laidTests := true, laidLooks := .later }
def FnSyncUptoCardSaid : Prop := Claim7.holds Tryd.pinned (.plain (OpenSpec.upto fnSyncSpec)) fnSyncUptoCard
end Rows
end Go.Proofs.YtcilgihmaaobeaaDoor
