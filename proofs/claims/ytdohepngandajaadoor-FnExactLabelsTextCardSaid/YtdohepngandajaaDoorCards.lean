/-
  DERIVED. GIVEN WITH THE SEED: THE CARDS: each row of YtdohepngandajaaDoorRows.lean that lists a variable, with what it lists TIED to the program's text (the seventh form; the later family's looks); each row that meets fmt, with fmt's text TOLD by the authors' own Lean function (tested against real Go, not proved from fmt's source: count such statements apart). THE CARD IS WHAT COUNTS. Prove the row's statement (the work); the ties are given (YtdohepngandajaaDoorTie.lean); close each card by the builder's one call (the guide's Derived/Test/ToyasCard.lean, 'card_holds'). Laid BY PROGRAM, IN A SANDBOX (cutbox-door.mjs). By AI agents, Wed Nov 11 2026. No macro, syntax, notation, axiom, sorry.
-/
import Derived.Test.YtdohepngandajaaDoorRows
import GoSem.ClaimSeven
namespace Go.Proofs.YtdohepngandajaaDoor
namespace Rows

/-- THE TIED CARD OF 'laws.FnExactLabelsText'. -/
def fnExactLabelsTextCard : Claim7 := { stood := { row := fnExactLabelsTextRow, standIns := [], harness := (true, "864c57ba9be6516008f7a976f43aa9655b8326e2417e54f7a5cf1df62378d379"), looks := false }, kinds := [], alts := [], laidByText := true, laidKinds := [.data, .data, .data], laidTests := true, laidLooks := .later }
def FnExactLabelsTextCardSaid : Prop := Claim7.holds Tryd.pinned (.plain (OpenSpec.ofChange fnExactLabelsTextSpec)) fnExactLabelsTextCard

/-- THE TIED CARD OF 'laws.FnExactSyncState'. -/
def fnExactSyncStateCard : Claim7 := { stood := { row := fnExactSyncStateRow, standIns := [], harness := (true, "864c57ba9be6516008f7a976f43aa9655b8326e2417e54f7a5cf1df62378d379"), looks := false }, kinds := [], alts := [], laidByText := true, laidKinds := [.data, .data], laidTests := true, laidLooks := .later }
def FnExactSyncStateCardSaid : Prop := Claim7.holds Tryd.pinned (.plain (OpenSpec.ofChange fnExactSyncStateSpec)) fnExactSyncStateCard

/-- THE SECOND FORM's CARD OF 'laws.FnExactLabelsText'. -/
def fnExactLabelsTextUptoCard : Claim7 := { stood := { row := fnExactLabelsTextUptoRow, standIns := [], harness := (true, "864c57ba9be6516008f7a976f43aa9655b8326e2417e54f7a5cf1df62378d379"), looks := false }, kinds := [], alts := [], laidByText := true, laidKinds := [.data, .data, .data], laidTests := true, laidLooks := .later }
def FnExactLabelsTextUptoCardSaid : Prop := Claim7.holds Tryd.pinned (.plain (OpenSpec.upto fnExactLabelsTextSpec)) fnExactLabelsTextUptoCard

/-- THE SECOND FORM's CARD OF 'laws.FnExactSyncState'. -/
def fnExactSyncStateUptoCard : Claim7 := { stood := { row := fnExactSyncStateUptoRow, standIns := [], harness := (true, "864c57ba9be6516008f7a976f43aa9655b8326e2417e54f7a5cf1df62378d379"), looks := false }, kinds := [], alts := [], laidByText := true, laidKinds := [.data, .data], laidTests := true, laidLooks := .later }
def FnExactSyncStateUptoCardSaid : Prop := Claim7.holds Tryd.pinned (.plain (OpenSpec.upto fnExactSyncStateSpec)) fnExactSyncStateUptoCard
end Rows
end Go.Proofs.YtdohepngandajaaDoor
