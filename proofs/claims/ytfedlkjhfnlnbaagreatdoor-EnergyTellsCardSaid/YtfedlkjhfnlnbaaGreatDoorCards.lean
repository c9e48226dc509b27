/-
  DERIVED. GIVEN WITH THE SEED: THE CARDS: each row of YtfedlkjhfnlnbaaGreatDoorRows.lean that lists a variable, with what it lists TIED to the program's text (the seventh form; the later family's looks); each row that meets fmt, with fmt's text TOLD by the authors' own Lean function (tested against real Go, not proved from fmt's source: count such statements apart). THE CARD IS WHAT COUNTS. Prove the row's statement (the work); the ties are given (YtfedlkjhfnlnbaaGreatDoorTie.lean); close each card by the builder's one call (the guide's Derived/Test/ToyasCard.lean, 'card_holds'). Laid BY PROGRAM, IN A SANDBOX (cutbox-door.mjs). By AI agents, Wed Nov 11 2026. No macro, syntax, notation, axiom, sorry.
-/
import Derived.Test.YtfedlkjhfnlnbaaGreatDoorRows
import GoSem.ClaimSeven
namespace Go.Proofs.YtfedlkjhfnlnbaaGreatDoor
namespace Rows

/-- THE TIED CARD OF 'gyrelaw22.EnergyTells'. -/
def energyTellsCard : Claim7 := { stood := { row := energyTellsRow, standIns := [], harness := (true, "b4459cdab6f7f35755c4f3fb8b1441fe9bc891ef78e5da0da4112961c9d153b1"), looks := true }, kinds := [], alts := [], laidByText := true, laidKinds := [.data, .data], laidTests := true, laidLooks := .later }
def EnergyTellsCardSaid : Prop := Claim7.holds Tryz.pinned (.plain (OpenSpec.ofChange energyTellsSpec)) energyTellsCard

/-- THE TIED CARD OF 'gyrelaw22.EnergyWidth'. -/
def energyWidthCard : Claim7 := { stood := { row := energyWidthRow, standIns := [], harness := (true, "b4459cdab6f7f35755c4f3fb8b1441fe9bc891ef78e5da0da4112961c9d153b1"), looks := true }, kinds := [], alts := [], laidByText := true, laidKinds := [.data, .data], laidTests := true, laidLooks := .later }
def EnergyWidthCardSaid : Prop := Claim7.holds Tryz.pinned (.plain (OpenSpec.ofChange energyWidthSpec)) energyWidthCard

/-- THE SECOND FORM's CARD OF 'gyrelaw22.EnergyTells'. -/
def energyTellsUptoCard : Claim7 := { stood := { row := energyTellsUptoRow, standIns := [], harness := (true, "b4459cdab6f7f35755c4f3fb8b1441fe9bc891ef78e5da0da4112961c9d153b1"), looks := true }, kinds := [], alts := [], laidByText := true, laidKinds := [.data, .data], laidTests := true, laidLooks := .later }
def EnergyTellsUptoCardSaid : Prop := Claim7.holds Tryz.pinned (.plain (OpenSpec.upto energyTellsSpec)) energyTellsUptoCard

/-- THE SECOND FORM's CARD OF 'gyrelaw22.EnergyWidth'. -/
def energyWidthUptoCard : Claim7 := { stood := { row := energyWidthUptoRow, standIns := [], harness := (true, "b4459cdab6f7f35755c4f3fb8b1441fe9bc891ef78e5da0da4112961c9d153b1"), looks := true }, kinds := [], alts := [], laidByText := true, laidKinds := [.data, .data], laidTests := true, laidLooks := .later }
def EnergyWidthUptoCardSaid : Prop := Claim7.holds Tryz.pinned (.plain (OpenSpec.upto energyWidthSpec)) energyWidthUptoCard
end Rows
end Go.Proofs.YtfedlkjhfnlnbaaGreatDoor
