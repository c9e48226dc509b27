/-
  DERIVED. GIVEN WITH THE SEED: THE CARDS: each row of YtfedlkjhfnlnbaaDoorRows.lean that lists a variable, with what it lists TIED to the program's text (the seventh form; the later family's looks); each row that meets fmt, with fmt's text TOLD by the authors' own Lean function (tested against real Go, not proved from fmt's source: count such statements apart). THE CARD IS WHAT COUNTS. Prove the row's statement (the work); the ties are given (YtfedlkjhfnlnbaaDoorTie.lean); close each card by the builder's one call (the guide's Derived/Test/ToyasCard.lean, 'card_holds'). Laid BY PROGRAM, IN A SANDBOX (cutbox-door.mjs). By AI agents, Wed Nov 11 2026. No macro, syntax, notation, axiom, sorry.
-/
import Derived.Test.YtfedlkjhfnlnbaaDoorRows
import GoSem.ClaimSeven
namespace Go.Proofs.YtfedlkjhfnlnbaaDoor
namespace Rows

/-- THE TIED CARD OF 'gyrelaw22.EnergyHolds'. -/
def energyHoldsCard : Claim7 := { stood := { row := energyHoldsRow, standIns := [], harness := (true, "02c7558a2b53557dfad8c37891f4a7ab2f4683a9d2c5c494be64fc3be77de911"), looks := true }, kinds := [], alts := [], laidByText := true, laidKinds := [.data, .data], laidTests := true, laidLooks := .later }
def EnergyHoldsCardSaid : Prop := Claim7.holds Tryd.pinned (.plain (OpenSpec.ofChange energyHoldsSpec)) energyHoldsCard

/-- THE TIED CARD OF 'gyrelaw22.EnergySame'. -/
def energySameCard : Claim7 := { stood := { row := energySameRow, standIns := [], harness := (true, "02c7558a2b53557dfad8c37891f4a7ab2f4683a9d2c5c494be64fc3be77de911"), looks := true }, kinds := [], alts := [], laidByText := true, laidKinds := [.data, .data], laidTests := true, laidLooks := .later }
def EnergySameCardSaid : Prop := Claim7.holds Tryd.pinned (.plain (OpenSpec.ofChange energySameSpec)) energySameCard

/-- THE TIED CARD OF 'gyrelaw22.EnergyFalls'. -/
def energyFallsCard : Claim7 := { stood := { row := energyFallsRow, standIns := [], harness := (true, "02c7558a2b53557dfad8c37891f4a7ab2f4683a9d2c5c494be64fc3be77de911"), looks := true }, kinds := [], alts := [], laidByText := true, laidKinds := [.data, .data], laidTests := true, laidLooks := .later }
def EnergyFallsCardSaid : Prop := Claim7.holds Tryd.pinned (.plain (OpenSpec.ofChange energyFallsSpec)) energyFallsCard

/-- THE SECOND FORM's CARD OF 'gyrelaw22.EnergyHolds'. -/
def energyHoldsUptoCard : Claim7 := { stood := { row := energyHoldsUptoRow, standIns := [], harness := (true, "02c7558a2b53557dfad8c37891f4a7ab2f4683a9d2c5c494be64fc3be77de911"), looks := true }, kinds := [], alts := [], laidByText := true, laidKinds := [.data, .data], laidTests := true, laidLooks := .later }
def EnergyHoldsUptoCardSaid : Prop := Claim7.holds Tryd.pinned (.plain (OpenSpec.upto energyHoldsSpec)) energyHoldsUptoCard

/-- THE SECOND FORM's CARD OF 'gyrelaw22.EnergySame'. -/
def energySameUptoCard : Claim7 := { stood := { row := energySameUptoRow, standIns := [], harness := (true, "02c7558a2b53557dfad8c37891f4a7ab2f4683a9d2c5c494be64fc3be77de911"), looks := true }, kinds := [], alts := [], laidByText := true, laidKinds := [.data, .data], laidTests := true, laidLooks := .later }
def EnergySameUptoCardSaid : Prop := Claim7.holds Tryd.pinned (.plain (OpenSpec.upto energySameSpec)) energySameUptoCard

/-- THE SECOND FORM's CARD OF 'gyrelaw22.EnergyFalls'. -/
def energyFallsUptoCard : Claim7 := { stood := { row := energyFallsUptoRow, standIns := [], harness := (true, "02c7558a2b53557dfad8c37891f4a7ab2f4683a9d2c5c494be64fc3be77de911"), looks := true }, kinds := [], alts := [], laidByText := true, laidKinds := [.data, .data], laidTests := true, laidLooks := .later }
def EnergyFallsUptoCardSaid : Prop := Claim7.holds Tryd.pinned (.plain (OpenSpec.upto energyFallsSpec)) energyFallsUptoCard
end Rows
end Go.Proofs.YtfedlkjhfnlnbaaDoor
