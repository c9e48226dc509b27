/-
  DERIVED. GIVEN WITH THE SEED: THE CARDS: each row of YtamodcpmplmaoaaGreatDoorRows.lean that lists a variable, with what it lists TIED to the program's text (the seventh form; the later family's looks); each row that meets fmt, with fmt's text TOLD by the authors' own Lean function (tested against real Go, not proved from fmt's source: count such statements apart). THE CARD IS WHAT COUNTS. Prove the row's statement (the work); the ties are given (YtamodcpmplmaoaaGreatDoorTie.lean); close each card by the builder's one call (the guide's Derived/Test/ToyasCard.lean, 'card_holds'). Laid BY PROGRAM, IN A SANDBOX (cutbox-door.mjs). By AI agents, Wed Nov 11 2026. No macro, syntax, notation, axiom, sorry.
-/
import Derived.Test.YtamodcpmplmaoaaGreatDoorRows
import GoSem.ClaimSeven
namespace Go.Proofs.YtamodcpmplmaoaaGreatDoor
namespace Rows

/-- THE TIED CARD OF 'gyrelaw24.HullTells'. -/
def hullTellsCard : Claim7 := { stood := { row := hullTellsRow, standIns := [], harness := (true, "7906ef17ee53ffa47858e056c51984eb7607e101f743557df05b5ddc14636b79"), looks := true }, kinds := [], alts := [], laidByText := true, laidKinds := [.data, .data], laidTests := true, laidLooks := .later }
def HullTellsCardSaid : Prop := Claim7.holds Tryz.pinned (.plain (OpenSpec.ofChange hullTellsSpec)) hullTellsCard

/-- THE TIED CARD OF 'gyrelaw24.HullLoss'. -/
def hullLossCard : Claim7 := { stood := { row := hullLossRow, standIns := [], harness := (true, "7906ef17ee53ffa47858e056c51984eb7607e101f743557df05b5ddc14636b79"), looks := true }, kinds := [], alts := [], laidByText := true, laidKinds := [.data, .data], laidTests := true, laidLooks := .later }
def HullLossCardSaid : Prop := Claim7.holds Tryz.pinned (.plain (OpenSpec.ofChange hullLossSpec)) hullLossCard

/-- THE TIED CARD OF 'gyrelaw24.HullHolds'. -/
def hullHoldsCard : Claim7 := { stood := { row := hullHoldsRow, standIns := [], harness := (true, "7906ef17ee53ffa47858e056c51984eb7607e101f743557df05b5ddc14636b79"), looks := true }, kinds := [], alts := [], laidByText := true, laidKinds := [.data, .data], laidTests := true, laidLooks := .later }
def HullHoldsCardSaid : Prop := Claim7.holds Tryz.pinned (.plain (OpenSpec.ofChange hullHoldsSpec)) hullHoldsCard

/-- THE TIED CARD OF 'gyrelaw24.HullTight'. -/
def hullTightCard : Claim7 := { stood := { row := hullTightRow, standIns := [], harness := (true, "7906ef17ee53ffa47858e056c51984eb7607e101f743557df05b5ddc14636b79"), looks := true }, kinds := [], alts := [], laidByText := true, laidKinds := [.data, .data], laidTests := true, laidLooks := .later }
def HullTightCardSaid : Prop := Claim7.holds Tryz.pinned (.plain (OpenSpec.ofChange hullTightSpec)) hullTightCard

/-- THE TIED CARD OF 'gyrelaw24.HullSteps'. -/
def hullStepsCard : Claim7 := { stood := { row := hullStepsRow, standIns := [], harness := (true, "7906ef17ee53ffa47858e056c51984eb7607e101f743557df05b5ddc14636b79"), looks := true }, kinds := [], alts := [], laidByText := true, laidKinds := [.data, .data], laidTests := true, laidLooks := .later }
def HullStepsCardSaid : Prop := Claim7.holds Tryz.pinned (.plain (OpenSpec.ofChange hullStepsSpec)) hullStepsCard

/-- THE SECOND FORM's CARD OF 'gyrelaw24.HullTells'. -/
def hullTellsUptoCard : Claim7 := { stood := { row := hullTellsUptoRow, standIns := [], harness := (true, "7906ef17ee53ffa47858e056c51984eb7607e101f743557df05b5ddc14636b79"), looks := true }, kinds := [], alts := [], laidByText := true, laidKinds := [.data, .data], laidTests := true, laidLooks := .later }
def HullTellsUptoCardSaid : Prop := Claim7.holds Tryz.pinned (.plain (OpenSpec.upto hullTellsSpec)) hullTellsUptoCard

/-- THE SECOND FORM's CARD OF 'gyrelaw24.HullLoss'. -/
def hullLossUptoCard : Claim7 := { stood := { row := hullLossUptoRow, standIns := [], harness := (true, "7906ef17ee53ffa47858e056c51984eb7607e101f743557df05b5ddc14636b79"), looks := true }, kinds := [], alts := [], laidByText := true, laidKinds := [.data, .data], laidTests := true, laidLooks := .later }
def HullLossUptoCardSaid : Prop := Claim7.holds Tryz.pinned (.plain (OpenSpec.upto hullLossSpec)) hullLossUptoCard

/-- THE SECOND FORM's CARD OF 'gyrelaw24.HullHolds'. -/
def hullHoldsUptoCard : Claim7 := { stood := { row := hullHoldsUptoRow, standIns := [], harness := (true, "7906ef17ee53ffa47858e056c51984eb7607e101f743557df05b5ddc14636b79"), looks := true }, kinds := [], alts := [], laidByText := true, laidKinds := [.data, .data], laidTests := true, laidLooks := .later }
def HullHoldsUptoCardSaid : Prop := Claim7.holds Tryz.pinned (.plain (OpenSpec.upto hullHoldsSpec)) hullHoldsUptoCard

/-- THE SECOND FORM's CARD OF 'gyrelaw24.HullTight'. -/
def hullTightUptoCard : Claim7 := { stood := { row := hullTightUptoRow, standIns := [], harness := (true, "7906ef17ee53ffa47858e056c51984eb7607e101f743557df05b5ddc14636b79"), looks := true }, kinds := [], alts := [], laidByText := true, laidKinds := [.data, .data], laidTests := true, laidLooks := .later }
def HullTightUptoCardSaid : Prop := Claim7.holds Tryz.pinned (.plain (OpenSpec.upto hullTightSpec)) hullTightUptoCard

/-- THE SECOND FORM's CARD OF 'gyrelaw24.HullSteps'. -/
def hullStepsUptoCard : Claim7 := { stood := { row := hullStepsUptoRow, standIns := [], harness := (true, "7906ef17ee53ffa47858e056c51984eb7607e101f743557df05b5ddc14636b79"), looks := true }, kinds := [], alts := [], laidByText := true, laidKinds := [.data, .data], laidTests := true, laidLooks := .later }
def HullStepsUptoCardSaid : Prop := Claim7.holds Tryz.pinned (.plain (OpenSpec.upto hullStepsSpec)) hullStepsUptoCard
end Rows
end Go.Proofs.YtamodcpmplmaoaaGreatDoor
