/-
  DERIVED. GIVEN WITH THE SEED: THE CARDS: each row of YtekhnalfccakmaaGreatDoorRows.lean that lists a variable, with what it lists TIED to the program's text (the seventh form; the later family's looks); each row that meets fmt, with fmt's text TOLD by the authors' own Lean function (tested against real Go, not proved from fmt's source: count such statements apart). THE CARD IS WHAT COUNTS. Prove the row's statement (the work); the ties are given (YtekhnalfccakmaaGreatDoorTie.lean); close each card by the builder's one call (the guide's Derived/Test/ToyasCard.lean, 'card_holds'). Laid BY PROGRAM, IN A SANDBOX (cutbox-door.mjs). By AI agents, Wed Nov 11 2026. No macro, syntax, notation, axiom, sorry.
-/
import Derived.Test.YtekhnalfccakmaaGreatDoorRows
import GoSem.ClaimSeven
namespace Go.Proofs.YtekhnalfccakmaaGreatDoor
namespace Rows

/-- THE TIED CARD OF 'gyrelaw18.StepOps'. -/
def stepOpsCard : Claim7 := { stood := { row := stepOpsRow, standIns := [], harness := (true, "76028222adbb27f766f5070dba08dfbf88a58d16d1e226a78e79ee9e8e31e7a5"), looks := true }, kinds := [], alts := [], laidByText := true, laidKinds := [.data, .data, .data], laidTests := true, laidLooks := .later }
def StepOpsCardSaid : Prop := Claim7.holds Tryz.pinned (.plain (OpenSpec.ofChange stepOpsSpec)) stepOpsCard

/-- THE TIED CARD OF 'gyrelaw18.StepGuards'. -/
def stepGuardsCard : Claim7 := { stood := { row := stepGuardsRow, standIns := [], harness := (true, "76028222adbb27f766f5070dba08dfbf88a58d16d1e226a78e79ee9e8e31e7a5"), looks := true }, kinds := [], alts := [], laidByText := true, laidKinds := [.data, .data, .data], laidTests := true, laidLooks := .later }
def StepGuardsCardSaid : Prop := Claim7.holds Tryz.pinned (.plain (OpenSpec.ofChange stepGuardsSpec)) stepGuardsCard

/-- THE SECOND FORM's CARD OF 'gyrelaw18.StepGuards'. -/
def stepGuardsUptoCard : Claim7 := { stood := { row := stepGuardsUptoRow, standIns := [], harness := (true, "76028222adbb27f766f5070dba08dfbf88a58d16d1e226a78e79ee9e8e31e7a5"), looks := true }, kinds := [], alts := [], laidByText := true, laidKinds := [.data, .data, .data], laidTests := true, laidLooks := .later }
def StepGuardsUptoCardSaid : Prop := Claim7.holds Tryz.pinned (.plain (OpenSpec.upto stepGuardsSpec)) stepGuardsUptoCard
end Rows
end Go.Proofs.YtekhnalfccakmaaGreatDoor
