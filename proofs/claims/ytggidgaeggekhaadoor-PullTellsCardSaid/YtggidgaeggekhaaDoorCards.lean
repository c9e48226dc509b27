/-
  DERIVED. GIVEN WITH THE SEED: THE CARDS: each row of YtggidgaeggekhaaDoorRows.lean that lists a variable, with what it lists TIED to the program's text (the seventh form; the later family's looks); each row that meets fmt, with fmt's text TOLD by the authors' own Lean function (tested against real Go, not proved from fmt's source: count such statements apart). THE CARD IS WHAT COUNTS. Prove the row's statement (the work); the ties are given (YtggidgaeggekhaaDoorTie.lean); close each card by the builder's one call (the guide's Derived/Test/ToyasCard.lean, 'card_holds'). Laid BY PROGRAM, IN A SANDBOX (cutbox-door.mjs). By AI agents, Wed Nov 11 2026. No macro, syntax, notation, axiom, sorry.
-/
import Derived.Test.YtggidgaeggekhaaDoorRows
import GoSem.ClaimSeven
namespace Go.Proofs.YtggidgaeggekhaaDoor
namespace Rows

/-- THE TIED CARD OF 'gyrelaw04.RootTells'. -/
def rootTellsCard : Claim7 := { stood := { row := rootTellsRow, standIns := [], harness := (true, "37d5c1eb47eb23933b4f60637f052b1345c9f8050c7ca29ecbf99e24d3b0e20a"), looks := true }, kinds := [], alts := [], laidByText := true, laidKinds := [.data], laidTests := true, laidLooks := .later }
def RootTellsCardSaid : Prop := Claim7.holds Tryd.pinned (.plain (OpenSpec.ofChange rootTellsSpec)) rootTellsCard

/-- THE TIED CARD OF 'gyrelaw04.RootRises'. -/
def rootRisesCard : Claim7 := { stood := { row := rootRisesRow, standIns := [], harness := (true, "37d5c1eb47eb23933b4f60637f052b1345c9f8050c7ca29ecbf99e24d3b0e20a"), looks := true }, kinds := [], alts := [], laidByText := true, laidKinds := [.data], laidTests := true, laidLooks := .later }
def RootRisesCardSaid : Prop := Claim7.holds Tryd.pinned (.plain (OpenSpec.ofChange rootRisesSpec)) rootRisesCard

/-- THE TIED CARD OF 'gyrelaw04.RootFraction'. -/
def rootFractionCard : Claim7 := { stood := { row := rootFractionRow, standIns := [], harness := (true, "37d5c1eb47eb23933b4f60637f052b1345c9f8050c7ca29ecbf99e24d3b0e20a"), looks := true }, kinds := [], alts := [], laidByText := true, laidKinds := [.data], laidTests := true, laidLooks := .later }
def RootFractionCardSaid : Prop := Claim7.holds Tryd.pinned (.plain (OpenSpec.ofChange rootFractionSpec)) rootFractionCard

/-- THE TIED CARD OF 'gyrelaw04.RootHalf'. -/
def rootHalfCard : Claim7 := { stood := { row := rootHalfRow, standIns := [], harness := (true, "37d5c1eb47eb23933b4f60637f052b1345c9f8050c7ca29ecbf99e24d3b0e20a"), looks := true }, kinds := [], alts := [], laidByText := true, laidKinds := [.data], laidTests := true, laidLooks := .later }
def RootHalfCardSaid : Prop := Claim7.holds Tryd.pinned (.plain (OpenSpec.ofChange rootHalfSpec)) rootHalfCard

/-- THE TIED CARD OF 'gyrelaw12.PullNearest'. -/
def pullNearestCard : Claim7 := { stood := { row := pullNearestRow, standIns := [], harness := (true, "37d5c1eb47eb23933b4f60637f052b1345c9f8050c7ca29ecbf99e24d3b0e20a"), looks := true }, kinds := [], alts := [], laidByText := true, laidKinds := [.data, .data], laidTests := true, laidLooks := .later }
def PullNearestCardSaid : Prop := Claim7.holds Tryd.pinned (.plain (OpenSpec.ofChange pullNearestSpec)) pullNearestCard

/-- THE TIED CARD OF 'gyrelaw12.PullTurns'. -/
def pullTurnsCard : Claim7 := { stood := { row := pullTurnsRow, standIns := [], harness := (true, "37d5c1eb47eb23933b4f60637f052b1345c9f8050c7ca29ecbf99e24d3b0e20a"), looks := true }, kinds := [], alts := [], laidByText := true, laidKinds := [.data, .data], laidTests := true, laidLooks := .later }
def PullTurnsCardSaid : Prop := Claim7.holds Tryd.pinned (.plain (OpenSpec.ofChange pullTurnsSpec)) pullTurnsCard

/-- THE TIED CARD OF 'gyrelaw12.PullFalls'. -/
def pullFallsCard : Claim7 := { stood := { row := pullFallsRow, standIns := [], harness := (true, "37d5c1eb47eb23933b4f60637f052b1345c9f8050c7ca29ecbf99e24d3b0e20a"), looks := true }, kinds := [], alts := [], laidByText := true, laidKinds := [.data, .data], laidTests := true, laidLooks := .later }
def PullFallsCardSaid : Prop := Claim7.holds Tryd.pinned (.plain (OpenSpec.ofChange pullFallsSpec)) pullFallsCard

/-- THE TIED CARD OF 'gyrelaw12.PullBeyond'. -/
def pullBeyondCard : Claim7 := { stood := { row := pullBeyondRow, standIns := [], harness := (true, "37d5c1eb47eb23933b4f60637f052b1345c9f8050c7ca29ecbf99e24d3b0e20a"), looks := true }, kinds := [], alts := [], laidByText := true, laidKinds := [.data, .data], laidTests := true, laidLooks := .later }
def PullBeyondCardSaid : Prop := Claim7.holds Tryd.pinned (.plain (OpenSpec.ofChange pullBeyondSpec)) pullBeyondCard

/-- THE TIED CARD OF 'gyrelaw12.PullTells'. -/
def pullTellsCard : Claim7 := { stood := { row := pullTellsRow, standIns := [], harness := (true, "37d5c1eb47eb23933b4f60637f052b1345c9f8050c7ca29ecbf99e24d3b0e20a"), looks := true }, kinds := [], alts := [], laidByText := true, laidKinds := [.data, .data], laidTests := true, laidLooks := .later }
def PullTellsCardSaid : Prop := Claim7.holds Tryd.pinned (.plain (OpenSpec.ofChange pullTellsSpec)) pullTellsCard

/-- THE SECOND FORM's CARD OF 'gyrelaw04.RootTells'. -/
def rootTellsUptoCard : Claim7 := { stood := { row := rootTellsUptoRow, standIns := [], harness := (true, "37d5c1eb47eb23933b4f60637f052b1345c9f8050c7ca29ecbf99e24d3b0e20a"), looks := true }, kinds := [], alts := [], laidByText := true, laidKinds := [.data], laidTests := true, laidLooks := .later }
def RootTellsUptoCardSaid : Prop := Claim7.holds Tryd.pinned (.plain (OpenSpec.upto rootTellsSpec)) rootTellsUptoCard

/-- THE SECOND FORM's CARD OF 'gyrelaw04.RootRises'. -/
def rootRisesUptoCard : Claim7 := { stood := { row := rootRisesUptoRow, standIns := [], harness := (true, "37d5c1eb47eb23933b4f60637f052b1345c9f8050c7ca29ecbf99e24d3b0e20a"), looks := true }, kinds := [], alts := [], laidByText := true, laidKinds := [.data], laidTests := true, laidLooks := .later }
def RootRisesUptoCardSaid : Prop := Claim7.holds Tryd.pinned (.plain (OpenSpec.upto rootRisesSpec)) rootRisesUptoCard

/-- THE SECOND FORM's CARD OF 'gyrelaw04.RootFraction'. -/
def rootFractionUptoCard : Claim7 := { stood := { row := rootFractionUptoRow, standIns := [], harness := (true, "37d5c1eb47eb23933b4f60637f052b1345c9f8050c7ca29ecbf99e24d3b0e20a"), looks := true }, kinds := [], alts := [], laidByText := true, laidKinds := [.data], laidTests := true, laidLooks := .later }
def RootFractionUptoCardSaid : Prop := Claim7.holds Tryd.pinned (.plain (OpenSpec.upto rootFractionSpec)) rootFractionUptoCard

/-- THE SECOND FORM's CARD OF 'gyrelaw04.RootHalf'. -/
def rootHalfUptoCard : Claim7 := { stood := { row := rootHalfUptoRow, standIns := [], harness := (true, "37d5c1eb47eb23933b4f60637f052b1345c9f8050c7ca29ecbf99e24d3b0e20a"), looks := true }, kinds := [], alts := [], laidByText := true, laidKinds := [.data], laidTests := true, laidLooks := .later }
def RootHalfUptoCardSaid : Prop := Claim7.holds Tryd.pinned (.plain (OpenSpec.upto rootHalfSpec)) rootHalfUptoCard

/-- THE SECOND FORM's CARD OF 'gyrelaw12.PullNearest'. -/
def pullNearestUptoCard : Claim7 := { stood := { row := pullNearestUptoRow, standIns := [], harness := (true, "37d5c1eb47eb23933b4f60637f052b1345c9f8050c7ca29ecbf99e24d3b0e20a"), looks := true }, kinds := [], alts := [], laidByText := true, laidKinds := [.data, .data], laidTests := true, laidLooks := .later }
def PullNearestUptoCardSaid : Prop := Claim7.holds Tryd.pinned (.plain (OpenSpec.upto pullNearestSpec)) pullNearestUptoCard

/-- THE SECOND FORM's CARD OF 'gyrelaw12.PullTurns'. -/
def pullTurnsUptoCard : Claim7 := { stood := { row := pullTurnsUptoRow, standIns := [], harness := (true, "37d5c1eb47eb23933b4f60637f052b1345c9f8050c7ca29ecbf99e24d3b0e20a"), looks := true }, kinds := [], alts := [], laidByText := true, laidKinds := [.data, .data], laidTests := true, laidLooks := .later }
def PullTurnsUptoCardSaid : Prop := Claim7.holds Tryd.pinned (.plain (OpenSpec.upto pullTurnsSpec)) pullTurnsUptoCard

/-- THE SECOND FORM's CARD OF 'gyrelaw12.PullFalls'. -/
def pullFallsUptoCard : Claim7 := { stood := { row := pullFallsUptoRow, standIns := [], harness := (true, "37d5c1eb47eb23933b4f60637f052b1345c9f8050c7ca29ecbf99e24d3b0e20a"), looks := true }, kinds := [], alts := [], laidByText := true, laidKinds := [.data, .data], laidTests := true, laidLooks := .later }
def PullFallsUptoCardSaid : Prop := Claim7.holds Tryd.pinned (.plain (OpenSpec.upto pullFallsSpec)) pullFallsUptoCard

/-- THE SECOND FORM's CARD OF 'gyrelaw12.PullBeyond'. -/
def pullBeyondUptoCard : Claim7 := { stood := { row := pullBeyondUptoRow, standIns := [], harness := (true, "37d5c1eb47eb23933b4f60637f052b1345c9f8050c7ca29ecbf99e24d3b0e20a"), looks := true }, kinds := [], alts := [], laidByText := true, laidKinds := [.data, .data], laidTests := true, laidLooks := .later }
def PullBeyondUptoCardSaid : Prop := Claim7.holds Tryd.pinned (.plain (OpenSpec.upto pullBeyondSpec)) pullBeyondUptoCard

/-- THE SECOND FORM's CARD OF 'gyrelaw12.PullTells'. -/
def pullTellsUptoCard : Claim7 := { stood := { row := pullTellsUptoRow, standIns := [], harness := (true, "37d5c1eb47eb23933b4f60637f052b1345c9f8050c7ca29ecbf99e24d3b0e20a"), looks := true }, kinds := [], alts := [], laidByText := true, laidKinds := [.data, .data], laidTests := true, laidLooks := .later }
def PullTellsUptoCardSaid : Prop := Claim7.holds Tryd.pinned (.plain (OpenSpec.upto pullTellsSpec)) pullTellsUptoCard
end Rows
end Go.Proofs.YtggidgaeggekhaaDoor
