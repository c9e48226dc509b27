/-
  DERIVED. GIVEN WITH THE SEED: THE CARDS: each row of YtmnknnojkhkceaaGreatDoorRows.lean that lists a variable, with what it lists TIED to the program's text (the seventh form; the later family's looks); each row that meets fmt, with fmt's text TOLD by the authors' own Lean function (tested against real Go, not proved from fmt's source: count such statements apart). THE CARD IS WHAT COUNTS. Prove the row's statement (the work); the ties are given (YtmnknnojkhkceaaGreatDoorTie.lean); close each card by the builder's one call (the guide's Derived/Test/ToyasCard.lean, 'card_holds'). Laid BY PROGRAM, IN A SANDBOX (cutbox-door.mjs). By AI agents, Wed Nov 11 2026. No macro, syntax, notation, axiom, sorry.
-/
import Derived.Test.YtmnknnojkhkceaaGreatDoorRows
import GoSem.ClaimSeven
namespace Go.Proofs.YtmnknnojkhkceaaGreatDoor
namespace Rows

/-- THE TIED CARD OF 'gyrelaw16.KickTells'. -/
def kickTellsCard : Claim7 := { stood := { row := kickTellsRow, standIns := [], harness := (true, "c8c6c9506b1f1e6c6120c3be4086e62da5084ac5c603689c2099ce128fc5be94"), looks := true }, kinds := [], alts := [], laidByText := true, laidKinds := [.data, .data, .data], laidTests := true, laidLooks := .later }
def KickTellsCardSaid : Prop := Claim7.holds Tryz.pinned (.plain (OpenSpec.ofChange kickTellsSpec)) kickTellsCard

/-- THE TIED CARD OF 'gyrelaw16.KickSums'. -/
def kickSumsCard : Claim7 := { stood := { row := kickSumsRow, standIns := [], harness := (true, "c8c6c9506b1f1e6c6120c3be4086e62da5084ac5c603689c2099ce128fc5be94"), looks := true }, kinds := [], alts := [], laidByText := true, laidKinds := [.data, .data, .data], laidTests := true, laidLooks := .later }
def KickSumsCardSaid : Prop := Claim7.holds Tryz.pinned (.plain (OpenSpec.ofChange kickSumsSpec)) kickSumsCard

/-- THE TIED CARD OF 'gyrelaw16.KickOrder'. -/
def kickOrderCard : Claim7 := { stood := { row := kickOrderRow, standIns := [], harness := (true, "c8c6c9506b1f1e6c6120c3be4086e62da5084ac5c603689c2099ce128fc5be94"), looks := true }, kinds := [], alts := [], laidByText := true, laidKinds := [.data, .data, .data], laidTests := true, laidLooks := .later }
def KickOrderCardSaid : Prop := Claim7.holds Tryz.pinned (.plain (OpenSpec.ofChange kickOrderSpec)) kickOrderCard

/-- THE TIED CARD OF 'gyrelaw16.KickStill'. -/
def kickStillCard : Claim7 := { stood := { row := kickStillRow, standIns := [], harness := (true, "c8c6c9506b1f1e6c6120c3be4086e62da5084ac5c603689c2099ce128fc5be94"), looks := true }, kinds := [], alts := [], laidByText := true, laidKinds := [.data, .data, .data], laidTests := true, laidLooks := .later }
def KickStillCardSaid : Prop := Claim7.holds Tryz.pinned (.plain (OpenSpec.ofChange kickStillSpec)) kickStillCard

/-- THE SECOND FORM's CARD OF 'gyrelaw16.KickTells'. -/
def kickTellsUptoCard : Claim7 := { stood := { row := kickTellsUptoRow, standIns := [], harness := (true, "c8c6c9506b1f1e6c6120c3be4086e62da5084ac5c603689c2099ce128fc5be94"), looks := true }, kinds := [], alts := [], laidByText := true, laidKinds := [.data, .data, .data], laidTests := true, laidLooks := .later }
def KickTellsUptoCardSaid : Prop := Claim7.holds Tryz.pinned (.plain (OpenSpec.upto kickTellsSpec)) kickTellsUptoCard

/-- THE SECOND FORM's CARD OF 'gyrelaw16.KickSums'. -/
def kickSumsUptoCard : Claim7 := { stood := { row := kickSumsUptoRow, standIns := [], harness := (true, "c8c6c9506b1f1e6c6120c3be4086e62da5084ac5c603689c2099ce128fc5be94"), looks := true }, kinds := [], alts := [], laidByText := true, laidKinds := [.data, .data, .data], laidTests := true, laidLooks := .later }
def KickSumsUptoCardSaid : Prop := Claim7.holds Tryz.pinned (.plain (OpenSpec.upto kickSumsSpec)) kickSumsUptoCard

/-- THE SECOND FORM's CARD OF 'gyrelaw16.KickOrder'. -/
def kickOrderUptoCard : Claim7 := { stood := { row := kickOrderUptoRow, standIns := [], harness := (true, "c8c6c9506b1f1e6c6120c3be4086e62da5084ac5c603689c2099ce128fc5be94"), looks := true }, kinds := [], alts := [], laidByText := true, laidKinds := [.data, .data, .data], laidTests := true, laidLooks := .later }
def KickOrderUptoCardSaid : Prop := Claim7.holds Tryz.pinned (.plain (OpenSpec.upto kickOrderSpec)) kickOrderUptoCard

/-- THE SECOND FORM's CARD OF 'gyrelaw16.KickStill'. -/
def kickStillUptoCard : Claim7 := { stood := { row := kickStillUptoRow, standIns := [], harness := (true, "c8c6c9506b1f1e6c6120c3be4086e62da5084ac5c603689c2099ce128fc5be94"), looks := true }, kinds := [], alts := [], laidByText := true, laidKinds := [.data, .data, .data], laidTests := true, laidLooks := .later }
def KickStillUptoCardSaid : Prop := Claim7.holds Tryz.pinned (.plain (OpenSpec.upto kickStillSpec)) kickStillUptoCard
end Rows
end Go.Proofs.YtmnknnojkhkceaaGreatDoor
