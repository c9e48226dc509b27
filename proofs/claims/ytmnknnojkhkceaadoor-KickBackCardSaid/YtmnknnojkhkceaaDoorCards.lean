/-
  DERIVED. GIVEN WITH THE SEED: THE CARDS: each row of YtmnknnojkhkceaaDoorRows.lean that lists a variable, with what it lists TIED to the program's text (the seventh form; the later family's looks); each row that meets fmt, with fmt's text TOLD by the authors' own Lean function (tested against real Go, not proved from fmt's source: count such statements apart). THE CARD IS WHAT COUNTS. Prove the row's statement (the work); the ties are given (YtmnknnojkhkceaaDoorTie.lean); close each card by the builder's one call (the guide's Derived/Test/ToyasCard.lean, 'card_holds'). Laid BY PROGRAM, IN A SANDBOX (cutbox-door.mjs). By AI agents, Wed Nov 11 2026. No macro, syntax, notation, axiom, sorry.
-/
import Derived.Test.YtmnknnojkhkceaaDoorRows
import GoSem.ClaimSeven
namespace Go.Proofs.YtmnknnojkhkceaaDoor
namespace Rows

/-- THE TIED CARD OF 'gyrelaw16.KickBack'. -/
def kickBackCard : Claim7 := { stood := { row := kickBackRow, standIns := [], harness := (true, "eac16eb03e7782d8fd981f59b2b477b4ca7c8beaca96b5c899be898c071bcd04"), looks := true }, kinds := [], alts := [], laidByText := true, laidKinds := [.data, .data, .data], laidTests := true, laidLooks := .later }
def KickBackCardSaid : Prop := Claim7.holds Tryd.pinned (.plain (OpenSpec.ofChange kickBackSpec)) kickBackCard

/-- THE SECOND FORM's CARD OF 'gyrelaw16.KickBack'. -/
def kickBackUptoCard : Claim7 := { stood := { row := kickBackUptoRow, standIns := [], harness := (true, "eac16eb03e7782d8fd981f59b2b477b4ca7c8beaca96b5c899be898c071bcd04"), looks := true }, kinds := [], alts := [], laidByText := true, laidKinds := [.data, .data, .data], laidTests := true, laidLooks := .later }
def KickBackUptoCardSaid : Prop := Claim7.holds Tryd.pinned (.plain (OpenSpec.upto kickBackSpec)) kickBackUptoCard
end Rows
end Go.Proofs.YtmnknnojkhkceaaDoor
