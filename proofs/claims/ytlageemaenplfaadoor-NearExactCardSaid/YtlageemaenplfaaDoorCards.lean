/-
  DERIVED. GIVEN WITH THE SEED: THE CARDS: each row of YtlageemaenplfaaDoorRows.lean that lists a variable, with what it lists TIED to the program's text (the seventh form; the later family's looks); each row that meets fmt, with fmt's text TOLD by the authors' own Lean function (tested against real Go, not proved from fmt's source: count such statements apart). THE CARD IS WHAT COUNTS. Prove the row's statement (the work); the ties are given (YtlageemaenplfaaDoorTie.lean); close each card by the builder's one call (the guide's Derived/Test/ToyasCard.lean, 'card_holds'). Laid BY PROGRAM, IN A SANDBOX (cutbox-door.mjs). By AI agents, Wed Nov 11 2026. No macro, syntax, notation, axiom, sorry.
-/
import Derived.Test.YtlageemaenplfaaDoorRows
import GoSem.ClaimSeven
namespace Go.Proofs.YtlageemaenplfaaDoor
namespace Rows

/-- THE TIED CARD OF 'gyrelaw13.NearExact'. -/
def nearExactCard : Claim7 := { stood := { row := nearExactRow, standIns := [], harness := (true, "dba008a98b0f78fabbd84c978ee58bb20c9535e3d960f0fb37499a6aeb17da61"), looks := true }, kinds := [], alts := [], laidByText := true, laidKinds := [.data], laidTests := true, laidLooks := .later }
def NearExactCardSaid : Prop := Claim7.holds Tryd.pinned (.plain (OpenSpec.ofChange nearExactSpec)) nearExactCard

/-- THE TIED CARD OF 'gyrelaw13.NearMoved'. -/
def nearMovedCard : Claim7 := { stood := { row := nearMovedRow, standIns := [], harness := (true, "dba008a98b0f78fabbd84c978ee58bb20c9535e3d960f0fb37499a6aeb17da61"), looks := true }, kinds := [], alts := [], laidByText := true, laidKinds := [.data], laidTests := true, laidLooks := .later }
def NearMovedCardSaid : Prop := Claim7.holds Tryd.pinned (.plain (OpenSpec.ofChange nearMovedSpec)) nearMovedCard

/-- THE TIED CARD OF 'gyrelaw13.NearWay'. -/
def nearWayCard : Claim7 := { stood := { row := nearWayRow, standIns := [], harness := (true, "dba008a98b0f78fabbd84c978ee58bb20c9535e3d960f0fb37499a6aeb17da61"), looks := true }, kinds := [], alts := [], laidByText := true, laidKinds := [.data], laidTests := true, laidLooks := .later }
def NearWayCardSaid : Prop := Claim7.holds Tryd.pinned (.plain (OpenSpec.ofChange nearWaySpec)) nearWayCard

/-- THE SECOND FORM's CARD OF 'gyrelaw13.NearExact'. -/
def nearExactUptoCard : Claim7 := { stood := { row := nearExactUptoRow, standIns := [], harness := (true, "dba008a98b0f78fabbd84c978ee58bb20c9535e3d960f0fb37499a6aeb17da61"), looks := true }, kinds := [], alts := [], laidByText := true, laidKinds := [.data], laidTests := true, laidLooks := .later }
def NearExactUptoCardSaid : Prop := Claim7.holds Tryd.pinned (.plain (OpenSpec.upto nearExactSpec)) nearExactUptoCard

/-- THE SECOND FORM's CARD OF 'gyrelaw13.NearMoved'. -/
def nearMovedUptoCard : Claim7 := { stood := { row := nearMovedUptoRow, standIns := [], harness := (true, "dba008a98b0f78fabbd84c978ee58bb20c9535e3d960f0fb37499a6aeb17da61"), looks := true }, kinds := [], alts := [], laidByText := true, laidKinds := [.data], laidTests := true, laidLooks := .later }
def NearMovedUptoCardSaid : Prop := Claim7.holds Tryd.pinned (.plain (OpenSpec.upto nearMovedSpec)) nearMovedUptoCard

/-- THE SECOND FORM's CARD OF 'gyrelaw13.NearWay'. -/
def nearWayUptoCard : Claim7 := { stood := { row := nearWayUptoRow, standIns := [], harness := (true, "dba008a98b0f78fabbd84c978ee58bb20c9535e3d960f0fb37499a6aeb17da61"), looks := true }, kinds := [], alts := [], laidByText := true, laidKinds := [.data], laidTests := true, laidLooks := .later }
def NearWayUptoCardSaid : Prop := Claim7.holds Tryd.pinned (.plain (OpenSpec.upto nearWaySpec)) nearWayUptoCard
end Rows
end Go.Proofs.YtlageemaenplfaaDoor
