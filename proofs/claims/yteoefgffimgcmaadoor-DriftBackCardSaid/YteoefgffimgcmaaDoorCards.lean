/-
  DERIVED. GIVEN WITH THE SEED: THE CARDS: each row of YteoefgffimgcmaaDoorRows.lean that lists a variable, with what it lists TIED to the program's text (the seventh form; the later family's looks); each row that meets fmt, with fmt's text TOLD by the authors' own Lean function (tested against real Go, not proved from fmt's source: count such statements apart). THE CARD IS WHAT COUNTS. Prove the row's statement (the work); the ties are given (YteoefgffimgcmaaDoorTie.lean); close each card by the builder's one call (the guide's Derived/Test/ToyasCard.lean, 'card_holds'). Laid BY PROGRAM, IN A SANDBOX (cutbox-door.mjs). By AI agents, Wed Nov 11 2026. No macro, syntax, notation, axiom, sorry.
-/
import Derived.Test.YteoefgffimgcmaaDoorRows
import GoSem.ClaimSeven
namespace Go.Proofs.YteoefgffimgcmaaDoor
namespace Rows

/-- THE TIED CARD OF 'gyrelaw15.DriftTells'. -/
def driftTellsCard : Claim7 := { stood := { row := driftTellsRow, standIns := [], harness := (true, "a995fe8b70a9ecc10307392138f0f4804869fbf08d5ed1bf18b566577f658fc5"), looks := true }, kinds := [], alts := [], laidByText := true, laidKinds := [.data], laidTests := true, laidLooks := .later }
def DriftTellsCardSaid : Prop := Claim7.holds Tryd.pinned (.plain (OpenSpec.ofChange driftTellsSpec)) driftTellsCard

/-- THE TIED CARD OF 'gyrelaw15.DriftBack'. -/
def driftBackCard : Claim7 := { stood := { row := driftBackRow, standIns := [], harness := (true, "a995fe8b70a9ecc10307392138f0f4804869fbf08d5ed1bf18b566577f658fc5"), looks := true }, kinds := [], alts := [], laidByText := true, laidKinds := [.data], laidTests := true, laidLooks := .later }
def DriftBackCardSaid : Prop := Claim7.holds Tryd.pinned (.plain (OpenSpec.ofChange driftBackSpec)) driftBackCard

/-- THE TIED CARD OF 'gyrelaw15.DriftHalf'. -/
def driftHalfCard : Claim7 := { stood := { row := driftHalfRow, standIns := [], harness := (true, "a995fe8b70a9ecc10307392138f0f4804869fbf08d5ed1bf18b566577f658fc5"), looks := true }, kinds := [], alts := [], laidByText := true, laidKinds := [.data], laidTests := true, laidLooks := .later }
def DriftHalfCardSaid : Prop := Claim7.holds Tryd.pinned (.plain (OpenSpec.ofChange driftHalfSpec)) driftHalfCard

/-- THE TIED CARD OF 'gyrelaw15.DriftEach'. -/
def driftEachCard : Claim7 := { stood := { row := driftEachRow, standIns := [], harness := (true, "a995fe8b70a9ecc10307392138f0f4804869fbf08d5ed1bf18b566577f658fc5"), looks := true }, kinds := [], alts := [], laidByText := true, laidKinds := [.data], laidTests := true, laidLooks := .later }
def DriftEachCardSaid : Prop := Claim7.holds Tryd.pinned (.plain (OpenSpec.ofChange driftEachSpec)) driftEachCard

/-- THE TIED CARD OF 'gyrelaw15.DriftParts'. -/
def driftPartsCard : Claim7 := { stood := { row := driftPartsRow, standIns := [], harness := (true, "a995fe8b70a9ecc10307392138f0f4804869fbf08d5ed1bf18b566577f658fc5"), looks := true }, kinds := [], alts := [], laidByText := true, laidKinds := [.data], laidTests := true, laidLooks := .later }
def DriftPartsCardSaid : Prop := Claim7.holds Tryd.pinned (.plain (OpenSpec.ofChange driftPartsSpec)) driftPartsCard

/-- THE TIED CARD OF 'gyrelaw13.NearExact'. -/
def nearExactCard : Claim7 := { stood := { row := nearExactRow, standIns := [], harness := (true, "a995fe8b70a9ecc10307392138f0f4804869fbf08d5ed1bf18b566577f658fc5"), looks := true }, kinds := [], alts := [], laidByText := true, laidKinds := [.data], laidTests := true, laidLooks := .later }
def NearExactCardSaid : Prop := Claim7.holds Tryd.pinned (.plain (OpenSpec.ofChange nearExactSpec)) nearExactCard

/-- THE TIED CARD OF 'gyrelaw13.NearMoved'. -/
def nearMovedCard : Claim7 := { stood := { row := nearMovedRow, standIns := [], harness := (true, "a995fe8b70a9ecc10307392138f0f4804869fbf08d5ed1bf18b566577f658fc5"), looks := true }, kinds := [], alts := [], laidByText := true, laidKinds := [.data], laidTests := true, laidLooks := .later }
def NearMovedCardSaid : Prop := Claim7.holds Tryd.pinned (.plain (OpenSpec.ofChange nearMovedSpec)) nearMovedCard

/-- THE TIED CARD OF 'gyrelaw13.NearWay'. -/
def nearWayCard : Claim7 := { stood := { row := nearWayRow, standIns := [], harness := (true, "a995fe8b70a9ecc10307392138f0f4804869fbf08d5ed1bf18b566577f658fc5"), looks := true }, kinds := [], alts := [], laidByText := true, laidKinds := [.data], laidTests := true, laidLooks := .later }
def NearWayCardSaid : Prop := Claim7.holds Tryd.pinned (.plain (OpenSpec.ofChange nearWaySpec)) nearWayCard

/-- THE SECOND FORM's CARD OF 'gyrelaw15.DriftTells'. -/
def driftTellsUptoCard : Claim7 := { stood := { row := driftTellsUptoRow, standIns := [], harness := (true, "a995fe8b70a9ecc10307392138f0f4804869fbf08d5ed1bf18b566577f658fc5"), looks := true }, kinds := [], alts := [], laidByText := true, laidKinds := [.data], laidTests := true, laidLooks := .later }
def DriftTellsUptoCardSaid : Prop := Claim7.holds Tryd.pinned (.plain (OpenSpec.upto driftTellsSpec)) driftTellsUptoCard

/-- THE SECOND FORM's CARD OF 'gyrelaw15.DriftBack'. -/
def driftBackUptoCard : Claim7 := { stood := { row := driftBackUptoRow, standIns := [], harness := (true, "a995fe8b70a9ecc10307392138f0f4804869fbf08d5ed1bf18b566577f658fc5"), looks := true }, kinds := [], alts := [], laidByText := true, laidKinds := [.data], laidTests := true, laidLooks := .later }
def DriftBackUptoCardSaid : Prop := Claim7.holds Tryd.pinned (.plain (OpenSpec.upto driftBackSpec)) driftBackUptoCard

/-- THE SECOND FORM's CARD OF 'gyrelaw15.DriftHalf'. -/
def driftHalfUptoCard : Claim7 := { stood := { row := driftHalfUptoRow, standIns := [], harness := (true, "a995fe8b70a9ecc10307392138f0f4804869fbf08d5ed1bf18b566577f658fc5"), looks := true }, kinds := [], alts := [], laidByText := true, laidKinds := [.data], laidTests := true, laidLooks := .later }
def DriftHalfUptoCardSaid : Prop := Claim7.holds Tryd.pinned (.plain (OpenSpec.upto driftHalfSpec)) driftHalfUptoCard

/-- THE SECOND FORM's CARD OF 'gyrelaw15.DriftEach'. -/
def driftEachUptoCard : Claim7 := { stood := { row := driftEachUptoRow, standIns := [], harness := (true, "a995fe8b70a9ecc10307392138f0f4804869fbf08d5ed1bf18b566577f658fc5"), looks := true }, kinds := [], alts := [], laidByText := true, laidKinds := [.data], laidTests := true, laidLooks := .later }
def DriftEachUptoCardSaid : Prop := Claim7.holds Tryd.pinned (.plain (OpenSpec.upto driftEachSpec)) driftEachUptoCard

/-- THE SECOND FORM's CARD OF 'gyrelaw15.DriftParts'. -/
def driftPartsUptoCard : Claim7 := { stood := { row := driftPartsUptoRow, standIns := [], harness := (true, "a995fe8b70a9ecc10307392138f0f4804869fbf08d5ed1bf18b566577f658fc5"), looks := true }, kinds := [], alts := [], laidByText := true, laidKinds := [.data], laidTests := true, laidLooks := .later }
def DriftPartsUptoCardSaid : Prop := Claim7.holds Tryd.pinned (.plain (OpenSpec.upto driftPartsSpec)) driftPartsUptoCard

/-- THE SECOND FORM's CARD OF 'gyrelaw13.NearExact'. -/
def nearExactUptoCard : Claim7 := { stood := { row := nearExactUptoRow, standIns := [], harness := (true, "a995fe8b70a9ecc10307392138f0f4804869fbf08d5ed1bf18b566577f658fc5"), looks := true }, kinds := [], alts := [], laidByText := true, laidKinds := [.data], laidTests := true, laidLooks := .later }
def NearExactUptoCardSaid : Prop := Claim7.holds Tryd.pinned (.plain (OpenSpec.upto nearExactSpec)) nearExactUptoCard

/-- THE SECOND FORM's CARD OF 'gyrelaw13.NearMoved'. -/
def nearMovedUptoCard : Claim7 := { stood := { row := nearMovedUptoRow, standIns := [], harness := (true, "a995fe8b70a9ecc10307392138f0f4804869fbf08d5ed1bf18b566577f658fc5"), looks := true }, kinds := [], alts := [], laidByText := true, laidKinds := [.data], laidTests := true, laidLooks := .later }
def NearMovedUptoCardSaid : Prop := Claim7.holds Tryd.pinned (.plain (OpenSpec.upto nearMovedSpec)) nearMovedUptoCard

/-- THE SECOND FORM's CARD OF 'gyrelaw13.NearWay'. -/
def nearWayUptoCard : Claim7 := { stood := { row := nearWayUptoRow, standIns := [], harness := (true, "a995fe8b70a9ecc10307392138f0f4804869fbf08d5ed1bf18b566577f658fc5"), looks := true }, kinds := [], alts := [], laidByText := true, laidKinds := [.data], laidTests := true, laidLooks := .later }
def NearWayUptoCardSaid : Prop := Claim7.holds Tryd.pinned (.plain (OpenSpec.upto nearWaySpec)) nearWayUptoCard
end Rows
end Go.Proofs.YteoefgffimgcmaaDoor
