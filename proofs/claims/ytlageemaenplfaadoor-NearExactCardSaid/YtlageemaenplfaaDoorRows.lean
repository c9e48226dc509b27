/-
  NARROWER THAN 'FOR EVERY INPUT', by the rows' own cells (each row's printed sentence says how): NearExact: laid · NearMoved: laid · NearWay: laid.
  DERIVED. THE GIVEN ROWS OF THIS SEAT. 3 by the template 'for every input the law returns true; each argument reads behind the call as it read before'; 0 by the template 'total and deterministic' (their statements: YtlageemaenplfaaDoorTotals.lean).
  GIVEN WITH THE SEED: the statements are not yours to turn. If you find one false, say at which input.
  Laid BY PROGRAM, IN A SANDBOX (cutbox-rows.mjs): the forced cells as the released guide's own fill.sh prints them over the translation 7b463fc022180547… (all of the seat's roots in one cut). By AI agents, Wed Nov 11 2026. No macro, syntax, notation, axiom, sorry.
-/
import Derived.Test.YtlageemaenplfaaDoorChecked
import GoSem.Claim
import GoSem.ClaimJoined
import GoSem.ClaimMapViews
import Derived.JoinedTies
import Derived.KernelRfl
namespace Go.Proofs.YtlageemaenplfaaDoor
/- THE CELL 'sum', in the pinned program and in every row, IS THE sha256 OF THE DUMP (.gsa) THAT YtlageemaenplfaaDoorProg.lean LOADS. Nothing in Lean hashes anything: it is a label: what it is worth is what the hold of that sum in a sandbox is worth. -/
noncomputable def Tryd.pinned : Pinned := { name := "ytlageemaenplfaadoor", sum := "7b463fc022180547126609cd6341428af467f597183d6bd72c48cd4019993f41", checked := Tryd.checked }
namespace Rows
def none {H : Type} : Left H := { results := [], args := [] }

/- WHAT THE LISTED PACKAGE-LEVEL VARIABLES READ AS WHEN THE CALL BEGINS. Each datum BY PROGRAM (the guide's laid-datum.mjs) off the statement by which the dump's own 'gosem.cut.vars' lays the variable. In a bare row this is a premise. The card (YtlageemaenplfaaDoorCards.lean) ties it to the program's text. -/
def laid_gyre_conf_names {H : Type} : DataW H := .agg [.lit (.string [98, 111, 100, 105, 101, 115]), .lit (.string [109, 97, 115, 115]), .lit (.string [99, 111, 110, 115, 116, 97, 110, 116]), .lit (.string [98, 111, 120]), .lit (.string [116, 111, 112]), .lit (.string [110, 101, 97, 114]), .lit (.string [109, 101, 116, 104, 111, 100])]

/-- 'gyrelaw13.NearExact': WHATEVER THE INPUT: true; the input reads as it did. -/
def nearExactSpec : ChangeSpec := { name := "nearExact", fn := fun _ => fun
  | [d1, d2] => { results := [.lit (.bool true)], args := [d1, d2] }
  | _ => none }
def nearExactRow : OpenClaim := { program := "ytlageemaenplfaadoor", sum := "7b463fc022180547126609cd6341428af467f597183d6bd72c48cd4019993f41", func := "gyre/gyrelaw13.NearExact", spec := "nearExact", inPlace := ["math/bits.Add64"], unfollowed := true, recurses := true, named := ["gyre/conf.names"], apart := false, laid := [("gyre/conf.names", laid_gyre_conf_names)] }
def NearExactSaid : Prop := nearExactRow.holds Tryd.pinned (OpenSpec.ofChange nearExactSpec)

/-- ITS FALSE NEIGHBOUR: 'it returns false'. Refute it at one input. -/
def nearExactWrong : ChangeSpec := { name := "nearExact", fn := fun _ => fun
  | [d1, d2] => { results := [.lit (.bool false)], args := [d1, d2] }
  | _ => none }
def NearExactWrongFalsely : Prop := nearExactRow.holds Tryd.pinned (OpenSpec.ofChange nearExactWrong)

/-- 'gyrelaw13.NearMoved': WHATEVER THE INPUT: true; the input reads as it did. -/
def nearMovedSpec : ChangeSpec := { name := "nearMoved", fn := fun _ => fun
  | [d1, d2, d3] => { results := [.lit (.bool true)], args := [d1, d2, d3] }
  | _ => none }
def nearMovedRow : OpenClaim := { program := "ytlageemaenplfaadoor", sum := "7b463fc022180547126609cd6341428af467f597183d6bd72c48cd4019993f41", func := "gyre/gyrelaw13.NearMoved", spec := "nearMoved", inPlace := ["math/bits.Add64"], unfollowed := true, recurses := true, named := ["gyre/conf.names"], apart := false, laid := [("gyre/conf.names", laid_gyre_conf_names)] }
def NearMovedSaid : Prop := nearMovedRow.holds Tryd.pinned (OpenSpec.ofChange nearMovedSpec)

/-- ITS FALSE NEIGHBOUR: 'it returns false'. Refute it at one input. -/
def nearMovedWrong : ChangeSpec := { name := "nearMoved", fn := fun _ => fun
  | [d1, d2, d3] => { results := [.lit (.bool false)], args := [d1, d2, d3] }
  | _ => none }
def NearMovedWrongFalsely : Prop := nearMovedRow.holds Tryd.pinned (OpenSpec.ofChange nearMovedWrong)

/-- 'gyrelaw13.NearWay': WHATEVER THE INPUT: true; the input reads as it did. -/
def nearWaySpec : ChangeSpec := { name := "nearWay", fn := fun _ => fun
  | [d] => { results := [.lit (.bool true)], args := [d] }
  | _ => none }
def nearWayRow : OpenClaim := { program := "ytlageemaenplfaadoor", sum := "7b463fc022180547126609cd6341428af467f597183d6bd72c48cd4019993f41", func := "gyre/gyrelaw13.NearWay", spec := "nearWay", inPlace := ["math/bits.Add64"], unfollowed := true, recurses := true, named := ["gyre/conf.names"], apart := false, laid := [("gyre/conf.names", laid_gyre_conf_names)] }
def NearWaySaid : Prop := nearWayRow.holds Tryd.pinned (OpenSpec.ofChange nearWaySpec)

/-- ITS FALSE NEIGHBOUR: 'it returns false'. Refute it at one input. -/
def nearWayWrong : ChangeSpec := { name := "nearWay", fn := fun _ => fun
  | [d] => { results := [.lit (.bool false)], args := [d] }
  | _ => none }
def NearWayWrongFalsely : Prop := nearWayRow.holds Tryd.pinned (OpenSpec.ofChange nearWayWrong)

/- THE SECOND FORM. 'bulk': how many values and letters a reading holds, each counted each time it is reached (what is shared counts as often as it is met; a slice's spare places count too). A statement '..UptoSaid' is the law's where the arguments, and the package variables that the reading takes, are together of bulk at most 1048576: NARROWER than '..Said'. Prove '..Said' where nothing that the law and all that it calls make is longer than what came in: it says more and counts as full. Else prove '..UptoSaid'. A law counts once. -/
mutual
def uptoBulk {H : Type} : DataW H → Nat
  | .lit (.string bytes) => bytes.length + 1
  | .lit _ => 1
  | .nil => 1
  | .ptr d => uptoBulk d + 1
  | .slice elems spare => uptoBulkAll elems + uptoBulkAll spare + 1
  | .agg parts => uptoBulkAll parts + 1
  | .iface _ d => uptoBulk d + 1
  | .map entries => uptoBulkEntries entries + 1
  | .held _ => 1
def uptoBulkAll {H : Type} : List (DataW H) → Nat
  | [] => 0
  | d :: r => uptoBulk d + uptoBulkAll r
def uptoBulkEntries {H : Type} : List (Lit × DataW H) → Nat
  | [] => 0
  | x :: r => uptoBulkEntry x + uptoBulkEntries r
def uptoBulkEntry {H : Type} : Lit × DataW H → Nat
  | (.string bytes, d) => bytes.length + uptoBulk d + 1
  | (_, d) => uptoBulk d + 1
 end
def uptoSmall : (H : Type) → List (DataW H) → Bool := fun _ ds => decide (uptoBulkAll ds ≤ 1048576)
def OpenSpec.upto (s : _root_.Go.ChangeSpec) : _root_.Go.OpenSpec := { _root_.Go.OpenSpec.ofChange s with cond := some uptoSmall }

/-- 'gyrelaw13.NearExact', WHERE WHAT IT READS IS OF BULK AT MOST 1048576: true; the input reads as it did. -/
def nearExactUptoRow : OpenClaim := { program := "ytlageemaenplfaadoor", sum := "7b463fc022180547126609cd6341428af467f597183d6bd72c48cd4019993f41", func := "gyre/gyrelaw13.NearExact", spec := "nearExact", inPlace := ["math/bits.Add64"], unfollowed := true, recurses := true, named := ["gyre/conf.names"], apart := false, laid := [("gyre/conf.names", laid_gyre_conf_names)], narrowed := true }
def NearExactUptoSaid : Prop := nearExactUptoRow.holds Tryd.pinned (OpenSpec.upto nearExactSpec)

/-- 'gyrelaw13.NearMoved', WHERE WHAT IT READS IS OF BULK AT MOST 1048576: true; the input reads as it did. -/
def nearMovedUptoRow : OpenClaim := { program := "ytlageemaenplfaadoor", sum := "7b463fc022180547126609cd6341428af467f597183d6bd72c48cd4019993f41", func := "gyre/gyrelaw13.NearMoved", spec := "nearMoved", inPlace := ["math/bits.Add64"], unfollowed := true, recurses := true, named := ["gyre/conf.names"], apart := false, laid := [("gyre/conf.names", laid_gyre_conf_names)], narrowed := true }
def NearMovedUptoSaid : Prop := nearMovedUptoRow.holds Tryd.pinned (OpenSpec.upto nearMovedSpec)

/-- 'gyrelaw13.NearWay', WHERE WHAT IT READS IS OF BULK AT MOST 1048576: true; the input reads as it did. -/
def nearWayUptoRow : OpenClaim := { program := "ytlageemaenplfaadoor", sum := "7b463fc022180547126609cd6341428af467f597183d6bd72c48cd4019993f41", func := "gyre/gyrelaw13.NearWay", spec := "nearWay", inPlace := ["math/bits.Add64"], unfollowed := true, recurses := true, named := ["gyre/conf.names"], apart := false, laid := [("gyre/conf.names", laid_gyre_conf_names)], narrowed := true }
def NearWayUptoSaid : Prop := nearWayUptoRow.holds Tryd.pinned (OpenSpec.upto nearWaySpec)

end Rows
end Go.Proofs.YtlageemaenplfaaDoor
