/-
  NARROWER THAN 'FOR EVERY INPUT', by the rows' own cells (each row's printed sentence says how): EnergyHolds: laid · EnergySame: laid · EnergyFalls: laid.
  DERIVED. THE GIVEN ROWS OF THIS SEAT. 3 by the template 'for every input the law returns true; each argument reads behind the call as it read before'; 0 by the template 'total and deterministic' (their statements: YtfedlkjhfnlnbaaDoorTotals.lean).
  GIVEN WITH THE SEED: the statements are not yours to turn. If you find one false, say at which input.
  Laid BY PROGRAM, IN A SANDBOX (cutbox-rows.mjs): the forced cells as the released guide's own fill.sh prints them over the translation 81b7958dfed73848… (all of the seat's roots in one cut). By AI agents, Wed Nov 11 2026. No macro, syntax, notation, axiom, sorry.
-/
import Derived.Test.YtfedlkjhfnlnbaaDoorChecked
import GoSem.Claim
import GoSem.ClaimJoined
import GoSem.ClaimMapViews
import Derived.JoinedTies
import Derived.KernelRfl
namespace Go.Proofs.YtfedlkjhfnlnbaaDoor
/- THE CELL 'sum', in the pinned program and in every row, IS THE sha256 OF THE DUMP (.gsa) THAT YtfedlkjhfnlnbaaDoorProg.lean LOADS. Nothing in Lean hashes anything: it is a label: what it is worth is what the hold of that sum in a sandbox is worth. -/
noncomputable def Tryd.pinned : Pinned := { name := "ytfedlkjhfnlnbaadoor", sum := "81b7958dfed73848e841a90c4baf210ccecd18f1fe5323d6966c33b5c19c5db3", checked := Tryd.checked }
namespace Rows
def none {H : Type} : Left H := { results := [], args := [] }

/- WHAT THE LISTED PACKAGE-LEVEL VARIABLES READ AS WHEN THE CALL BEGINS. Each datum BY PROGRAM (the guide's laid-datum.mjs) off the statement by which the dump's own 'gosem.cut.vars' lays the variable. In a bare row this is a premise. The card (YtfedlkjhfnlnbaaDoorCards.lean) ties it to the program's text. -/
def laid_gyre_conf_names {H : Type} : DataW H := .agg [.lit (.string [98, 111, 100, 105, 101, 115]), .lit (.string [109, 97, 115, 115]), .lit (.string [99, 111, 110, 115, 116, 97, 110, 116]), .lit (.string [98, 111, 120]), .lit (.string [116, 111, 112]), .lit (.string [110, 101, 97, 114]), .lit (.string [109, 101, 116, 104, 111, 100])]
def laid_gyre_quot_least {H : Type} : DataW H := .agg [.lit (.int .u64 0), .lit (.int .u64 0), .lit (.int .u64 0), .lit (.int .u64 9223372036854775808)]

/-- 'gyrelaw22.EnergyHolds': WHATEVER THE INPUT: true; the input reads as it did. -/
def energyHoldsSpec : ChangeSpec := { name := "energyHolds", fn := fun _ => fun
  | [d1, d2, d3, d4] => { results := [.lit (.bool true)], args := [d1, d2, d3, d4] }
  | _ => none }
def energyHoldsRow : OpenClaim := { program := "ytfedlkjhfnlnbaadoor", sum := "81b7958dfed73848e841a90c4baf210ccecd18f1fe5323d6966c33b5c19c5db3", func := "gyre/gyrelaw22.EnergyHolds", spec := "energyHolds", inPlace := ["math/bits.Add64"], unfollowed := true, recurses := true, named := ["gyre/quot.least", "gyre/conf.names"], apart := false, laid := [("gyre/conf.names", laid_gyre_conf_names), ("gyre/quot.least", laid_gyre_quot_least)] }
def EnergyHoldsSaid : Prop := energyHoldsRow.holds Tryd.pinned (OpenSpec.ofChange energyHoldsSpec)

/-- ITS FALSE NEIGHBOUR: 'it returns false'. Refute it at one input. -/
def energyHoldsWrong : ChangeSpec := { name := "energyHolds", fn := fun _ => fun
  | [d1, d2, d3, d4] => { results := [.lit (.bool false)], args := [d1, d2, d3, d4] }
  | _ => none }
def EnergyHoldsWrongFalsely : Prop := energyHoldsRow.holds Tryd.pinned (OpenSpec.ofChange energyHoldsWrong)

/-- 'gyrelaw22.EnergySame': WHATEVER THE INPUT: true; the input reads as it did. -/
def energySameSpec : ChangeSpec := { name := "energySame", fn := fun _ => fun
  | [d1, d2, d3, d4, d5] => { results := [.lit (.bool true)], args := [d1, d2, d3, d4, d5] }
  | _ => none }
def energySameRow : OpenClaim := { program := "ytfedlkjhfnlnbaadoor", sum := "81b7958dfed73848e841a90c4baf210ccecd18f1fe5323d6966c33b5c19c5db3", func := "gyre/gyrelaw22.EnergySame", spec := "energySame", inPlace := ["math/bits.Add64"], unfollowed := true, recurses := true, named := ["gyre/quot.least", "gyre/conf.names"], apart := false, laid := [("gyre/conf.names", laid_gyre_conf_names), ("gyre/quot.least", laid_gyre_quot_least)] }
def EnergySameSaid : Prop := energySameRow.holds Tryd.pinned (OpenSpec.ofChange energySameSpec)

/-- ITS FALSE NEIGHBOUR: 'it returns false'. Refute it at one input. -/
def energySameWrong : ChangeSpec := { name := "energySame", fn := fun _ => fun
  | [d1, d2, d3, d4, d5] => { results := [.lit (.bool false)], args := [d1, d2, d3, d4, d5] }
  | _ => none }
def EnergySameWrongFalsely : Prop := energySameRow.holds Tryd.pinned (OpenSpec.ofChange energySameWrong)

/-- 'gyrelaw22.EnergyFalls': WHATEVER THE INPUT: true; the input reads as it did. -/
def energyFallsSpec : ChangeSpec := { name := "energyFalls", fn := fun _ => fun
  | [d1, d2, d3, d4, d5] => { results := [.lit (.bool true)], args := [d1, d2, d3, d4, d5] }
  | _ => none }
def energyFallsRow : OpenClaim := { program := "ytfedlkjhfnlnbaadoor", sum := "81b7958dfed73848e841a90c4baf210ccecd18f1fe5323d6966c33b5c19c5db3", func := "gyre/gyrelaw22.EnergyFalls", spec := "energyFalls", inPlace := ["math/bits.Add64"], unfollowed := true, recurses := true, named := ["gyre/quot.least", "gyre/conf.names"], apart := false, laid := [("gyre/conf.names", laid_gyre_conf_names), ("gyre/quot.least", laid_gyre_quot_least)] }
def EnergyFallsSaid : Prop := energyFallsRow.holds Tryd.pinned (OpenSpec.ofChange energyFallsSpec)

/-- ITS FALSE NEIGHBOUR: 'it returns false'. Refute it at one input. -/
def energyFallsWrong : ChangeSpec := { name := "energyFalls", fn := fun _ => fun
  | [d1, d2, d3, d4, d5] => { results := [.lit (.bool false)], args := [d1, d2, d3, d4, d5] }
  | _ => none }
def EnergyFallsWrongFalsely : Prop := energyFallsRow.holds Tryd.pinned (OpenSpec.ofChange energyFallsWrong)

/- THE SECOND FORM. 'bulk': how many values and letters a reading holds, each counted each time it is reached (what is shared counts as often as it is met; a slice's spare places count too). A statement '..UptoSaid' is the law's where the arguments, and the package variables that the reading takes, are together of bulk at most 1048576: NARROWER than '..Said'. Prove '..Said' where nothing that the law and all that it calls make is longer than what came in: it says more and counts as full. Else prove '..UptoSaid'. A law counts once. -/
mutual
def uptoBulk {H : Type} : DataW H → Nat
  | .lit (.string bytes) => bytes.length + 1
  | .lit _ => 1
  | .nil => 1
  | .ptr d => uptoBulk d + 1
  | .slice elems spare => uptoBulkAll elems + uptoBulkAll spare + 1
  | .agg parts => uptoBulkAll parts + 1
  | .iface _ d => uptoBulk d + 1
  | .map entries => uptoBulkEntries entries + 1
  | .held _ => 1
def uptoBulkAll {H : Type} : List (DataW H) → Nat
  | [] => 0
  | d :: r => uptoBulk d + uptoBulkAll r
def uptoBulkEntries {H : Type} : List (Lit × DataW H) → Nat
  | [] => 0
  | x :: r => uptoBulkEntry x + uptoBulkEntries r
def uptoBulkEntry {H : Type} : Lit × DataW H → Nat
  | (.string bytes, d) => bytes.length + uptoBulk d + 1
  | (_, d) => uptoBulk d + 1
 end
def uptoSmall : (H : Type) → List (DataW H) → Bool := fun _ ds => decide (uptoBulkAll ds ≤ 1048576)
def OpenSpec.upto (s : _root_.Go.ChangeSpec) : _root_.Go.OpenSpec := { _root_.Go.OpenSpec.ofChange s with cond := some uptoSmall }

/-- 'gyrelaw22.EnergyHolds', WHERE WHAT IT READS IS OF BULK AT MOST 1048576: true; the input reads as it did. -/
def energyHoldsUptoRow : OpenClaim := { program := "ytfedlkjhfnlnbaadoor", sum := "81b7958dfed73848e841a90c4baf210ccecd18f1fe5323d6966c33b5c19c5db3", func := "gyre/gyrelaw22.EnergyHolds", spec := "energyHolds", inPlace := ["math/bits.Add64"], unfollowed := true, recurses := true, named := ["gyre/quot.least", "gyre/conf.names"], apart := false, laid := [("gyre/conf.names", laid_gyre_conf_names), ("gyre/quot.least", laid_gyre_quot_least)], narrowed := true }
def EnergyHoldsUptoSaid : Prop := energyHoldsUptoRow.holds Tryd.pinned (OpenSpec.upto energyHoldsSpec)

/-- 'gyrelaw22.EnergySame', WHERE WHAT IT READS IS OF BULK AT MOST 1048576: true; the input reads as it did. -/
def energySameUptoRow : OpenClaim := { program := "ytfedlkjhfnlnbaadoor", sum := "81b7958dfed73848e841a90c4baf210ccecd18f1fe5323d6966c33b5c19c5db3", func := "gyre/gyrelaw22.EnergySame", spec := "energySame", inPlace := ["math/bits.Add64"], unfollowed := true, recurses := true, named := ["gyre/quot.least", "gyre/conf.names"], apart := false, laid := [("gyre/conf.names", laid_gyre_conf_names), ("gyre/quot.least", laid_gyre_quot_least)], narrowed := true }
def EnergySameUptoSaid : Prop := energySameUptoRow.holds Tryd.pinned (OpenSpec.upto energySameSpec)

/-- 'gyrelaw22.EnergyFalls', WHERE WHAT IT READS IS OF BULK AT MOST 1048576: true; the input reads as it did. -/
def energyFallsUptoRow : OpenClaim := { program := "ytfedlkjhfnlnbaadoor", sum := "81b7958dfed73848e841a90c4baf210ccecd18f1fe5323d6966c33b5c19c5db3", func := "gyre/gyrelaw22.EnergyFalls", spec := "energyFalls", inPlace := ["math/bits.Add64"], unfollowed := true, recurses := true, named := ["gyre/quot.least", "gyre/conf.names"], apart := false, laid := [("gyre/conf.names", laid_gyre_conf_names), ("gyre/quot.least", laid_gyre_quot_least)], narrowed := true }
def EnergyFallsUptoSaid : Prop := energyFallsUptoRow.holds Tryd.pinned (OpenSpec.upto energyFallsSpec)

end Rows
end Go.Proofs.YtfedlkjhfnlnbaaDoor
