/-
  NARROWER THAN 'FOR EVERY INPUT', by the rows' own cells (each row's printed sentence says how): EnergyTells: laid · EnergyWidth: laid.
  DERIVED. THE GIVEN ROWS OF THIS SEAT. 2 by the template 'for every input the law returns true; each argument reads behind the call as it read before'; 0 by the template 'total and deterministic' (their statements: YtfedlkjhfnlnbaaGreatDoorTotals.lean).
  GIVEN WITH THE SEED: the statements are not yours to turn. If you find one false, say at which input.
  Laid BY PROGRAM, IN A SANDBOX (cutbox-rows.mjs): the forced cells as the released guide's own fill.sh prints them over the translation c097df0a233ce052… (all of the seat's roots in one cut). By AI agents, Wed Nov 11 2026. No macro, syntax, notation, axiom, sorry.
-/
import Derived.Test.YtfedlkjhfnlnbaaGreatDoorChecked
import GoSem.Claim
import GoSem.ClaimJoined
import GoSem.ClaimMapViews
import Derived.JoinedTies
import Derived.KernelRfl
namespace Go.Proofs.YtfedlkjhfnlnbaaGreatDoor
/- THE CELL 'sum', in the pinned program and in every row, IS THE sha256 OF THE DUMP (.gsa) THAT YtfedlkjhfnlnbaaGreatDoorProg.lean LOADS. Nothing in Lean hashes anything: it is a label: what it is worth is what the hold of that sum in a sandbox is worth. -/
noncomputable def Tryz.pinned : Pinned := { name := "ytfedlkjhfnlnbaagreatdoor", sum := "c097df0a233ce0521c4984d80f2317abc593306f5e94ab4d7b5e413bc3fdacda", checked := Tryz.checked }
namespace Rows
def none {H : Type} : Left H := { results := [], args := [] }

/- WHAT THE LISTED PACKAGE-LEVEL VARIABLES READ AS WHEN THE CALL BEGINS. Each datum BY PROGRAM (the guide's laid-datum.mjs) off the statement by which the dump's own 'gosem.cut.vars' lays the variable. In a bare row this is a premise. The card (YtfedlkjhfnlnbaaGreatDoorCards.lean) ties it to the program's text. -/
def laid_gyre_conf_names {H : Type} : DataW H := .agg [.lit (.string [98, 111, 100, 105, 101, 115]), .lit (.string [109, 97, 115, 115]), .lit (.string [99, 111, 110, 115, 116, 97, 110, 116]), .lit (.string [98, 111, 120]), .lit (.string [116, 111, 112]), .lit (.string [110, 101, 97, 114]), .lit (.string [109, 101, 116, 104, 111, 100])]
def laid_gyre_quot_least {H : Type} : DataW H := .agg [.lit (.int .u64 0), .lit (.int .u64 0), .lit (.int .u64 0), .lit (.int .u64 9223372036854775808)]

/-- 'gyrelaw22.EnergyTells': WHATEVER THE INPUT: true; the input reads as it did. -/
def energyTellsSpec : ChangeSpec := { name := "energyTells", fn := fun _ => fun
  | [d1, d2, d3, d4, d5, d6, d7, d8] => { results := [.lit (.bool true)], args := [d1, d2, d3, d4, d5, d6, d7, d8] }
  | _ => none }
def energyTellsRow : OpenClaim := { program := "ytfedlkjhfnlnbaagreatdoor", sum := "c097df0a233ce0521c4984d80f2317abc593306f5e94ab4d7b5e413bc3fdacda", func := "gyre/gyrelaw22.EnergyTells", spec := "energyTells", inPlace := ["math/bits.Add64"], unfollowed := true, recurses := true, named := ["gyre/quot.least", "gyre/conf.names"], apart := false, laid := [("gyre/conf.names", laid_gyre_conf_names), ("gyre/quot.least", laid_gyre_quot_least)] }
def EnergyTellsSaid : Prop := energyTellsRow.holds Tryz.pinned (OpenSpec.ofChange energyTellsSpec)

/-- ITS FALSE NEIGHBOUR: 'it returns false'. Refute it at one input. -/
def energyTellsWrong : ChangeSpec := { name := "energyTells", fn := fun _ => fun
  | [d1, d2, d3, d4, d5, d6, d7, d8] => { results := [.lit (.bool false)], args := [d1, d2, d3, d4, d5, d6, d7, d8] }
  | _ => none }
def EnergyTellsWrongFalsely : Prop := energyTellsRow.holds Tryz.pinned (OpenSpec.ofChange energyTellsWrong)

/-- 'gyrelaw22.EnergyWidth': WHATEVER THE INPUT: true; the input reads as it did. -/
def energyWidthSpec : ChangeSpec := { name := "energyWidth", fn := fun _ => fun
  | [d1, d2] => { results := [.lit (.bool true)], args := [d1, d2] }
  | _ => none }
def energyWidthRow : OpenClaim := { program := "ytfedlkjhfnlnbaagreatdoor", sum := "c097df0a233ce0521c4984d80f2317abc593306f5e94ab4d7b5e413bc3fdacda", func := "gyre/gyrelaw22.EnergyWidth", spec := "energyWidth", inPlace := ["math/bits.Add64"], unfollowed := true, recurses := true, named := ["gyre/quot.least", "gyre/conf.names"], apart := false, laid := [("gyre/conf.names", laid_gyre_conf_names), ("gyre/quot.least", laid_gyre_quot_least)] }
def EnergyWidthSaid : Prop := energyWidthRow.holds Tryz.pinned (OpenSpec.ofChange energyWidthSpec)

/-- ITS FALSE NEIGHBOUR: 'it returns false'. Refute it at one input. -/
def energyWidthWrong : ChangeSpec := { name := "energyWidth", fn := fun _ => fun
  | [d1, d2] => { results := [.lit (.bool false)], args := [d1, d2] }
  | _ => none }
def EnergyWidthWrongFalsely : Prop := energyWidthRow.holds Tryz.pinned (OpenSpec.ofChange energyWidthWrong)

/- THE SECOND FORM. 'bulk': how many values and letters a reading holds, each counted each time it is reached (what is shared counts as often as it is met; a slice's spare places count too). A statement '..UptoSaid' is the law's where the arguments, and the package variables that the reading takes, are together of bulk at most 1048576: NARROWER than '..Said'. Prove '..Said' where nothing that the law and all that it calls make is longer than what came in: it says more and counts as full. Else prove '..UptoSaid'. A law counts once. -/
mutual
def uptoBulk {H : Type} : DataW H → Nat
  | .lit (.string bytes) => bytes.length + 1
  | .lit _ => 1
  | .nil => 1
  | .ptr d => uptoBulk d + 1
  | .slice elems spare => uptoBulkAll elems + uptoBulkAll spare + 1
  | .agg parts => uptoBulkAll parts + 1
  | .iface _ d => uptoBulk d + 1
  | .map entries => uptoBulkEntries entries + 1
  | .held _ => 1
def uptoBulkAll {H : Type} : List (DataW H) → Nat
  | [] => 0
  | d :: r => uptoBulk d + uptoBulkAll r
def uptoBulkEntries {H : Type} : List (Lit × DataW H) → Nat
  | [] => 0
  | x :: r => uptoBulkEntry x + uptoBulkEntries r
def uptoBulkEntry {H : Type} : Lit × DataW H → Nat
  | (.string bytes, d) => bytes.length + uptoBulk d + 1
  | (_, d) => uptoBulk d + 1
 end
def uptoSmall : (H : Type) → List (DataW H) → Bool := fun _ ds => decide (uptoBulkAll ds ≤ 1048576)
def OpenSpec.upto (s : _root_.Go.ChangeSpec) : _root_.Go.OpenSpec := { _root_.Go.OpenSpec.ofChange s with cond := some uptoSmall }

/-- 'gyrelaw22.EnergyTells', WHERE WHAT IT READS IS OF BULK AT MOST 1048576: true; the input reads as it did. -/
def energyTellsUptoRow : OpenClaim := { program := "ytfedlkjhfnlnbaagreatdoor", sum := "c097df0a233ce0521c4984d80f2317abc593306f5e94ab4d7b5e413bc3fdacda", func := "gyre/gyrelaw22.EnergyTells", spec := "energyTells", inPlace := ["math/bits.Add64"], unfollowed := true, recurses := true, named := ["gyre/quot.least", "gyre/conf.names"], apart := false, laid := [("gyre/conf.names", laid_gyre_conf_names), ("gyre/quot.least", laid_gyre_quot_least)], narrowed := true }
def EnergyTellsUptoSaid : Prop := energyTellsUptoRow.holds Tryz.pinned (OpenSpec.upto energyTellsSpec)

/-- 'gyrelaw22.EnergyWidth', WHERE WHAT IT READS IS OF BULK AT MOST 1048576: true; the input reads as it did. -/
def energyWidthUptoRow : OpenClaim := { program := "ytfedlkjhfnlnbaagreatdoor", sum := "c097df0a233ce0521c4984d80f2317abc593306f5e94ab4d7b5e413bc3fdacda", func := "gyre/gyrelaw22.EnergyWidth", spec := "energyWidth", inPlace := ["math/bits.Add64"], unfollowed := true, recurses := true, named := ["gyre/quot.least", "gyre/conf.names"], apart := false, laid := [("gyre/conf.names", laid_gyre_conf_names), ("gyre/quot.least", laid_gyre_quot_least)], narrowed := true }
def EnergyWidthUptoSaid : Prop := energyWidthUptoRow.holds Tryz.pinned (OpenSpec.upto energyWidthSpec)

end Rows
end Go.Proofs.YtfedlkjhfnlnbaaGreatDoor
